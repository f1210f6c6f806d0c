/- plunderlaw11.WorkerLone answers true for every input of the bulk that the statement names, and leaves its input alone. Conditions: none. -/
import Derived.Test.YtaiffafelihaaaaGreatDoorZ3
set_option linter.unusedVariables false
set_option linter.unusedSimpArgs false
set_option linter.unusedSectionVars false
set_option maxRecDepth 100000
set_option maxHeartbeats 4000000
set_option autoImplicit true
set_option relaxedAutoImplicit true
namespace Go.Proofs.YtaiffafelihaaaaGreatDoor
open Proofs.Tryz
section
namespace Mo
open Go SL GX
def wrap(i:Nat)(D:aY)(r:ak)(S:ag)(M:af):Option (ak×Int×ag×af×aY):=if r.aG=0 then some (r,0,S,M,D)else some ({r with tT:=(i:Int)},0,S,M,D)
def Oy(C:Am.jv)(p:aE)(sz n i:Nat)(M:af)(D':aY)(o:Am.Out)(r:Option (ak×Int×ag×af×aY)):Prop:=
 ∃S' M',r=some (VI i o.ev,0,S',M',D')/\W5 C p o.s S'/\AR C o.s M' sz (n+1)/\Lg C o.s M M' o.acc
section
variable {K:Nat}{C:Am.jv}{p:aE}{s:Am.St}{S:ag}{M:af}{sz n i:Nat}{D:aY}{d:Int}
theorem Yx{e:Option Am.Ev}(h:Yd e){S':ag}{M':af}:wrap i D (Mw e) S' M'=some (VI i e,0,S',M',D):=by
 unfold wrap;cases e with
 | none=>rw[bg (show(Mw none).aG=0 from rfl)];rfl
 | some e=>rw[cQ (by show ¬((e.kind:Nat):Int)=0;have:e.kind≠0:=h;omega)];rfl
theorem ox.w{o:Am.Out}{r:Option (ak×ag×af)}{r':Option (ak×Int×ag×af×aY)}(h:ox C p sz n M o r)(hr:r'=rN r (wrap i D)):Oy C p sz n i M D o r':=by
 obtain⟨S',M',rfl,h1,h2,h3,h4⟩:=h;exact⟨S',M',by rw[hr,dA,Yx h4],h1,h2,h3⟩
variable (b:xx C p s S M sz n)(hi:i<C.N)
include b hi
theorem W7{k:Nat}(h:(act S i).aO=k)(hk:k<15):bJ (GX.J S.aj i).aO QD.length/\GX.J QD (GX.J S.aj i).aO.toNat=GX.J QD k:=by
 have h':(GX.J S.aj i).aO=k:=h;refine⟨by rw[h'];exact⟨I,by show(k:Int)<15;omega⟩,by rw[h',di]⟩
theorem ZZ{k:Nat}(h:(act S i).aO=k)(hk:k=13∨k=14):bG K S M (i:Int) D=some (⟨0,0,0,0,0,0⟩,0,S,M,D):=by
 obtain⟨h1,h2⟩:=W7 b hi h I;unfold bG aq;rw[gz,ez,cQ (by rw[b.oR.wl];omega),gz,bg (b.Kx hi),di,bg h1,h2,bg (by rcases hk with rfl | rfl<;>rfl)]
theorem Yy(h:(act S i).aO=0):bG K S M (i:Int) D=rN (jE S M (i:Int) D) (wrap i D):=by
 obtain⟨h1,h2⟩:=W7 b hi (k:=0) h gB;have h':(GX.J S.aj i).aO=0:=h;unfold bG lX aq;rw[gz,ez,cQ (by rw[b.oR.wl];omega),gz,bg (b.Kx hi),di,bg h1,h2,cQ gB,lO,bg h'];rfl
theorem ac0(h:(act S i).aO=1):bG K S M (i:Int) D=rN (kQ S M (i:Int) D) (wrap i D):=by
 obtain⟨h1,h2⟩:=W7 b hi (k:=1) h gB;have h':(GX.J S.aj i).aO=1:=h;unfold bG lX aq;rw[gz,ez,cQ (by rw[b.oR.wl];omega),gz,bg (b.Kx hi),di,bg h1,h2,cQ gB,lO,gl h',bg h'];rfl
theorem aa8(h:(act S i).aO=2):bG K S M (i:Int) D=rN (jW S M (i:Int) D) (wrap i D):=by
 obtain⟨h1,h2⟩:=W7 b hi (k:=2) h gB;have h':(GX.J S.aj i).aO=2:=h;unfold bG lX aq;rw[gz,ez,cQ (by rw[b.oR.wl];omega),gz,bg (b.Kx hi),di,bg h1,h2,cQ gB,lO,gl h',gl h',bg h'];rfl
theorem yU(h:(act S i).aO=3):bG K S M (i:Int) D=rN (cz S M (i:Int) D) (wrap i D):=by
 obtain⟨h1,h2⟩:=W7 b hi (k:=3) h gB;have h':(GX.J S.aj i).aO=3:=h;unfold bG lX aq;rw[gz,ez,cQ (by rw[b.oR.wl];omega),gz,bg (b.Kx hi),di,bg h1,h2,cQ gB,lO,gl h',gl h',gl h',bg h'];rfl
theorem aa9(h:(act S i).aO=4):bG K S M (i:Int) D=rN (gH S M (i:Int) D) (wrap i D):=by
 obtain⟨h1,h2⟩:=W7 b hi (k:=4) h gB;have h':(GX.J S.aj i).aO=4:=h;unfold bG lX aq;rw[gz,ez,cQ (by rw[b.oR.wl];omega),gz,bg (b.Kx hi),di,bg h1,h2,cQ gB,lO,gl h',gl h',gl h',gl h',bg h'];rfl
theorem aba(h:(act S i).aO=5):bG K S M (i:Int) D=rN (dx S M (i:Int) D) (wrap i D):=by
 obtain⟨h1,h2⟩:=W7 b hi (k:=5) h gB;have h':(GX.J S.aj i).aO=5:=h;unfold bG lX aq;rw[gz,ez,cQ (by rw[b.oR.wl];omega),gz,bg (b.Kx hi),di,bg h1,h2,cQ gB,lO,gl h',gl h',gl h',gl h',gl h',bg h'];rfl
theorem Oz(h:(act S i).aO=6):bG K S M (i:Int) D=rN (eT S M (i:Int) D) (wrap i D):=by
 obtain⟨h1,h2⟩:=W7 b hi (k:=6) h gB;have h':(GX.J S.aj i).aO=6:=h;unfold bG lX aq;rw[gz,ez,cQ (by rw[b.oR.wl];omega),gz,bg (b.Kx hi),di,bg h1,h2,cQ gB,lO,gl h',gl h',gl h',gl h',gl h',gl h',bg h'];rfl
theorem abb(h:(act S i).aO=7):bG K S M (i:Int) D=rN (gI S M (i:Int) D) (wrap i D):=by
 obtain⟨h1,h2⟩:=W7 b hi (k:=7) h gB;have h':(GX.J S.aj i).aO=7:=h;unfold bG lX aq;rw[gz,ez,cQ (by rw[b.oR.wl];omega),gz,bg (b.Kx hi),di,bg h1,h2,cQ gB,lO,gl h',gl h',gl h',gl h',gl h',gl h',gl h',bg h'];rfl
theorem G0(h:(act S i).aO=8):bG K S M (i:Int) D=rN (dc S M (i:Int) D) (wrap i D):=by
 obtain⟨h1,h2⟩:=W7 b hi (k:=8) h gB;have h':(GX.J S.aj i).aO=8:=h;unfold bG lX aq;rw[gz,ez,cQ (by rw[b.oR.wl];omega),gz,bg (b.Kx hi),di,bg h1,h2,cQ gB,lO,gl h',gl h',gl h',gl h',gl h',gl h',gl h',gl h',bg h'];rfl
def drawn(q:Am.Pc)(D:aY):aY:=match q with
 | .lS=>Se D
 | _=>D
def alx:Am.Pc->Bool
 | .halted | .full | .start _ | .run | .fork _ | .nB | .out .. | .take .. | .done | .ya _ | .wG .. | .oF .. | .oG .. | .grow .. | .lY .. | .js .. | .iZ .. | .lD .. | .ja .. | .nC .. | .Cs
 | .Ae | .uL _ | .oh _ | .zi _ | .sD .. | .nD .. | .qH .. | .oP .. => true
 | _=>false
theorem Tj(hK:100<K)(hx:alx (s.pc i)=true):Oy C p sz n i M (drawn (s.pc i) D) (Am.aH C s i (IZ D)) (bG K S M (i:Int) D):=by
 obtain⟨w1,w2,w3⟩:=b.oR.wk i hi;cases hp:s.pc i with
 | halted =>
  rw[hp]at w3;rw[ZZ b hi (k:=13) w3 (.inl rfl)];unfold Am.aH;rw[hp];exact⟨S,M,rfl,b.oR,b.ar.keep rfl rfl rfl rfl,Lg.none_⟩
 | full =>
  rw[hp]at w3;rw[ZZ b hi (k:=14) w3 (.inr rfl)];unfold Am.aH;rw[hp];exact⟨S,M,rfl,b.oR,b.ar.keep rfl rfl rfl rfl,Lg.none_⟩
 | run =>
  rw[hp]at w3;obtain⟨f,ci,t,agd,hr⟩:=Yw (M:=M) (D:=D) b hi hp;have hd:=ac0 (K:=K) (D:=D) b hi w3;rw[hr]at hd;have hk:ci.aG=0∨ci.aG=1∨ci.aG=2∨ci.aG=3∨ci.aG=4∨ci.aG=5∨ci.aG=6∨ci.aG=7∨ci.aG=8∨ci.aG=9:=by have:=agd.kd;omega
  rcases hk with k | k | k | k | k | k | k | k | k | k
  ·exact(acM b hi agd hp k).w hd
  ·exact(acN b hi agd hp k).w hd
  ·exact(acO b hi agd hp k).w hd
  ·exact(acP b hi agd hp k).w hd
  ·exact(acQ b hi agd hp k).w hd
  ·exact(acX b hi agd hp k).w hd
  ·exact(acU b hi agd hp k).w hd
  ·exact(acT b hi agd hp k).w hd
  ·exact(acR b hi agd hp k).w hd
  ·exact(acV b hi agd hp k).w hd
 | start x =>
  rw[hp]at w3;exact(VU b hi hp).w (Yy b hi w3.1)
 | fork c =>
  rw[hp]at w3;exact(Ys b hi hp).w (aa8 b hi w3.1)
 | nB =>
  rw[hp]at w3;exact(P3 b hi hp).w (aba b hi w3.1)
 | out pp c =>
  rw[hp]at w3;exact(aa6 b hi hp).w (Oz b hi w3.1)
 | take pp c =>
  rw[hp]at w3;exact(Yu b hi hp).w (Oz b hi w3.1)
 | done =>
  rw[hp]at w3;exact(Yn b hi hp).w (abb b hi w3.1)
 | ya c =>
  rw[hp]at w3;exact(VM b hi hp).w (yU b hi w3.1)
 | wG c bb =>
  rw[hp]at w3;exact(VN b hi hp).w (yU b hi w3.1)
 | oF c bb t =>
  rw[hp]at w3;exact(PS b hi hp).w (yU b hi w3.1)
 | oG c bb t =>
  rw[hp]at w3;exact(PT b hi hp).w (yU b hi w3.1)
 | grow c bb t cc =>
  rw[hp]at w3;exact(Yg b hi hp).w (yU b hi w3.1)
 | lY c bb t cc =>
  rw[hp]at w3;exact(PV b hi hp).w (yU b hi w3.1)
 | js c bb t cc m =>
  rw[hp]at w3;exact(Oo b hi hp).w (yU b hi w3.1)
 | iZ c bb t cc m x =>
  rw[hp]at w3;exact(Mz b hi hp).w (yU b hi w3.1)
 | lD c bb t cc =>
  rw[hp]at w3;exact(PW b hi hp).w (yU b hi w3.1)
 | ja c bb cc =>
  rw[hp]at w3;exact(Oq b hi hp).w (yU b hi w3.1)
 | nC c bb =>
  rw[hp]at w3;exact(PX b hi hp).w (yU b hi w3.1)
 | Cs =>
  rw[hp]at w3;exact(Ym b hi hp).w (aa9 b hi w3.1)
 | Ae =>
  rw[hp]at w3;exact(Yi b hi hp).w (G0 b hi w3.1)
 | uL bb =>
  rw[hp]at w3;exact(SY b hi hp).w (G0 b hi w3.1)
 | oh bb =>
  rw[hp]at w3;exact(Ot b hi hp).w (G0 b hi w3.1)
 | zi bb =>
  rw[hp]at w3;exact(Yj b hi hp).w (G0 b hi w3.1)
 | sD bb t =>
  rw[hp]at w3;exact(S2 b hi hp).w (G0 b hi w3.1)
 | nD bb t cc =>
  rw[hp]at w3;exact(PY b hi hp).w (G0 b hi w3.1)
 | qH bb t x =>
  rw[hp]at w3;exact(S4 b hi hp).w (G0 b hi w3.1)
 | oP t x w =>
  rw[hp]at w3;exact(S5 b hi hp).w (G0 b hi w3.1)
 | _=>rw[hp]at hx;cases hx
theorem V0{S':ag}{M':af}(h1:W5 C p (Am.aH C s i d).s S')(h2:AR C (Am.aH C s i d).s M' sz (n+1))(hn:n+1<=1000000000):xx C p (Am.aH C s i d).s S' M' sz (n+1):=
 ⟨b.ok,h1,h2,b.z.aH b.ok b.dt hi d,b.bd.aH d,b.dt.aH hi d,Am.FI.aH b.fi b.dt hi d,b.fr.aH b.ok b.fi b.dt hi d,hn,b.vd,b.cf,b.room⟩
end
section
variable {K:Nat}
def cq(f m:Nat):Nat->Nat
 | 0=>f
 | g+1=>min (2*cq f m g) m
def tq(f m:Nat):Nat->Nat
 | 0=>0
 | g+1=>tq f m g+1+cq f m (g+1)
theorem Rs{f m:Nat}(h:f<=m):∀g,cq f m g<=m
 | 0=>h
 | g+1=>by simp only[cq];omega
theorem MC{f m:Nat}(h1:1<=f)(h:f<=m):∀g,1<=cq f m g
 | 0=>h1
 | g+1=>by have:=MC h1 h g;simp only[cq];omega
theorem P5{f m:Nat}(h1:1<=f)(hf:f<=m):∀(d g:Nat),m-cq f m g<=d->∃agc,g<=agc/\cq f m agc=m/\(∀x,g<=x->x<agc->cq f m x<m)/\tq f m g<=tq f m agc/\(cq f m g=m->agc=g)/\(2<=cq f m g->2*(tq f m agc-tq f m g)+5*cq f m g<=7*m)/\2*(tq f m agc-tq f m g)<=7*m
 | d,g,hd=>by
  have hl:=Rs hf g;have hp:=MC h1 hf g;by_cases e:cq f m g<m
  ·have hn:cq f m (g+1)=min (2*cq f m g) m:=rfl;have hT:tq f m (g+1)=tq f m g+1+cq f m (g+1):=rfl;obtain⟨d,rfl⟩ :∃n,d=n+1:=⟨d-1,I⟩;obtain⟨agc,a1,a2,a3,a4,a5,a6,a7⟩:=P5 h1 hf d (g+1) I;refine⟨agc,I,a2,λx hx hG => ?_,I,λh=>I,λh => ?_,?_⟩
   ·by_cases ex:x=g
    ·rw[ex];exact e
    ·exact a3 x I hG
   ·by_cases e2:cq f m (g+1)=m
    ·have:=a5 e2;subst this;omega
    ·have:=a6 I;omega
   ·by_cases e2:cq f m (g+1)=m
    ·have:=a5 e2;subst this;omega
    ·have:=a6 I;omega
  ·have e':cq f m g=m:=by omega
   exact⟨g,gQ _,e',λx h1 h2=>I,gQ _,λ_=>rfl,λh=>I,I⟩
theorem Ru{f m agc:Nat}(hf:f<=m)(hm:m<=4096)(hG:cq f m agc=m)(hT:tq f m agc<=100000):∀(d g k:Nat) (z:Int),g+d=agc->d<k->(∀x,g<=x->x<agc->cq f m x<m)->0<=z->z+((tq f m agc-tq f m g:Nat):Int)<=1000000->tq f m g<=tq f m agc->
 mS K (m:Int) k z (cq f m g:Nat)=some (z+((tq f m agc-tq f m g:Nat):Int))
 | d,g,k,z,hd,hk,hx,hz,hz2,ht=>by
  obtain⟨k,rfl⟩ :∃n,k=n+1:=⟨k-1,I⟩;have hl:=Rs hf g;rw[mS];by_cases e:g=agc
  ·subst e;rw[hG,ez,Io];simp
  ·obtain⟨d,rfl⟩ :∃n,d=n+1:=⟨d-1,I⟩;have h1:=hx g (gQ _) I;have hn:cq f m (g+1)=min (2*cq f m g) m:=rfl;have hT':tq f m (g+1)=tq f m g+1+cq f m (g+1):=rfl;have Yz:∀y,g+1+y<=agc->tq f m (g+1)<=tq f m (g+1+y):=λy=>by
    induction y with
    | zero=>intro _;exact gQ _
    | succ y ih=>intro h;have:=ih I;show _<=tq f m (g+1+y)+1+cq f m (g+1+y+1);omega
   have hle:tq f m (g+1)<=tq f m agc:=by have:=Yz (agc-(g+1)) I;rwa [show g+1+(agc-(g+1))=agc by omega]at this
   have hc:(if(m:Int)<wi ((2:Int)*((cq f m g:Nat):Int))then(m:Int)else wi ((2:Int)*((cq f m g:Nat):Int)))=((cq f m (g+1):Nat):Int):=by
    rw[fh I];split<;>omega
   rw[rD,hc,fh (x:=z+1) I,fh (x:=z+1+_) I,
    Ru hf hm hG hT d (g+1) k _ I I (λx h1 h2=>hx x I h2) I I hle]
   congr 1;omega
theorem YA{N F:Nat}{lI:dZ}{f m:Nat}(hl:ZM lI.cx lI.dP lI.jQ)(hF:lI.cx=F)(hf:lI.dP=f)(hm:lI.jQ=m)(ZN:1<=N)(hN:N<=64)(hK:5000<K) :
 ∃agc,cq f m agc=m/\(∀x,x<agc->cq f m x<m)/\tq f m agc<=15000/\zA K (N:Int) lI=some ((4+10*F+N+N*(4+f+tq f m agc):Nat):Int)/\4+10*F+N+N*(4+f+tq f m agc)<=1048576:=by
 have f1:=hl.f1;have f2:=hl.f2;have a1:=hl.a1;have a2:=hl.a2;have m2:=hl.m2;obtain⟨agc,g1,g2,g3,g4,g5,g6,g7⟩:=P5 (f:=f) (m:=m) I I (m-cq f m 0) 0 (gQ _);have h0:tq f m 0=0:=rfl;have h0':cq f m 0=f:=rfl;rw[h0']at g5 g6;rw[h0]at g6 g7;have hb:2*(4+f+tq f m agc)<=28690:=by
  by_cases e:2<=f
  ·have:=g6 e;omega
  ·omega
 refine⟨agc,g2,λx hx=>g3 x (w7 _) hx,I,?_,?_⟩
 ·unfold zA kO vA;have hGK:agc<K:=by
   have Yz:∀x,x<=agc->x<=tq f m x:=λx=>by
    induction x with
    | zero=>intro _;exact gQ _
    | succ y ih=>intro h;have:=ih I;show _<=tq f m y+1+cq f m (y+1);omega
   have h9:∀x,x<=agc->x<=cq f m x:=λx=>by
    induction x with
    | zero=>intro _;exact w7 _
    | succ y ih =>
     intro h;have:=ih I;have:=g3 y (w7 _) I;have:=MC (f:=f) (m:=m) I I y;show _<=min (2*cq f m y) m;omega
   have:=h9 agc (gQ _);omega
  have e:=Ru (K:=K) (f:=f) (m:=m) (agc:=agc) I I g2 I agc 0 K (4+(f:Int)) I hGK (λx h1 h2=>g3 x h1 h2) I I (by rw[h0];omega);rw[h0,h0',Nat.sub_zero]at e;rw[ez,ez,ez,ez,ez,ez,ax,cQ (by simp;omega),gz,hf,hm,fh (x:=4+(f:Int)) I,e,ax,hF,
   fh (x:=(F:Int)*10) I,fh (x:=(2:Int)+(F:Int)*10) I,fh (x:=(2:Int)+(F:Int)*10+2) I,fh (x:=(2:Int)+(F:Int)*10+2+(N:Int)) I]
  have hmul:(N:Int)*(4+(f:Int)+((tq f m agc:Nat):Int))=((N*(4+f+tq f m agc):Nat):Int):=by simp
  have hb2:N*(4+f+tq f m agc)<=64*14345:=Nat.mul_le_mul hN I;rw[hmul,fh (x:=((N*(4+f+tq f m agc):Nat):Int)) I,fh I]
  congr 1;omega
 ·have hb2:N*(4+f+tq f m agc)<=64*14345:=Nat.mul_le_mul hN I;omega
end
def init(C:Am.jv)(args:List Int):Am.St:=
 { mem:=λa=>match a with
    | .next=>1
    | .join _=>1
    | .buf i=>(Am.xM C i:Int)+3
    | .cap _ g=>if g=0 then(C.first:Int)else 0
    | _=>0
   pc:=λi=>if i=0 then .start (-1)else .lS
   hold:=λi=>if i=0 then some 0 else none
   iE:=λ_=>0
   fr:=λf=>{fn:=0,J:=0,par:=0,slot:=0,bD:=0,mN:=if f=0 then 1 else 0,bu:=λr=>if f=0 then GX.J args r else 0}
   nf:=1
   cur:=λ_=>0
   base:=λj _=>(Am.xM C j:Int)+3
   size:=Am.S0 C
   val:=none
   Mk:=false
   loc:=λf=>if f=0 then .held 0 else .free
   q:=λ_=>[]
   pop:=λ_=>none
   bD:=λ_=>[]}
section
variable {C:Am.jv}{args:List Int}
theorem YB(j:Nat):Am.lZ ((init C args).pc j)=false:=by show Am.lZ (if j=0 then _ else _)=false;split<;>rfl
theorem AY(j:Nat):Am.gen (init C args) j=0:=by unfold Am.gen;rw[YB];rfl
theorem Rv(hC:C.OK):Am.SZ C (init C args) where
 cap:=λj hj g hg=>by
  have Mc:g=0:=Nat.le_zero.1 hg;subst Mc;rfl
 VB:=λj hj=>rfl
 size:=by
  show(Am.S0 C:Int)=_;rw[Am.oQ (g:=λ_=>0) (λj _=>by rw[AY];rfl)];have:∀n,Am.fA (λ_=>0) n=0:=λn=>by induction n with
   | zero=>rfl
   | succ n ih=>show Am.fA (λ_=>0) n+0=0;rw[ih]
  rw[this];simp
 bs:=λj hj g h1 h2=>by rw[AY]at h2;omega
 dj:=λj j' g g' _ _ h1 _ h2 _ _=>by rw[AY]at h2;omega
 gm:=λj hj g hg=>by rw[AY]at hg;omega
theorem YC:Am.BD (init C args) 0 where
 m:=λa ha=>by cases a<;>first | exact Bool.noConfusion ha | exact⟨by show -_<=(1:Int);omega,by show(1:Int)<=_;omega⟩ | exact⟨by show -_<=(0:Int);omega,by show(0:Int)<=_;omega⟩
 r:=λi x hx=>by
  have:Am.gX ((init C args).pc i)=[]:=by show Am.gX (if i=0 then _ else _)=[];split<;>rfl
  rw[this]at hx;cases hx
 k:=λf=>gQ _
theorem Rw(hC:C.OK):Am.DT C (init C args):=by
 refine⟨λj hj => ?_,λi hi => ?_⟩
 ·refine⟨yB _,λg hg => ?_,?_,rfl,λm hm=>absurd hm (Nat.not_lt_zero _),?_⟩
  ·have Mc:g=0:=Nat.le_zero.1 hg;subst Mc;have:=hC.c1;show(1:Int)<=(C.first:Int);omega
  ·have:=hC.cm;show(C.first:Int)<=C.most;omega
  ·refine(Am.rJ.idle ?_).2 ⟨rfl,?_⟩
   ·show Am.Idle (if j=0 then _ else _);split<;>trivial
   ·show(0:Int)<=(C.first:Int);omega
 ·unfold Am.Th;by_cases e:i=0
  ·rw[show(init C args).pc i= .start (-1)from bg e];trivial
  ·rw[show(init C args).pc i= .lS from cQ e];show C.N≠1;omega
theorem Rx(hC:C.OK):(Am.view (init C args)).FI C.N C.F:=by
 have hg:∀i,(Am.view (init C args)).g i=if i=0 then .start else .none:=λi=>by show Am.sig (if i=0 then _ else _)=_;split<;>rfl
 have hh:∀i,(Am.view (init C args)).hold i=if i=0 then some 0 else none:=λ_=>rfl;have hl:∀f,(Am.view (init C args)).loc f=if f=0 then .held 0 else .free:=λ_=>rfl;have hq:∀i,(Am.view (init C args)).q i=[]:=λ_=>rfl;have hk:∀i,(Am.view (init C args)).bD i=[]:=λ_=>rfl;have hpo:∀i,(Am.view (init C args)).pop i=none:=λ_=>rfl;have hj:∀f,(Am.view (init C args)).join f=1:=λ_=>rfl;have hm:∀f,(Am.view (init C args)).mark f=0:=λ_=>rfl;have hp:∀f,(Am.view (init C args)).par f=0:=λ_=>rfl;have hn:(Am.view (init C args)).nf=1:=rfl;have hx:(Am.view (init C args)).next=1:=rfl;have f1:=hC.f1;constructor
 ·omega
 ·omega
 ·left;rw[hx,hn];rfl
 ·intro f hf;rw[hl,ez]
 ·intro f hf;rw[hl,rD];simp
 ·intro f hf;rw[hk,hj];exact⟨rfl,rfl⟩
 ·intro i f hi h;rw[hh]at h;split at h
  ·next e=>cases h;right;rw[hg,bg e,hl,bg rfl,e];exact⟨by simp,rfl⟩
  ·cases h
 ·intro i hi h;rw[hg]at h;split at h
  ·next e=>rw[hh,bg e];simp
  ·cases h
 ·intro i hi h;rw[hg]at h;split at h
  ·cases h
  ·next e=>rw[hh,cQ e]
 ·intro i c hi h;rw[hg]at h;split at h<;>cases h
 ·intro i c hi h;rw[hg]at h;split at h<;>cases h
 ·intro j x hj h;rw[hq]at h;cases h
 ·intro j hj;rw[hq];exact List.nodup_nil
 ·intro i x hi h;rw[hpo]at h;cases h
 ·intro i pp c hi h;rw[hg]at h;split at h<;>cases h
 ·intro i pp c hi h;rw[hg]at h;split at h<;>cases h
 ·intro i pp c hi h;rw[hg]at h;split at h<;>cases h
 ·intro pp;rw[hk];exact List.nodup_nil
 ·intro pp c h;rw[hk]at h;cases h
 ·intro c h0 hc;omega
 ·intro c hc;rw[hp];omega
 ·intro f hf;rw[hl,rD,hj,hk];rfl
 ·intro f _;exact hm f
 ·intro i f _ _ _;exact hm f
theorem Ry(hC:C.OK):Am.FR C (init C args):=λf hf=>⟨hC.fn0,by show(0:Nat)<8;decide,λ_=>hC.aaZ 0 hC.fn0⟩
theorem YE{N F:Nat}{c:List Int}(hC:C.OK)(hN:C.N=N)(hF:C.F=F){agb:Nat}(hW:agb=4+C.first)(L:Rc N F agb (C.first:Int) c):Am.CL C (init C args) c:=by
 subst hN;subst hF;subst hW;have aeO:∀i,Am.xM C i=4+10*C.F+C.N+i*(4+C.first):=λ_=>rfl;refine⟨by show(c.length:Int)=(Am.S0 C:Int);rw[L.len];rfl,λa ha => ?_⟩;have key:∀k:Nat,Am.cS C (init C args) a=(k:Int)->c.getD (Am.cS C (init C args) a).toNat 0=GX.J c k:=λk hk=>by rw[hk];rfl
 have dq:=λi hi r hr=>L.dq i hi r hr;cases a with
 | result=>exact(key 0 rfl).trans L.c0
 | next=>exact(key 1 rfl).trans L.c1
 | join f=>exact(key (2+10*f+0) (by show(2:Int)+10*f=_;omega)).trans (L.fr f ha 0 I)
 | mark f=>exact(key (2+10*f+1) (by show(3:Int)+10*f=_;omega)).trans (L.fr f ha 1 I)
 | slot f k=>have h8:=ha.2;exact(key (2+10*f+(2+k)) (by show(4:Int)+10*f+k=_;omega)).trans ((L.fr f ha.1 (2+k) I).trans (cQ I))
 | An=>exact(key (2+10*C.F+0) (by show(2:Int)+10*C.F=_;omega)).trans (L.lot 0 I)
 | HG=>exact(key (2+10*C.F+1) (by show(3:Int)+10*C.F=_;omega)).trans (L.lot 1 I)
 | flag i=>have hi:i<C.N:=ha;exact(key (2+10*C.F+(2+i)) (by show(4:Int)+10*C.F+i=_;omega)).trans (L.lot (2+i) I)
 | top i=>exact(key (4+10*C.F+C.N+i*(4+C.first)+0) rfl).trans (dq i ha 0 I)
 | bot i=>exact(key (4+10*C.F+C.N+i*(4+C.first)+1) rfl).trans (dq i ha 1 I)
 | buf i=>exact(key (4+10*C.F+C.N+i*(4+C.first)+2) rfl).trans (dq i ha 2 I)
 | cap i g =>
  have hg:g=0:=by have:=ha.2;rw[AY]at this;omega
  subst hg;exact(key (4+10*C.F+C.N+i*(4+C.first)+3) rfl).trans (dq i ha.1 3 I)
 | el i g m =>
  have hg:g=0:=by have:=ha.2.1;rw[AY]at this;omega
  subst hg;have hm:m<C.first:=ha.2.2;exact(key (4+10*C.F+C.N+i*(4+C.first)+(4+m)) (by show(Am.xM C i:Int)+3+1+m=_;rw[aeO];omega)).trans ((dq i ha.1 (4+m) I).trans (by rw[ez,ez];rfl))
end
theorem P6(C:Am.jv):∀g,Am.uG C g=cq C.first C.most g
 | 0=>rfl
 | g+1=>by show min (2*Am.uG C g) C.most=min (2*cq C.first C.most g) C.most;rw[P6 C g]
theorem V1(C:Am.jv):∀g,Am.tot C g=tq C.first C.most g
 | 0=>rfl
 | g+1=>by show Am.tot C g+1+Am.uG C (g+1)=tq C.first C.most g+1+cq C.first C.most (g+1);rw[V1 C g,P6 C (g+1)]
theorem V2{p:aE}{args:List Int}{N F f m sz agc:Nat}{c:List Int}{l:List aU}{w:Bool}(hv:Valid p)(ha:(args.length:Int)=(GX.J p.ah 0).aS)(OP:1<=N)(hn:N<=64)(hf1:1<=F)(hf:F<=4096)(h1:1<=f)(TY:f<=m)(hm:m<=4096)
 (hG:cq f m agc=m) (hsz:sz=4+10*F+N+N*(4+f+tq f m agc)) (hs1:sz<=1048576) (L:Rc N F (4+f) (f:Int) c) (hl:l=[]) {x:Int}:xx (cfg p N F f m) p (init (cfg p N F f m) args) (acv p args N F (4+f) m) (ar sz c l x w) sz 0:=by
 have hC:=VF (p:=p) (N:=N) (F:=F) (f:=f) (m:=m) hv OP hn hf1 hf h1 TY hm;have hz:=Rv (args:=args) hC;have hroom:(sz:Int)=Am.S0 (cfg p N F f m)+(cfg p N F f m).N*Am.tot (cfg p N F f m) agc:=by
  rw[V1];show(sz:Int)=((4+10*F+N+N*(4+f):Nat):Int)+(N:Int)*(tq f m agc:Int);rw[hsz,show 4+f+tq f m agc=(4+f)+tq f m agc from rfl,Nat.mul_add];simp;omega
 have hcap:Am.uG (cfg p N F f m) agc=(cfg p N F f m).most:=by rw[P6];exact hG
 have hp8:=(hv.HZ 0 hv.n1).p8;subst hl;refine⟨hC,?_,⟨rfl,hs1,On hz hroom hcap,rfl,YE hC rfl rfl rfl L,gQ _⟩,hz,YC,Rw hC,Rx hC,Ry hC,I,hv,rfl,agc,hroom,hcap⟩;refine⟨rfl,rfl,rfl,rfl,rfl,rfl,?_,λv hvN => ?_,?_,λg hg => ?_,?_,λi hi => ?_,rfl,rfl⟩
 ·exact Rd N 0
 ·have h:=Vu (B:=4+10*F+N) (agb:=4+f) (most:=(m:Int)) N 0 v hvN;rw[Bn]at h;exact h
 ·show((List.replicate F Vx).set 0 _).length=F;rw[gU,od]
 ·have Mc:g=0:=by have:g<1:=hg;omega
  subst Mc;show SV _ 0 (GX.J ((List.replicate F Vx).set 0 _) 0);rw[rL (by rw[od];omega),bg rfl];refine⟨rfl,rfl,rfl,rfl,rfl,rfl,λr hr => ?_⟩;show GX.J (E8 16 args (List.replicate 16 0)) r=GX.J args r;rw[ZX hr];split
  ·rfl
  ·next e=>rw[Jz];unfold GX.J;rw[List.getD_eq_getElem?_getD,List.getElem?_eq_none I];rfl
 ·show((Ad 0 N).set 0 _).length=N;rw[gU,BN]
 ·show aOK _ _ i (GX.J ((Ad 0 N).set 0 _) i);have hiN:i<N:=hi;rw[rL (by rw[BN];omega)];by_cases e:i=0
  ·subst e;rw[bg rfl];exact⟨rfl,rfl,rfl,rfl⟩
  ·rw[cQ e,Gw N 0 i hiN,Bn];refine⟨rfl,by show(-1:Int)=fi (if i=0 then some 0 else none);rw[cQ e];rfl,?_⟩;rw[show(init (cfg p N F f m) args).pc i= .lS from cQ e];exact⟨rfl,rfl,by show(0:Nat)<3;decide⟩
section
variable {K:Nat}
theorem Rz{x n:Int}(h1:1<=n)(h2:n<=1000) :∃i:Nat,iD x n=some (i:Int)/\(i:Int)<n:=by
 have e1:=EW x (b:=n) I;have e2:=GQ x (show 0<n by omega);have e4:x.tmod n=if 0<=x∨n∣x then x%n else x%n-n:=by
  rw[MZ];split
  ·omega
  ·rw[show((n.natAbs:Nat):Int)=n by omega]
 refine⟨(x%n).toNat,?_,I⟩;rw[show(((x%n).toNat:Nat):Int)=x%n by omega];unfold iD;rw[rD,e4];by_cases h:0<=x∨n∣x
 ·rw[bg h,ez]
 ·rw[cQ h,rD,fh I];congr 1;omega
end
section
variable {K:Nat}
theorem ac1{C:Am.jv}{i cj tr:Nat}{p:Am.Pc}{bs:Nat->Nat->Int}{a:bK}(h:ph C i p tr cj bs a)(h13:a.aO=13):p= .halted:=by
 cases p<;>first | rfl | (exfalso;dsimp only [ph,RO]at h;first | omega | (have:=h.1;omega))
section
variable {C:Am.jv}{p:aE}{s:Am.St}{S:ag}{M:af}{sz n i:Nat}{D:aY}
theorem Tk(h:W5 C p s S)(hi:i<C.N):oX S M (i:Int)=some ((act S i).aO==13):=by
 unfold oX;rw[rD,bg (by rw[h.wl];omega),bg ⟨I,by rw[h.wl];omega⟩,di]
theorem abc(h:M.log.length<=2000000000):qW M=some M.log:=by
 unfold qW;rw[bg ⟨I,I⟩,bg (by rw[od])]
end
theorem Tm{C:Am.jv}{p:aE}{s:Am.St}{S:ag}{M:af}{sz n:Nat}(b:xx C p s S M sz n)(w:Bool):xx C p s S {M with watched:=w} sz n:=
 { b with ar:=⟨b.ar.size,b.ar.s1,b.ar.fit,b.ar.mark,b.ar.cl,b.ar.lg⟩}
end
end Mo
end
section
namespace Am
structure OnG where
 st:Nat->Nat
 mN:Nat->Int
 bD:Nat->Nat
def plain:Vz->Bool
 | .fork _ | .push _ | .full=>false
 | _=>true
attribute [grind =] cG
attribute [grind] plain
section
variable {C:jv}{w:agb}{i:Nat}{o:OnG}
theorem AZ{v:V}{N F:Nat}(h:v.FI N F){i j f:Nat}(hi:i<N)(hj:j<N)(h1:v.hold i=some f)(h2:v.hold j=some f):i=j:=by
 have a:=h.hold i f hi h1;have b:=h.hold j f hj h2;grind
theorem Dw{v:V}{N F:Nat}(h:v.FI N F){i f:Nat}(hi:i<N)(h1:v.hold i=some f):f<v.nf:=by
 have a:=h.hold i f hi h1;have b:=h.free f;grind
end
section
variable {C:jv}{i:Nat}{w w':agb}{e:Option Ev}
theorem Tr.WV(t:Tr C i w e w'){j:Nat}(hj:j≠i):w'.v.g j=w.v.g j/\w'.v.hold j=w.v.hold j/\w'.fx j=w.fx j:=by
 cases t<;>simp only[cG,cQ hj,and_self]
theorem Tr.idle(t:Tr C i w e w')(hb:busy (w.v.g i)=false):w'.v.nf=w.v.nf/\∀x,e=some x->x.kind≠11/\x.kind≠1:=by
 cases t with
 | gL e he =>
  refine⟨rfl,λx hx => ?_⟩;subst hx;simp only[quiet,EV,Cz]at he;omega
 | full c hg=>rw[hg]at hb;cases hb
 | start f hg hf=>rw[hg]at hb;cases hb
 | spawn f hg hf hn=>rw[hg]at hb;cases hb
 | EC hg hn=>rw[hg]at hb;cases hb
 | fork c f hg hf=>rw[hg]at hb;cases hb
 | push c f hg hf=>rw[hg]at hb;cases hb
 | wait f hg hf hk=>rw[hg]at hb;cases hb
 | pass f hg hf hk=>rw[hg]at hb;cases hb
 | one f hg hf=>rw[hg]at hb;cases hb
 | Ms v hg hf=>rw[hg]at hb;cases hb
 | ret f v hg hf h0=>rw[hg]at hb;cases hb
 | _=>exact⟨rfl,λx hx=>by cases hx<;>exact⟨by show(_:Nat)≠11;simp[ev],by show(_:Nat)≠1;simp[ev]⟩⟩
theorem Tr.k0(t:Tr C i w e w'):∀x,e=some x->x.kind≠0:=by
 intro x hx;cases t with
 | gL e he =>
  subst hx;simp only[quiet,EV,Cz]at he;omega
 | _=>cases hx<;>(show(_:Nat)≠0;simp[ev])
theorem Tr.v1(t:Tr C i w e w')(hi:i<C.N)(h:w.v.FI C.N C.F):∀x,e=some x->x.kind=1->x.v=1:=by
 intro x hx hk;cases t with
 | gL e he =>
  subst hx;simp only[quiet,EV,Cz]at he;omega
 | start f hg hf =>
  cases hx;show w.v.mark f+1=1;rw[h.Bl i f hi hg hf];rfl
 | _=>cases hx<;>(exfalso;simp[ev]at hk)
def Q0(w:agb):Prop:=w.v.g 0= .start/\w.fx 0=-1/\w.v.hold 0=some 0/\w.v.nf=1
theorem Q0.aH(t:Tr C i w e w')(h0:i≠0)(hi:i<C.N)(h:w.v.FI C.N C.F)(q:Q0 w):Q0 w'/\∀x,e=some x->x.kind≠11/\x.kind≠1:=by
 obtain⟨q1,q2,q3,q4⟩:=q;have hb:busy (w.v.g i)=false:=by
  cases hb:busy (w.v.g i)with
  | false=>rfl
  | true =>
   exfalso
   have:=h.hs i hi hb;cases hh:w.v.hold i with
   | none=>exact this hh
   | some f =>
    have hf:=Dw h hi hh;obtain rfl:f=0:=by omega
    have a:=h.hold 0 0 I q3;have b:=h.hold i 0 hi hh;rw[q1]at a;rcases a with ⟨a,_⟩ | ⟨_,a⟩
    ·cases a
    ·rcases b with ⟨_,b⟩ | ⟨_,b⟩<;>rw[a]at b<;>cases b;exact h0 rfl
 obtain⟨t1,t2⟩:=t.idle hb;obtain⟨o1,o2,o3⟩:=t.WV (Ne.symm h0);exact⟨⟨by rw[o1,q1],by rw[o3,q2],by rw[o2,q3],by rw[t1,q4]⟩,t2⟩
end
end Am
end
section
namespace Mo
open Go Go.RowKit SL GX
noncomputable section
variable {z w:World}{L:List bl}
structure mc where
 jx:List Int
 oY:List Int
deriving Inhabited,DecidableEq
abbrev aeP(B:Nat)(S:mc)(a0:fB)(c0:Nat)(a1:fB)(c1:Nat):bl:=pts B (.cells #[.slice a0 S.jx.length c0,.slice a1 S.oY.length c1] 30)
abbrev GC(a:fB)(c:Nat)(l:List ak):bl:=rowOf 47 6 ia (.slice a l.length c) l
structure fm where
 JB:Int
 Index:Int
 Func:Int
 kT:Int
 FM:Int
 Arg:Int
 V:Int
deriving Inhabited,DecidableEq
def sF(x:fm):List Value:=[Z x.JB,Z x.Index,Z x.Func,Z x.kT,Z x.FM,Z x.Arg,Z x.V]
abbrev Ky(x:fm):List Value:=[Z x.JB,Z x.Index,Z x.Func,Z x.kT,Z x.FM,Z x.Arg,Z x.V]
abbrev tF(x:fm):Array Value:=#[Z x.JB,Z x.Index,Z x.Func,Z x.kT,Z x.FM,Z x.Arg,Z x.V]
abbrev Ef(x:fm):Value:=.agg #[Z x.JB,Z x.Index,Z x.Func,Z x.kT,Z x.FM,Z x.Arg,Z x.V]
theorem oH:uD sF 7:=⟨λ_=>rfl,λx u h=>by simp only[sF,uA,uB,uC]at h;rcases h with rfl | rfl | rfl | rfl | rfl | rfl | rfl<;>rfl,gB⟩
structure bH where
 Left:Int
 xd:Int
 bL:List fm
 Deep:Int
deriving Inhabited,DecidableEq
abbrev Eg(B:Nat)(S:bH)(k0:Value)(a3:fB)(c3:Nat):bl:=pts B (.cells #[k0,Z S.Left,Z S.xd,.slice a3 S.bL.length c3,Z S.Deep] 163)
abbrev Ba(a:fB)(c:Nat)(l:List fm):bl:=rowOf 167 7 sF (.slice a l.length c) l
abbrev RA(B:Nat)(S:fm):bl:=pts B (.cells #[Z S.JB,Z S.Index,Z S.Func,Z S.kT,Z S.FM,Z S.Arg,Z S.V] 167)
structure dR where
 Me:Int
 iP:Int
 s7:List Int
 ny:List Int
 At:Int
 ey:Int
 End:Int
 Kids:Int
deriving Inhabited,DecidableEq
abbrev wH(x:dR):Array Value:=([Z x.Me,Z x.iP]++eA 16 aK x.s7++eA 8 aK x.ny++[Z x.At,Z x.ey,Z x.End,Z x.Kids]).toArray
abbrev Eh(B:Nat)(S:dR):bl:=pts B (.cells ([Z S.Me,Z S.iP]++eA 16 aK S.s7++eA 8 aK S.ny++[Z S.At,Z S.ey,Z S.End,Z S.Kids]).toArray 199)
structure pM where
 V:Int
 kT:Int
 wh:Int
 iP:Int
 Span:Int
deriving Inhabited,DecidableEq
abbrev JC(x:pM):List Value:=[Z x.V,Z x.kT,Z x.wh,Z x.iP,Z x.Span]
abbrev wj(x:pM):Value:=.agg #[Z x.V,Z x.kT,Z x.wh,Z x.iP,Z x.Span]
abbrev Tn(B:Nat)(S:pM):bl:=pts B (.cells #[Z S.V,Z S.kT,Z S.wh,Z S.iP,Z S.Span] 60)
def kz(K:Nat)(O:bU)(rf:Int):Nat->(List cr)->Int->Option ((List cr))
 | 0,_,_=>none
 | k2+1,BB,G2=>(if G2<(((J O.bP rf.toNat).ai.length:Nat):Int)then if bJ G2 (J O.bP rf.toNat).ai.length then if(BB.length+1)*40<=140737488355328 then(kz K O rf k2 (BB++[J (J O.bP rf.toNat).ai G2.toNat]) (wi (G2+1)))else none else none else some BB)
def kB(K:Nat)(O:bU):Nat->(List aB)->Int->Option ((List aB))
 | 0,_,_=>none
 | k1+1,OA,rf=>(if rf<((O.bP.length:Nat):Int)then dX (if bJ rf O.bP.length then dX ((kz K O rf K ([]:List cr) 0)) (λNO=>if(OA.length+1)*48<=140737488355328 then some (OA++[{J O.bP rf.toNat with ai:=NO}])else none)else none) (λl16=>(kB K O k1 l16 (wi (rf+1))))else some OA)
def kD(K:Nat)(O:bU):Nat->(List Int)->Int->Option ((List Int))
 | 0,_,_=>none
 | k3+1,RB,K9=>(if K9<((O.oA.length:Nat):Int)then if bJ K9 O.oA.length then if(RB.length+1)*8<=140737488355328 then(kD K O k3 (RB++[(J O.oA K9.toNat)]) (wi (K9+1)))else none else none else some RB)
def kE(K:Nat)(O:bU):Nat->(List Int)->Int->Option ((List Int))
 | 0,_,_=>none
 | k4+1,RC,La=>(if La<((O.cP.length:Nat):Int)then if bJ La O.cP.length then if(RC.length+1)*8<=140737488355328 then(kE K O k4 (RC++[(J O.cP La.toNat)]) (wi (La+1)))else none else none else some RC)
def kF(K:Nat)(O:bU)(l6:List aB)(Lb:List Int)(RD:List Int):Nat->(List Int)->Int->Option (bU)
 | 0,_,_=>none
 | k5+1,RE,Lc=>(if Lc<((O.eX.length:Nat):Int)then if bJ Lc O.eX.length then if(RE.length+1)*8<=140737488355328 then(kF K O l6 Lb RD k5 (RE++[(J O.eX Lc.toNat)]) (wi (Lc+1)))else none else none else some ({O with bP:=l6,oA:=Lb,cP:=RD,eX:=RE}))
def oI(K:Nat)(O:bU):Option (bU):=
 dX ((kB K O K ([]:List aB) 0)) (λl6=>dX ((kD K O K ([]:List Int) 0)) (λLb=>dX ((kE K O K ([]:List Int) 0)) (λRD=>(kF K O l6 Lb RD K ([]:List Int) 0))))
abbrev BT (B:Nat) (S:bU) (a0:fB) (c0:Nat) (a1:fB) (c1:Nat) (a6:fB) (c6:Nat) (a7:fB) (c7:Nat) (q:Nat):bl:=pts B (.cells #[.slice a0 q c0,.slice a1 S.oA.length c1,Z S.cO,Z S.de,Z S.eU,Z S.eP,.slice a6 S.cP.length c6,.slice a7 S.eX.length c7] 32)
theorem Dc(H:oI K O=some r0)(h:iJ z (L) w)(cF:zb L aN cB O.bP)(og:bI L 1 aK dY O.oA)(iU:bI L 1 aK bO O.cP)(jL:bI L 1 aK bX O.eX) :
 Calls Tryz.prog 41 #[oV #[aW aN O.bP.length bq,aW dY O.oA.length fg,Z O.cO,Z O.de,Z O.eU,Z O.eP,aW bO O.cP.length cA,aW bX O.eX.length cC]] w λe w=>∃y1 y2 y3 y4 y5 y6 y7 y8,e=.returned (oV #[aW y1 r0.bP.length y2,aW y3 r0.oA.length y4,Z r0.cO,Z r0.de,Z r0.eU,Z r0.eP,aW y5 r0.cP.length y6,aW y7 r0.eX.length y8])/\Fit z (aD (rW y1 y2 r0.bP::XD y3 y4 r0.oA::zu y5 y6 r0.cP::zu y7 y8 r0.eX::L)) w:=by
 unfold oI at H;refine ke func41 117 rfl λj=>ks<|kN h (#[aW aN O.bP.length bq,aW dY O.oA.length fg,Z O.cO,Z O.de,Z O.eU,Z O.eP,aW bO O.cP.length cA,aW bX O.eX.length cC]) 32 λb1 w h=>kN h (#[aW none 0 0,aW none 0 0,Z 0,Z 0,Z 0,Z 0,aW none 0 0,aW none 0 0]) 32 λb2 w h=>G<|ks<|kM (h.pick 1)<|kN h (#[aW none 0 0,aW none 0 0,Z 0,Z 0,Z 0,Z 0,aW none 0 0,aW none 0 0]) 32 λb3 w h=>kA h (F4 b3 O aN bq dY fg bO cA bX cC) λw h=>G<|aL da<|λ_ r=>Xo (wn rfl) r h 0 ([aW none 0 0]) (BT b3 O none 0 dY fg bO cA bX cC 0) λw h=>qq r<|G<|EM H λo8 H LL=>λ_ r=>cW (β:=Unit) (λ_ a w=>∃Hs:fB,∃Ht:Nat,∃l6:List aB,l6=o8/\∃j,jY 117 (lk [(1,pA b1 0),(2,pA b2 0),(3,pA b3 0)] j) a/\Fit z (aD (F4 b1 O aN bq dY fg bO cA bX cC::fS b2 #[aW none 0 0,aW none 0 0,Z 0,Z 0,Z 0,Z 0,aW none 0 0,aW none 0 0] 32::BT b3 O Hs Ht dY fg bO cA bX cC (l6.length)::rW Hs Ht l6::L)) w) ?_ ?_
 ·refine qq r<|gP<|wb<|?_;replace h:=h.E4 (e:=85) (sz:=4) (own:=mO);refine λ_ r=>dr (β:=Nat) id (λm a w=>∃ig:fB,∃fF:Nat,∃OA:List aB,∃rf:Int,(kB K O m OA rf)=some o8/\∃j,jY 117 (lk [(1,pA b1 0),(2,pA b2 0),(3,pA b3 0),(4,Z rf)] j) a/\Fit z (aD (F4 b1 O aN bq dY fg bO cA bX cC::fS b2 #[aW none 0 0,aW none 0 0,Z 0,Z 0,Z 0,Z 0,aW none 0 0,aW none 0 0] 32::BT b3 O ig fF dY fg bO cA bX cC (OA.length)::rW ig fF OA::L)) w) K ⟨none,0,([]:List aB),0,H,r.fj (h.se 4 [3,2,1,0])⟩<|?_;clear h r H;rintro k1 a w ⟨ig,fF,OA,rf,H,j,r,h⟩;cases k1 with
  | zero=>exact absurd H (by simp[kB])
  | succ k1 =>
   rw[kB]at H;refine qq r<|wq<|aL kJ<|kL h 0<|ko [Z ((O.bP.length:Nat):Int),dm (rf<((O.bP.length:Nat):Int))]<|G<|dK H (λyI H=>?_) λyI H=>?_
   ·refine fT<|EM H λo18 H aaD=>λ_ r=>cW (β:=Unit) (λ_ a w=>∃Si:fB,∃YF:Nat,∃l16:List aB,l16=o18/\∃j,jY 117 (lk [(1,pA b1 0),(2,pA b2 0),(3,pA b3 0),(4,Z rf)] j) a/\Fit z (aD (F4 b1 O aN bq dY fg bO cA bX cC::fS b2 #[aW none 0 0,aW none 0 0,Z 0,Z 0,Z 0,Z 0,aW none 0 0,aW none 0 0] 32::BT b3 O Si YF dY fg bO cA bX cC (l16.length)::rW Si YF l16::L)) w) ?_ ?_
    ·refine qq r<|wb<|aL da<|kL h 0<|qg H λsj H=>bS<|kp (pA (dJ aN) (jf aN+rf.toNat*4)) (Dz 85 bq rfl rfl cF sj)<|yw (oV #[Z (J O.bP rf.toNat).aS,Z (J O.bP rf.toNat).dh,Z (J O.bP rf.toNat).bQ,aW ((cB rf.toNat).1) (J O.bP rf.toNat).ai.length ((cB rf.toNat).2)]) (cs:=[Z (J O.bP rf.toNat).aS,Z (J O.bP rf.toNat).dh,Z (J O.bP rf.toNat).bQ,aW ((cB rf.toNat).1) (J O.bP rf.toNat).ai.length ((cB rf.toNat).2)]) ⟨cF.cell sj (h.dn 4) 0 rfl,cF.cell sj (h.dn 4) 1 rfl,cF.cell sj (h.dn 4) 2 rfl,cF.cell sj (h.dn 4) 3 rfl,bR⟩<|?_;refine kN h (#[Z 0,Z 0,Z 0,aW none 0 0]) 85 λPo w h=>kA h (sK Po (J O.bP rf.toNat) ((cB rf.toNat).1) ((cB rf.toNat).2)) λw h=>G<|aL [U]<|kL h 3<|bS<|G<|aL [U]<|kS h 3 (fS Po #[Z (J O.bP rf.toNat).aS,Z (J O.bP rf.toNat).dh,Z (J O.bP rf.toNat).bQ,aW none 0 0] 85) λw h=>G<|EM H λo25 H aau=>λ_ r=>cW (β:=Unit) (λ_ a w=>∃YG:fB,∃YH:Nat,∃NO:List cr,NO=o25/\∃j,jY 117 (lk [(1,pA b1 0),(2,pA b2 0),(3,pA b3 0),(4,Z rf),(5,pA Po 0)] j) a/\Fit z (aD (F4 b1 O aN bq dY fg bO cA bX cC::fS b2 #[aW none 0 0,aW none 0 0,Z 0,Z 0,Z 0,Z 0,aW none 0 0,aW none 0 0] 32::BT b3 O ig fF dY fg bO cA bX cC (OA.length)::rW ig fF OA::fS Po #[Z (J O.bP rf.toNat).aS,Z (J O.bP rf.toNat).dh,Z (J O.bP rf.toNat).bQ,aW YG NO.length YH] 85::KY YG YH NO::L)) w) ?_ ?_
     ·refine qq r<|gP<|wb<|?_;replace h:=h.fC (e:=132) (sz:=5) (enc:=cU);refine λ_ r=>dr (β:=Nat) id (λm a w=>∃V3:fB,∃V4:Nat,∃BB:List cr,∃G2:Int,(kz K O rf m BB G2)=some o25/\∃j,jY 117 (lk [(1,pA b1 0),(2,pA b2 0),(3,pA b3 0),(4,Z rf),(5,pA Po 0),(6,aW ((cB rf.toNat).1) (J O.bP rf.toNat).ai.length ((cB rf.toNat).2)),(7,Z G2)] j) a/\Fit z (aD (F4 b1 O aN bq dY fg bO cA bX cC::fS b2 #[aW none 0 0,aW none 0 0,Z 0,Z 0,Z 0,Z 0,aW none 0 0,aW none 0 0] 32::BT b3 O ig fF dY fg bO cA bX cC (OA.length)::rW ig fF OA::fS Po #[Z (J O.bP rf.toNat).aS,Z (J O.bP rf.toNat).dh,Z (J O.bP rf.toNat).bQ,aW V3 BB.length V4] 85::KY V3 V4 BB::L)) w) K ⟨none,0,([]:List cr),0,H,r.fj (h.se 6 [2,3,4,5,1,0])⟩<|?_;clear h r H;rintro k2 a w ⟨V3,V4,BB,G2,H,j,r,h⟩;cases k2 with
      | zero=>exact absurd H (by simp[kz])
      | succ k2 =>
       rw[kz]at H;refine qq r<|wq<|aL [U,U,Z (((J O.bP rf.toNat).ai.length:Nat):Int),dm (G2<(((J O.bP rf.toNat).ai.length:Nat):Int))]<|G<|dK H (λvD H=>?_) λvD H=>?_
       ·refine fT<|wq<|wb<|qg H λxV H=>qg H λI7 H=>mJ [(Po,3,[aW V3 BB.length V4]),(dJ ((cB rf.toNat).1),jf ((cB rf.toNat).1)+G2.toNat*5,gq (J (J O.bP rf.toNat).ai G2.toNat))] [0,4] 10 h (λh=>⟨⟨(h.pick 4).cell 3 rfl,bR⟩,⟨(cF.vT sj).cell xV (h.dn 6) 0 rfl,(cF.vT sj).cell xV (h.dn 6) 1 rfl,(cF.vT sj).cell xV (h.dn 6) 2 rfl,(cF.vT sj).cell xV (h.dn 6) 3 rfl,(cF.vT sj).cell xV (h.dn 6) 4 rfl,bR⟩,bR⟩) λw h hd =>mg hd 7 [(0,37,pA Po 3),(2,39,aW ((cB rf.toNat).1) (J O.bP rf.toNat).ai.length ((cB rf.toNat).2)),(3,40,Z G2)]<|nr hd 6 4 rfl (pA (dJ ((cB rf.toNat).1)) (jf ((cB rf.toNat).1)+G2.toNat*5)) (λw=>Ff 132 ((cB rf.toNat).2) rfl rfl (cF.vT sj) xV)<|eI hd 0 5 1 rfl<|yh hd 1 4 5 rfl rfl<|lB 6 rfl<|kV h (lP (J (J O.bP rf.toNat).ai G2.toNat)) 132 λb32 w h=>G<|λ_ r=>xE<|lj 7 rfl<|qh h.m6 λh=>jU (n0:=BB.length) (c:=1) (bytes:=40) (wn rfl) rfl rfl r rfl aZ aZ iL (E:=132) (xs:=BB) aZ aZ h (news:=[J (J O.bP rf.toNat).ai G2.toNat]) (m:=1) rfl ((h.pick 1).news rfl) I7 rfl λHu Hw w _ h r=>qq r<|G<|mu<|iF 1 8 rfl (pA Po 3)<|lB 9 rfl<|qh h.m6 λh=>kS h 3 (fS Po #[Z (J O.bP rf.toNat).aS,Z (J O.bP rf.toNat).dh,Z (J O.bP rf.toNat).bQ,aW Hu (BB++[J (J O.bP rf.toNat).ai G2.toNat]).length Hw] 85) λw h=>G<|mu<|mM<|bn<|tn<|wl<|ko [U,Z (wi (G2+1)),Z (wi (G2+1))]<|G<|?_;exact λ_ r=>⟨_,⟨Hu,Hw,(BB++[J (J O.bP rf.toNat).ai G2.toNat]),(wi (G2+1)),H,r.fj (h.se 7 [3,4,5,6,0,1])⟩,ie _⟩
       refine wx<|te<|te<|bh<|tn<|?_;exact λ_ r=>⟨(),V3,V4,BB,fV H,r.fj h⟩
     clear h r;rintro _ a w ⟨YG,YH,NO,rfl,j,r,h⟩;replace H:=EK aau;refine qq r<|wl<|ko da<|kL (h.pick 2) 0<|kM (h.pick 4)<|kV h (#[Z (J O.bP rf.toNat).aS,Z (J O.bP rf.toNat).dh,Z (J O.bP rf.toNat).bQ,aW YG NO.length YH]) 85 λb36 w h=>qh h.m6 λh=>?_;replace h:=eY (x:=({J O.bP rf.toNat with ai:=NO})) h;refine qg H λK2 H=>qh h.m5 λh=>λ_ r=>CH (n0:=OA.length) (c:=1) (bytes:=48) (sz:=4) (wn rfl) rfl rfl r rfl aZ aZ (E:=85) (xs:=OA) aZ aZ rfl rfl rfl h ((h.pick 2).news rfl) K2 rfl λac2 ac3 w _ h r=>qq r<|ko da<|qh h.m4 λh=>kS h 0 (BT b3 O ac2 ac3 dY fg bO cA bX cC ((OA++[{J O.bP rf.toNat with ai:=NO}]).length)) λw h=>kl<|bn<|tn<|?_;exact λ_ r=>⟨(),ac2,ac3,(OA++[{J O.bP rf.toNat with ai:=NO}]),fV H,r.fj (h.se 6 [3,4,0,1])⟩
    clear h r;rintro _ a w ⟨Si,YF,l16,rfl,j,r,h⟩;replace H:=EK aaD;refine qq r<|wl<|ko [U,Z (wi (rf+1)),Z (wi (rf+1))]<|G<|?_;exact λ_ r=>⟨_,⟨Si,YF,l16,(wi (rf+1)),H,r.fj h⟩,ie _⟩
   refine wx<|te<|te<|bh<|tn<|?_;exact λ_ r=>⟨(),ig,fF,OA,fV H,r.fj h⟩
 clear h r;rintro _ a w ⟨Hs,Ht,l6,rfl,j,r,h⟩;replace H:=EK LL;refine qq r<|aL [U]<|qh h.m2 λh=>kS h 1 (fS b3 #[aW Hs l6.length Ht,aW none 0 0,Z O.cO,Z O.de,Z O.eU,Z O.eP,aW bO O.cP.length cA,aW bX O.eX.length cC] 32) λw h=>G<|EM H λo44 H aeQ=>λ_ r=>cW (β:=Unit) (λ_ a w=>∃FB:fB,∃FC:Nat,∃Lb:List Int,Lb=o44/\∃j,jY 117 (lk [(1,pA b1 0),(2,pA b2 0),(3,pA b3 0)] j) a/\Fit z (aD (F4 b1 O aN bq dY fg bO cA bX cC::fS b2 #[aW none 0 0,aW none 0 0,Z 0,Z 0,Z 0,Z 0,aW none 0 0,aW none 0 0] 32::fS b3 #[aW Hs l6.length Ht,aW FB Lb.length FC,Z O.cO,Z O.de,Z O.eU,Z O.eP,aW bO O.cP.length cA,aW bX O.eX.length cC] 32::rW Hs Ht l6::XD FB FC Lb::L)) w) ?_ ?_
 ·refine qq r<|gP<|wb<|?_;replace h:=h.fC (e:=2) (sz:=1) (enc:=aK);refine λ_ r=>dr (β:=Nat) id (λm a w=>∃Pj:fB,∃Pk:Nat,∃RB:List Int,∃K9:Int,(kD K O m RB K9)=some o44/\∃j,jY 117 (lk [(1,pA b1 0),(2,pA b2 0),(3,pA b3 0),(8,Z K9)] j) a/\Fit z (aD (F4 b1 O aN bq dY fg bO cA bX cC::fS b2 #[aW none 0 0,aW none 0 0,Z 0,Z 0,Z 0,Z 0,aW none 0 0,aW none 0 0] 32::fS b3 #[aW Hs l6.length Ht,aW Pj RB.length Pk,Z O.cO,Z O.de,Z O.eU,Z O.eP,aW bO O.cP.length cA,aW bX O.eX.length cC] 32::rW Hs Ht l6::XD Pj Pk RB::L)) w) K ⟨none,0,([]:List Int),0,H,r.fj (h.se 5 [2,3,1,4,0])⟩<|?_;clear h r H;rintro k3 a w ⟨Pj,Pk,RB,K9,H,j,r,h⟩;cases k3 with
  | zero=>exact absurd H (by simp[kD])
  | succ k3 =>
   rw[kD]at H;refine qq r<|wq<|aL da<|kL h 1<|ko [Z ((O.oA.length:Nat):Int),dm (K9<((O.oA.length:Nat):Int))]<|G<|dK H (λJN H=>?_) λJN H=>?_
   ·refine fT<|wq<|wb<|qg H λTI H=>qg H λc54 H=>mJ [(b3,1,[aW Pj RB.length Pk]),(b1,1,[aW dY O.oA.length fg]),(dJ dY,jf dY+K9.toNat*1,[Z (J O.oA K9.toNat)])] [0,2,5] 11 h (λh=>⟨⟨(h.pick 2).cell 1 rfl,bR⟩,⟨h.cell 1 rfl,bR⟩,⟨og.cell TI (h.dn 5) 0 rfl,bR⟩,bR⟩) λw h hd =>mg hd 8 [(0,62,pA b3 1),(2,64,pA b1 1),(4,66,Z K9)]<|eI hd 0 7 1 rfl<|eI hd 1 6 3 rfl<|nr hd 5 5 rfl (pA (dJ dY) (jf dY+K9.toNat*1)) (λw=>Ff 2 fg rfl rfl og TI)<|eI hd 2 4 6 rfl<|lB 7 rfl<|kV h (#[Z (J O.oA K9.toNat)]) 2 λb51 w h=>G<|λ_ r=>xE<|lj 8 rfl<|qh h.m5 λh=>jU (n0:=RB.length) (c:=1) (bytes:=8) (wn rfl) rfl rfl r rfl aZ aZ aJ (E:=2) (xs:=RB) aZ aZ h (news:=[(J O.oA K9.toNat)]) (m:=1) rfl ((h.pick 1).news rfl) c54 rfl λSw Sx w _ h r=>qq r<|G<|mu<|iF 1 9 rfl (pA b3 1)<|lB 10 rfl<|qh h.m4 λh=>kS h 1 (fS b3 #[aW Hs l6.length Ht,aW Sw (RB++[(J O.oA K9.toNat)]).length Sx,Z O.cO,Z O.de,Z O.eU,Z O.eP,aW bO O.cP.length cA,aW bX O.eX.length cC] 32) λw h=>G<|mu<|mM<|bn<|tn<|wl<|ko [U,Z (wi (K9+1)),Z (wi (K9+1))]<|G<|?_;exact λ_ r=>⟨_,⟨Sw,Sx,(RB++[(J O.oA K9.toNat)]),(wi (K9+1)),H,r.fj (h.se 6 [3,4,0,5,1])⟩,ie _⟩
   refine wx<|te<|te<|bh<|tn<|?_;exact λ_ r=>⟨(),Pj,Pk,RB,fV H,r.fj h⟩
 clear h r;rintro _ a w ⟨FB,FC,Lb,rfl,j,r,h⟩;replace H:=EK aeQ;refine qq r<|aL da<|qh h.m2 λh=>λ_ r=>Xo (wn rfl) r h 6 ([aW none 0 0,aW none 0 0]) (fS b3 #[aW Hs l6.length Ht,aW FB Lb.length FC,Z O.cO,Z O.de,Z O.eU,Z O.eP,aW none 0 0,aW none 0 0] 32) λw h=>qq r<|G<|EM H λo59 H aeR=>λ_ r=>cW (β:=Unit) (λ_ a w=>∃FD:fB,∃FE:Nat,∃RD:List Int,RD=o59/\∃j,jY 117 (lk [(1,pA b1 0),(2,pA b2 0),(3,pA b3 0)] j) a/\Fit z (aD (F4 b1 O aN bq dY fg bO cA bX cC::fS b2 #[aW none 0 0,aW none 0 0,Z 0,Z 0,Z 0,Z 0,aW none 0 0,aW none 0 0] 32::fS b3 #[aW Hs l6.length Ht,aW FB Lb.length FC,Z O.cO,Z O.de,Z O.eU,Z O.eP,aW FD RD.length FE,aW none 0 0] 32::rW Hs Ht l6::XD FB FC Lb::zu FD FE RD::L)) w) ?_ ?_
 ·refine qq r<|gP<|wb<|?_;replace h:=h.fC (e:=3) (sz:=1) (enc:=aK);refine λ_ r=>dr (β:=Nat) id (λm a w=>∃V5:fB,∃V6:Nat,∃RC:List Int,∃La:Int,(kE K O m RC La)=some o59/\∃j,jY 117 (lk [(1,pA b1 0),(2,pA b2 0),(3,pA b3 0),(9,Z La)] j) a/\Fit z (aD (F4 b1 O aN bq dY fg bO cA bX cC::fS b2 #[aW none 0 0,aW none 0 0,Z 0,Z 0,Z 0,Z 0,aW none 0 0,aW none 0 0] 32::fS b3 #[aW Hs l6.length Ht,aW FB Lb.length FC,Z O.cO,Z O.de,Z O.eU,Z O.eP,aW V5 RC.length V6,aW none 0 0] 32::rW Hs Ht l6::XD FB FC Lb::zu V5 V6 RC::L)) w) K ⟨none,0,([]:List Int),0,H,r.fj (h.se 6 [2,3,1,4,5,0])⟩<|?_;clear h r H;rintro k4 a w ⟨V5,V6,RC,La,H,j,r,h⟩;cases k4 with
  | zero=>exact absurd H (by simp[kE])
  | succ k4 =>
   rw[kE]at H;refine qq r<|wq<|aL kJ<|kL h 6<|ko [Z ((O.cP.length:Nat):Int),dm (La<((O.cP.length:Nat):Int))]<|G<|dK H (λc64 H=>?_) λc64 H=>?_
   ·refine fT<|wq<|wb<|qg H λc65 H=>qg H λc69 H=>mJ [(b3,6,[aW V5 RC.length V6]),(b1,6,[aW bO O.cP.length cA]),(dJ bO,jf bO+La.toNat*1,[Z (J O.cP La.toNat)])] [0,1,3,4,7] 14 h (λh=>⟨⟨(h.pick 2).cell 6 rfl,bR⟩,⟨h.cell 6 rfl,bR⟩,⟨iU.cell c65 (h.dn 6) 0 rfl,bR⟩,bR⟩) λw h hd =>lW hd 9 82 [([0,1],pA b3 6),([3,4],pA b1 6),([6],Z La)]<|eI hd 0 8 2 rfl<|eI hd 1 7 5 rfl<|nr hd 6 7 rfl (pA (dJ bO) (jf bO+La.toNat*1)) (λw=>Ff 3 cA rfl rfl iU c65)<|eI hd 2 5 8 rfl<|lB 9 rfl<|kV h (#[Z (J O.cP La.toNat)]) 3 λQ9 w h=>G<|λ_ r=>xE<|lj 10 rfl<|qh h.m6 λh=>jU (n0:=RC.length) (c:=1) (bytes:=8) (wn rfl) rfl rfl r rfl aZ aZ aJ (E:=3) (xs:=RC) aZ aZ h (news:=[(J O.cP La.toNat)]) (m:=1) rfl ((h.pick 1).news rfl) c69 rfl λTo Tp w _ h r=>qq r<|G<|mu<|iF 2 11 rfl (pA b3 6)<|iF 1 12 rfl (pA b3 6)<|lB 13 rfl<|qh h.m4 λh=>kS h 6 (fS b3 #[aW Hs l6.length Ht,aW FB Lb.length FC,Z O.cO,Z O.de,Z O.eU,Z O.eP,aW To (RC++[(J O.cP La.toNat)]).length Tp,aW none 0 0] 32) λw h=>G<|mu<|mM<|bn<|tn<|wl<|ko [U,Z (wi (La+1)),Z (wi (La+1))]<|G<|?_;exact λ_ r=>⟨_,⟨To,Tp,(RC++[(J O.cP La.toNat)]),(wi (La+1)),H,r.fj (h.se 7 [3,4,0,5,6,1])⟩,ie _⟩
   refine wx<|te<|te<|bh<|tn<|?_;exact λ_ r=>⟨(),V5,V6,RC,fV H,r.fj h⟩
 clear h r;rintro _ a w ⟨FD,FE,RD,rfl,j,r,h⟩;replace H:=EK aeR;refine qq r<|wq<|gP<|wb<|?_;replace h:=h.fC (e:=3) (sz:=1) (enc:=aK);refine λ_ r=>dr (β:=Nat) id (λm a w=>∃Tq:fB,∃Ts:Nat,∃RE:List Int,∃Lc:Int,(kF K O l6 Lb RD m RE Lc)=some r0/\∃j,jY 117 (lk [(1,pA b1 0),(2,pA b2 0),(3,pA b3 0),(10,Z Lc)] j) a/\Fit z (aD (F4 b1 O aN bq dY fg bO cA bX cC::fS b2 #[aW none 0 0,aW none 0 0,Z 0,Z 0,Z 0,Z 0,aW none 0 0,aW none 0 0] 32::fS b3 #[aW Hs l6.length Ht,aW FB Lb.length FC,Z O.cO,Z O.de,Z O.eU,Z O.eP,aW FD RD.length FE,aW Tq RE.length Ts] 32::rW Hs Ht l6::XD FB FC Lb::zu FD FE RD::zu Tq Ts RE::L)) w) K ⟨none,0,([]:List Int),0,H,r.fj (h.se 7 [1,2,3,4,5,6,0])⟩<|?_;clear h r H;rintro k5 a w ⟨Tq,Ts,RE,Lc,H,j,r,h⟩;cases k5 with
 | zero=>exact absurd H (by simp[kF])
 | succ k5 =>
  rw[kF]at H;refine qq r<|wq<|aL kJ<|kL h 7<|ko [Z ((O.eX.length:Nat):Int),dm (Lc<((O.eX.length:Nat):Int))]<|G<|dK H (λc74 H=>?_) λc74 H=>?_
  ·refine fT<|wq<|wb<|qg H λc75 H=>qg H λc79 H=>mJ [(b3,7,[aW Tq RE.length Ts]),(b1,7,[aW bX O.eX.length cC]),(dJ bX,jf bX+Lc.toNat*1,[Z (J O.eX Lc.toNat)])] [0,1,3,4,7] 14 h (λh=>⟨⟨(h.pick 2).cell 7 rfl,bR⟩,⟨h.cell 7 rfl,bR⟩,⟨jL.cell c75 (h.dn 7) 0 rfl,bR⟩,bR⟩) λw h hd =>lW hd 9 103 [([0],pA b3 6),([1],pA b3 7),([3],pA b1 6),([4],pA b1 7),([6],Z Lc)]<|eI hd 0 8 2 rfl<|eI hd 1 7 5 rfl<|nr hd 6 7 rfl (pA (dJ bX) (jf bX+Lc.toNat*1)) (λw=>Ff 3 cC rfl rfl jL c75)<|eI hd 2 5 8 rfl<|lB 9 rfl<|kV h (#[Z (J O.eX Lc.toNat)]) 3 λb76 w h=>G<|λ_ r=>xE<|lj 10 rfl<|qh h.m7 λh=>jU (n0:=RE.length) (c:=1) (bytes:=8) (wn rfl) rfl rfl r rfl aZ aZ aJ (E:=3) (xs:=RE) aZ aZ h (news:=[(J O.eX Lc.toNat)]) (m:=1) rfl ((h.pick 1).news rfl) c79 rfl λac4 ac5 w _ h r=>qq r<|G<|mu<|iF 2 11 rfl (pA b3 6)<|iF 1 12 rfl (pA b3 7)<|lB 13 rfl<|qh h.m4 λh=>kS h 7 (fS b3 #[aW Hs l6.length Ht,aW FB Lb.length FC,Z O.cO,Z O.de,Z O.eU,Z O.eP,aW FD RD.length FE,aW ac4 (RE++[(J O.eX Lc.toNat)]).length ac5] 32) λw h=>G<|mu<|mM<|bn<|tn<|wl<|ko [U,Z (wi (Lc+1)),Z (wi (Lc+1))]<|G<|?_;exact λ_ r=>⟨_,⟨ac4,ac5,(RE++[(J O.eX Lc.toNat)]),(wi (Lc+1)),H,r.fj (h.se 8 [3,4,0,5,6,7,1])⟩,ie _⟩
  refine wx<|te<|te<|bh<|tn<|ks<|kM (h.pick 2)<|qh h.m1 λh=>kA h (fS b2 #[aW Hs l6.length Ht,aW FB Lb.length FC,Z O.cO,Z O.de,Z O.eU,Z O.eP,aW FD RD.length FE,aW Tq RE.length Ts] 32) λw h=>bY<|kC h<|?_;cases H;exact⟨Hs,Ht,FB,FC,FD,FE,Tq,Ts,rfl,h.se 7 [3,4,5,6]⟩
def qu(K:Nat)(Y:Int):Nat->Int->Int->Option (Int)
 | 0,_,_=>none
 | k1+1,g4,g5=>(if g5<Y then(qu K Y k1 (wi (g4+(wi ((1:Int)+(if Y<(wi ((2:Int)*g5))then Y else(wi ((2:Int)*g5))))))) (if Y<(wi ((2:Int)*g5))then Y else(wi ((2:Int)*g5))))else some g4)
def zH(K:Nat)(O:Int)(Y:Int):Option (Int):=
 dX (uq O Y) (λr1=>(if r1=true then(qu K Y K (wi ((4:Int)+O)) O)else some 0))
theorem JD(H:zH K O Y=some r0)(h:iJ z (L) w) :
 nH 83 #[Z O,Z Y] w z (Z r0) (L):=by
 unfold zH at H;refine ke func83 26 rfl λj=>gP<|wq<|ks<|fP H λr1 e2 H=>ko da<|eW (B9 e2 h :) λw h=>ko [vB (!r1)]<|G<|FZ H (λc3 H=>?_) λc3 H=>?_
 ·refine fT<|aL [U,Z (wi ((4:Int)+O)),Z (wi ((4:Int)+O))]<|G<|wq<|aL da<|G<|wb<|λ_ r=>dr (β:=Nat) id (λm a w=>∃g4:Int,∃g5:Int,(qu K Y m g4 g5)=some r0/\∃j,jY 26 (lk [(1,Z Y),(5,Z g4),(6,Z g5)] j) a/\Fit z (aD (L)) w) K ⟨(wi ((4:Int)+O)),O,H,r.fj h⟩<|?_;clear h r H;rintro k1 a w ⟨g4,g5,H,j,r,h⟩;cases k1 with
  | zero=>exact absurd H (by simp[qu])
  | succ k1 =>
   rw[qu]at H;refine qq r<|wq<|aL [U,U,dm (g5<Y)]<|G<|dK H (λc6 H=>?_) λc6 H=>?_
   ·refine fT<|wb<|aL [U,Z (wi ((2:Int)*g5)),U,Z (if Y<(wi ((2:Int)*g5))then Y else(wi ((2:Int)*g5))),Z (if Y<(wi ((2:Int)*g5))then Y else(wi ((2:Int)*g5)))]<|G<|wl<|ko [U,Z (if Y<(wi ((2:Int)*g5))then Y else(wi ((2:Int)*g5))),Z (wi ((1:Int)+(if Y<(wi ((2:Int)*g5))then Y else(wi ((2:Int)*g5))))),Z (wi (g4+(wi ((1:Int)+(if Y<(wi ((2:Int)*g5))then Y else(wi ((2:Int)*g5))))))),Z (wi (g4+(wi ((1:Int)+(if Y<(wi ((2:Int)*g5))then Y else(wi ((2:Int)*g5)))))))]<|kl<|bn<|tn<|?_;exact λ_ r=>⟨_,⟨(wi (g4+(wi ((1:Int)+(if Y<(wi ((2:Int)*g5))then Y else(wi ((2:Int)*g5))))))),(if Y<(wi ((2:Int)*g5))then Y else(wi ((2:Int)*g5))),H,r.fj h⟩,ie _⟩
   refine wx<|te<|te<|bh<|tn<|aL da<|bY<|?_;cases H;exact fU h
 refine gP<|wr<|tr<|?_;cases H;exact fU h
def xz(K:Nat)(O:Int)(Y:dZ):Option (Int):=
 Ax (dX (sn O) (λr4=>(if r4=true then dX (sq Y) (λr7=>(if r7=true then some (.inl ())else some (.inr 0)))else some (.inr 0)))) (dX (sY Y.cx) (λzQ=>dX (pY O) (λpH=>dX (zH K Y.dP Y.jQ) (λiS=>some (wi ((wi ((wi ((1:Int)+zQ))+pH))+(wi (O*iS))))))))
theorem JE(H:xz K O Y=some r0)(h:iJ z (L) w) :
 nH 43 #[Z O,kI Y] w z (Z r0) (L):=by
 unfold xz at H;refine ke func43 28 rfl λj=>ks<|kN h (lV Y) 27 λb1 w h=>bS<|G<|?_;obtain⟨o3,H,GU⟩:=FU H;refine λ_ r=>cW (β:=Unit) (λ_ a w=>.inl ()=o3/\∃j,jY 28 (lk [(0,Z O),(3,pA b1 0)] j) a/\Fit z (aD (NI b1 Y::L)) w) ?_ ?_
 ·refine qq r<|ks<|fP H λr4 e5 H=>bS<|eW (zB e5 h :) λw h=>ko [vB (!r4),vB (!r4)]<|qI H (λc6 H=>?_) λc6 H=>?_
  ·refine λ_ r=>ldm (nL r (nT c6)) r (kI Y) (cs:=He Y) (h.held 0 rfl)<|?_;refine fP H λr7 e8 H=>xg0 (nT c6) (zC e8 h :) λw h=>cT (nT c6) [11] [vB (!r7)]<|oz (nT c6) (vB (!r7))<|G<|FZ H (λc9 H=>?_) λc9 H=>?_
   ·refine fT<|?_;exact λ_ r=>⟨(),fV H,r.fj h⟩
   refine gP<|wr<|tr<|λ_ r=>rX (Z 0) rfl r<|?_;replace H:=wL H GU;cases H;exact⟨rfl,h.se 1 []⟩
  refine cg (nF c6) [9,10,11]<|oJ (nF c6) (vB true)<|G<|λ_ r=>fW r (b:=true) rfl<|qq r<|gP<|wr<|tr<|λ_ r=>rX (Z 0) rfl r<|?_;replace H:=wL H GU;cases H;exact⟨rfl,h.se 1 []⟩
 clear h r;rintro _ a w ⟨rfl,j,r,h⟩;replace H:=FV GU;refine qq r<|wq<|fP H λzQ XE H=>fP H λpH UX H=>fP H λiS I6 H=>mJ [(b1,0,[Z Y.cx]),(b1,1,[Z Y.dP]),(b1,2,[Z Y.jQ])] [0,2,3,5,6,8,10,12,13] 16 h (λh=>⟨⟨h.cell 0 rfl,bR⟩,⟨h.cell 1 rfl,bR⟩,⟨h.cell 2 rfl,bR⟩,bR⟩) λw h hd =>lW hd 11 13 [([0],pA b1 0),([4,7],Z O),([8],pA b1 1),([10],pA b1 2)]<|eI hd 0 10 1 rfl<|eI hd 1 9 9 rfl<|eI hd 2 8 11 rfl<|lB 2 rfl<|eW (xL XE h :) λw h=>G<|wo ⟨⟨h.cell 0 rfl,bR⟩,⟨h.cell 1 rfl,bR⟩,⟨h.cell 2 rfl,bR⟩,bR⟩ λhd =>mg hd 6 [(3,16,Z (wi ((1:Int)+zQ)))]<|lB 5 rfl<|eW (uZ UX h :) λw h=>G<|wo ⟨⟨h.cell 0 rfl,bR⟩,⟨h.cell 1 rfl,bR⟩,⟨h.cell 2 rfl,bR⟩,bR⟩ λhd =>mg hd 4 [(6,19,Z (wi ((wi ((1:Int)+zQ))+pH)))]<|lB 12 rfl<|eW (JD I6 h :) λw h=>G<|wo ⟨⟨h.cell 0 rfl,bR⟩,⟨h.cell 1 rfl,bR⟩,⟨h.cell 2 rfl,bR⟩,bR⟩ λhd =>mg hd 0 [(13,26,Z (wi (O*iS))),(14,27,Z (wi ((wi ((wi ((1:Int)+zQ))+pH))+(wi (O*iS))))),(15,4,Z (wi ((wi ((wi ((1:Int)+zQ))+pH))+(wi (O*iS)))))]<|mM<|tn<|wr<|?_;cases H;exact fU (h.se 1 [])
def tA(O:af)(Y:Int):Option (af):=
 some ({O with wB:=Y})
theorem yV{q0:af}(H:tA O Y=some q0)(h:iJ z (gD B0 O ju jy jA lU L) w) :
 yZ 45 #[pA B0 0,Z Y] w z (.tuple #[]) λx1 x2 x3 x4=>gD B0 q0 x1 x2 x3 x4 L:=by
 unfold tA at H;refine ke func45 10 rfl λj=>aL da<|G<|λ_ r=>fW r (b:=true) rfl<|qq r<|wl<|ko yj<|kS h 4 (fS B0 #[Z O.nl,Z O.fo,aW ju O.cell.length jy,aW jA O.log.length lU,Z Y,vB O.watched] 78) λw h=>kl<|?_;cases H;exact xv4 ju jy jA lU h
def kG(K:Nat)(O:ag)(dU:af):Nat->Int->Option (Bool)
 | 0,_=>none
 | k1+1,xg=>(if xg<((O.aj.length:Nat):Int)then dX (oX O dU xg) (λmT=>(if mT=true then(kG K O dU k1 (wi (xg+1)))else some false))else some true)
def rz(K:Nat)(O:ag)(dU:af)(Y:ak):Option (Bool):=
 (if Y.aG=11 then some true else(if Y.aG=10 then(kG K O dU K 0)else some false))
theorem Dd(H:rz K O dU Y=some r0)(h:iJ z (iK B0 O fO nj nK lC mj ig fF be gf dU ju jy jA lU L) w) :
 nH 46 #[pA B0 0,eH Y] w z (vB r0) (iK B0 O fO nj nK lC mj ig fF be gf dU ju jy jA lU L):=by
 unfold rz at H;refine ke func46 25 rfl λj=>ks<|kN h (vW Y) 47 λiX w h=>bS<|G<|wq<|aL [U]<|kL h 2<|ko [vB (Y.aG==11)]<|G<|dK H (λxF H=>?_) λxF H=>?_
 ·refine gP<|wr<|tr<|?_;cases H;exact fU (h.se 9 [1,2,3,4,5,6,7,8])
 refine fT<|wq<|aL [U]<|kL h 2<|ko [vB (Y.aG != 10)]<|G<|rV H (λpT H=>?_) λpT H=>?_
 ·refine fT<|wq<|aL kJ<|kL (h.pick 1) 9<|ko [Z ((O.aj.length:Nat):Int),U]<|G<|wb<|λ_ r=>dr (β:=Nat) id (λm a w=>∃xg:Int,(kG K O dU m xg)=some r0/\∃j,jY 25 (lk [(0,pA B0 0),(16,Z ((O.aj.length:Nat):Int)),(17,Z xg)] j) a/\Fit z (aD (Ce B0 O (if_ 33 (pA fO 0)) nj nK lC mj ig fF be gf::gD fO dU ju jy jA lU (rW nj nK O.code::sP lC mj O.ei::tj ig fF O.aM::sQ B0 be gf O.aj::L))) w) K ⟨0,H,r.fj (h.se 9 [1,6,7,8,2,3,4,5])⟩<|?_;clear h r H;rintro k1 a w ⟨xg,H,j,r,h⟩;cases k1 with
  | zero=>exact absurd H (by simp[kG])
  | succ k1 =>
   rw[kG]at H;refine qq r<|aL [dm (xg<((O.aj.length:Nat):Int))]<|G<|wq<|dK H (λzO H=>?_) λzO H=>?_
   ·refine fT<|wq<|wb<|aL da<|G<|ks<|fP H λmT KZ H=>ko da<|qh h.m3.m3.m3.m7.m7.m7.m7.m7 λh=>eW (BL KZ h :) λw h=>ko [vB (!mT)]<|G<|FZ H (λlT H=>?_) λlT H=>?_
    ·refine wk<|bn<|tn<|wl<|ko [Z (wi (xg+1)),Z (wi (xg+1))]<|G<|?_;exact λ_ r=>⟨_,⟨(wi (xg+1)),H,r.fj (h.se 8 [0,5,6,7,1,2,3,4])⟩,ie _⟩
    refine gP<|wr<|br<|tr<|tr<|br<|tr<|?_;cases H;exact fU h
   refine wx<|te<|te<|bh<|tn<|gP<|wr<|?_;cases H;exact fU (h.se 8 [0,4,5,6,7,1,2,3])
 refine gP<|wr<|tr<|?_;cases H;exact fU (h.se 9 [1,2,3,4,5,6,7,8])
def tM(Y:ak):Option (Bool):=
 (if Y.aG=11 then some true else(if Y.aG=10 then none else some false))
theorem Ag(H:tM Y=some r0)(h:iJ z (L) w) :
 nH 46 #[pN,eH Y] w z (vB r0) (L):=by
 unfold tM at H;refine ke func46 25 rfl λj=>ks<|kN h (vW Y) 47 λb1 w h=>bS<|G<|wq<|aL [U]<|kL h 2<|ko [vB (Y.aG==11)]<|G<|dK H (λc2 H=>?_) λc2 H=>?_
 ·refine gP<|wr<|tr<|?_;cases H;exact fU (h.se 1 [])
 refine fT<|wq<|aL [U]<|kL h 2<|ko [vB (Y.aG != 10)]<|G<|rV H (λc3 H=>?_) λc3 H=>?_
 ·refine fT<|wq<|ks<|?_;cases H
 refine gP<|wr<|tr<|?_;cases H;exact fU (h.se 1 [])
def nc(K:Nat)(p2:Int)(p4:mc):Nat->af->ag->aY->(List ak)->Int->Option (af×(List ak))
 | 0,_,_,_,_,_=>none
 | k1+1,S64,WZ,N6,OV,HK=>(if HK<((p4.jx.length:Nat):Int)then if bJ HK p4.jx.length then dX (zE (J p4.jx HK.toNat) p2) (λOU=>dX (tA S64 OU) (λS79=>ob5 (bG K WZ S79 OU N6) (λK5 ZF Vm Sy S89=>(if K5.aG=0 then(nc K p2 p4 k1 Sy Vm S89 OV (wi (HK+1)))else if(OV.length+1)*48<=140737488355328 then dX (rz K Vm Sy ({K5 with At:=HK})) (λSA=>(if SA=true then some (Sy,OV++[{K5 with At:=HK}])else(nc K p2 p4 k1 Sy Vm S89 (OV++[{K5 with At:=HK}]) (wi (HK+1)))))else none))))else none else some (S64,OV))
def sG(K:Nat)(p2:Int)(p4:mc):Nat->af->(List ak)->Int->Option (af×(List ak))
 | 0,_,_,_=>none
 | k2+1,P7,DU,xP=>(if xP<((p4.jx.length:Nat):Int)then if bJ xP p4.jx.length then dX (zE (J p4.jx xP.toNat) p2) (λabd=>dX (tA P7 abd) (λP8=>uE (pF abd (⟨p4.oY⟩:aY)) (λGD ac6=>(if GD.aG=0 then(sG K p2 p4 k2 P8 DU (wi (xP+1)))else if(DU.length+1)*48<=140737488355328 then dX (tM ({GD with At:=xP})) (λC6=>(if C6=true then some (P8,DU++[{GD with At:=xP}])else(sG K p2 p4 k2 P8 (DU++[{GD with At:=xP}]) (wi (xP+1)))))else none))))else none else some (P7,DU))
def sU(K:Nat)(O:aE)(Y:List Int)(p2:Int)(p3:dZ)(p4:mc):Option ((List ak)×(List aU)×Int):=
 Ax ((if((p4.jx.length:Nat):Int)>1048576 then some (.inr (([]:List ak),([]:List aU),2))else(if((p4.oY.length:Nat):Int)>1048576 then some (.inr (([]:List ak),([]:List aU),2))else some (.inl ())))) (dX (nX K O Y p2 p3) (λpH=>(if pH=0 then dX (xz K p2 p3) (λsJ=>uE (yx sJ) (λCw mT=>(match Cw with | some gA=>(if mT=0 then rN (mA K gA O Y p2 p3) (λLH AJ XQ=>(match LH with | some QK=>(if AJ=0 then dX (ru XQ true) (λS46=>if p4.oY.length*8<=140737488355328 then uE ((nc K p2 p4 K S46 QK (⟨p4.oY⟩:aY) ([]:List ak) 0)) (λZD l61=>dX (qW ZD) (λac7=>some (l61,ac7,0)))else none)else some (([]:List ak),([]:List aU),AJ)) | none=>(if AJ=0 then dX (ru XQ true) (λabe=>if p4.oY.length*8<=140737488355328 then uE ((sG K p2 p4 K abe ([]:List ak) 0)) (λV7 Tt=>dX (qW V7) (λac8=>some (Tt,ac8,0)))else none)else some (([]:List ak),([]:List aU),AJ))))else some (([]:List ak),([]:List aU),mT)) | none=>(if mT=0 then none else some (([]:List ak),([]:List aU),mT)))))else some (([]:List ak),([]:List aU),pH))))
end
noncomputable section
variable {z w:World}{L:List bl}
theorem JF(H:sU K O Y p2 p3 p4=some (r0,r1,r2))(h:iJ z (zu ju jy p4.jx::zu jA lU p4.oY::L) w)(aP:zb L aT aI O.ah)(F8:bI L 1 aK ER Y)(Mc:bI L 1 IB (some ⟨0,0,none⟩) QD)(wu:bI L 5 gJ (some ⟨1,0,none⟩) yY) :
 Calls Tryz.prog 28 #[oV #[aW aT O.ah.length bt],aW ER Y.length GV,Z p2,kI p3,oV #[aW ju p4.jx.length jy,aW jA p4.oY.length lU]] w λe w=>∃y1 y2 V8,e=.returned (.tuple #[aW y1 r0.length y2,aW V8 r1.length r1.length,Z r2])/\Fit z (aD (zu ju jy p4.jx::zu jA lU p4.oY::GC y1 y2 r0::UP V8 r1.length r1::L)) w:=by
 unfold sU at H;refine ke func28 108 rfl λj=>ks<|kN h (#[aW aT O.ah.length bt]) 24 λb5 w h=>kN h (lV p3) 27 λb6 w h=>kN h (#[aW ju p4.jx.length jy,aW jA p4.oY.length lU]) 30 λb7 w h=>ko kJ<|G<|?_;obtain⟨o9,H,NL⟩:=FU H;refine λ_ r=>cW (β:=Unit) (λ_ a w=>.inl ()=o9/\∃j,jY 108 (lk [(1,aW ER Y.length GV),(2,Z p2),(5,pA b5 0),(8,pA b6 0),(9,pA b7 0)] j) a/\Fit z (aD (fS b5 #[aW aT O.ah.length bt] 24::NI b6 p3::aeP b7 p4 ju jy jA lU::zu ju jy p4.jx::zu jA lU p4.oY::L)) w) ?_ ?_
 ·refine qq r<|aL [U]<|kL h 0<|ko [Z ((p4.jx.length:Nat):Int),dm (((p4.jx.length:Nat):Int)>1048576),dm (((p4.jx.length:Nat):Int)>1048576)]<|qI H (λpe H=>?_) λpe H=>?_
  ·refine cg (dT pe) [29,30,31,32]<|oJ (dT pe) (vB true)<|G<|λ_ r=>fW r (b:=true) rfl<|qq r<|aL kJ<|bY<|tr<|λ_ r=>LG (aW none 0 0) (aW none 0 0) (Z 2) rfl r<|?_;replace h:=h.fC (e:=47) (sz:=6) (enc:=ia);replace h:=h.fC (e:=269) (sz:=6) (enc:=gZ);replace H:=wL H NL;cases H;exact⟨none,0,none,rfl,h.se 7 [5,6,1,0]⟩
  refine cT (dF pe) [29] [pA b7 1]<|vz (dF pe) h 1<|cT (dF pe) [31,32] [Z ((p4.oY.length:Nat):Int),dm (((p4.oY.length:Nat):Int)>1048576)]<|oz (dF pe) (dm (((p4.oY.length:Nat):Int)>1048576))<|G<|dK H (λvH H=>?_) λvH H=>?_
  ·refine aL kJ<|bY<|tr<|λ_ r=>LG (aW none 0 0) (aW none 0 0) (Z 2) rfl r<|?_;replace h:=h.fC (e:=47) (sz:=6) (enc:=ia);replace h:=h.fC (e:=269) (sz:=6) (enc:=gZ);replace H:=wL H NL;cases H;exact⟨none,0,none,rfl,h.se 7 [5,6,1,0]⟩
  refine fT<|?_;exact λ_ r=>⟨(),fV H,r.fj (h.se 5 [2,1,0,3,4])⟩
 clear h r;rintro _ a w ⟨rfl,j,r,h⟩;replace H:=FV NL;refine qq r<|wq<|ks<|yw (oV #[aW aT O.ah.length bt]) (cs:=[aW aT O.ah.length bt]) ⟨h.cell 0 rfl,bR⟩<|?_;refine ko da<|kM (h.pick 1)<|fP H λpH UX H=>eW (wR (ER:=ER) (GV:=GV) (F8:=(bI.up 5 F8)) (aT:=aT) (bt:=bt) (aP:=(yf.up 5 aP)) (wu:=bI.up 5 wu) (aI:=aI) UX h :) λw h=>bS<|G<|aL [U,vB (pH != 0)]<|G<|rV H (λxF H=>?_) λxF H=>?_
 ·refine fT<|aL [U]<|kM (h.pick 1)<|fP H λsJ XP H=>eW (JE XP h :) λw h=>xT H λCw mT KZ H=>?_;cases Cw with
  | some gA =>
   refine xc5 (JV KZ h :) λKz nY wz DI Gc w h=>ko [.tuple #[pA Kz 0,Z mT],U,U,U,U]<|G<|wq<|aL [U,vB (mT != 0)]<|G<|rV H (λDs H=>?_) λDs H=>?_
   ·refine fT<|aL da<|yw (oV #[aW aT O.ah.length bt]) (cs:=[aW aT O.ah.length bt]) ⟨(h.pick 3).cell 0 rfl,bR⟩<|?_;refine ko da<|kM (h.pick 4)<|vg H λLH AJ XQ LN H=>?_;cases LH with
    | some QK =>
     have hc:=C1 (v5:=ER) (xG:=GV) (Cu:=(bI.up 5 F8)) (jD:=aT) (mB:=bt) (mC:=(yf.up 5 aP)) (wu:=bI.up 5 wu) (iY:=aI) (H:=LN) (h:=h);intro _ r;refine cl (wn rfl) r hc ?_;clear hc h;rintro _ w ⟨abf,x33,x34,x35,HX,J6,HU,F6,Fs,FK,K4,SE,x44,rfl,h⟩;refine⟨_,rfl,?_⟩;refine ko [.tuple #[pA abf 0,Z AJ],U,U,U,U]<|G<|wq<|aL [U,vB (AJ != 0)]<|G<|rV H (λVj H=>?_) λVj H=>?_
     ·refine fT<|ks<|fP H λS46 e47 H=>bS<|lH (xu e47 h :) λx48 x49 x50 TX w h=>G<|aL [U]<|kL (h.pick 10) 1<|qg H λc52 H=>xc1 (CN (va:=jA) (c:=lU) (l:=p4.oY) (h:=h) (hv:=(bI.FW aJ (h.pick 12) (λh=>(h.pick 12)))) c52 :) λb53 w h=>bS<|G<|gP<|qd2 H λo63 H aeS=>λ_ r=>cW (β:=Unit) (λ_ a w=>∃FD:fB,∃FE:Nat,∃JY:fB,∃JZ:Nat,∃YI:fB,∃YJ:Nat,∃ZD:af,∃l61:List ak,(ZD,l61)=o63/\∃j,jY 108 (lk [(14,pA Kz 0),(18,aW YI l61.length YJ)] j) a/\Fit z (aD (gD Kz ZD FD FE JY JZ (GC YI YJ l61::zu ju jy p4.jx::zu jA lU p4.oY::L))) w) ?_ ?_
      ·refine qq r<|aL [U]<|kL (h.pick 11) 0<|ko [Z ((p4.jx.length:Nat):Int),U]<|G<|wb<|?_;replace h:=h.fC (e:=47) (sz:=6) (enc:=ia);refine λ_ r=>dr (β:=Nat) id (λm a w=>∃abg:fB,∃abh:Nat,∃To:fB,∃Tp:Nat,∃V9:fB,∃Wa:Nat,∃S64:af,∃WZ:ag,∃N6:aY,∃OV:List ak,∃HK:Int,(nc K p2 p4 m S64 WZ N6 OV HK)=some o63/\∃j,jY 108 (lk [(2,Z p2),(14,pA Kz 0),(16,pA abf 0),(17,pA b53 0),(18,aW V9 OV.length Wa),(71,aW ju p4.jx.length jy),(72,Z ((p4.jx.length:Nat):Int)),(73,Z HK)] j) a/\Fit z (aD (gD Kz S64 abg abh To Tp (ZA abf WZ Kz x33 x34 x35 HX J6 HU F6 Fs (xD b53 N6::GC V9 Wa OV::zu ju jy p4.jx::zu jA lU p4.oY::L)))) w) K ⟨x48,x49,x50,TX,none,0,S46,QK,(⟨p4.oY⟩:aY),([]:List ak),0,H,r.fj (h.se 15 [2,3,4,5,6,7,8,9,1,0,13,14])⟩<|?_;clear h r H;rintro k1 a w ⟨abg,abh,To,Tp,V9,Wa,S64,WZ,N6,OV,HK,H,j,r,h⟩;cases k1 with
       | zero=>exact absurd H (by simp[nc])
       | succ k1 =>
        rw[nc]at H;refine qq r<|aL [dm (HK<((p4.jx.length:Nat):Int))]<|G<|wq<|dK H (λc75 H=>?_) λc75 H=>?_
        ·refine fT<|wq<|wb<|ks<|qg H λc76 H=>bS<|ki (h.pick 10) c76<|zz (Z (J p4.jx HK.toNat)) ((h.pick 10).cy aJ (f:=0) (bj c76) rfl)<|?_;refine ko da<|G<|ks<|fP H λOU e78 H=>ko da<|eW (BK e78 h :) λw h=>bS<|G<|ks<|fP H λS79 e80 H=>ko da<|lH (yV e80 h :) λx81 x82 x83 SD w h=>G<|ks<|qb5 H λK5 ZF Vm Sy S89 e90 H=>ko yj<|qh h.m8.m3.m3.m3.m8.m8.m8.m8.m8 λh=>lH (yP (Mc:=bI.up 3 Mc) e90 h :) λx91 x92 x93 x94 w h=>ko [.tuple #[eH K5,Z ZF],U,U]<|kN h (gj) 47 λb95 w h=>kA h (fM b95 K5) λw h=>bS<|G<|wq<|aL [U]<|kL h 2<|ko [vB (K5.aG==0)]<|G<|dK H (λc96 H=>?_) λc96 H=>?_
         ·refine wx<|te<|bh<|tn<|wl<|ko [Z (wi (HK+1)),Z (wi (HK+1))]<|G<|?_;exact λ_ r=>⟨_,⟨x91,x92,x93,x94,V9,Wa,Sy,Vm,S89,OV,(wi (HK+1)),H,r.fj (h.se 13 [6,7,8,1,2,3,4,5,9,10,11,12])⟩,ie _⟩
         refine fT<|aL da<|kS h 0 (fM b95 {K5 with At:=HK}) λw h=>G<|aL [U]<|kM h<|kV h (vW {K5 with At:=HK}) 47 λb97 w h=>qh h.m11 λh=>qg H λaaH H=>λ_ r=>jU (n0:=OV.length) (c:=1) (bytes:=48) (wn rfl) rfl rfl r rfl aZ aZ fE (E:=47) (xs:=OV) aZ aZ h (news:=[{K5 with At:=HK}]) (m:=1) rfl ((h.pick 1).news rfl) aaH rfl λac9 ada w _ h r=>qq r<|bS<|G<|aL [U]<|kM (h.pick 2)<|fP H λSA aeT H=>qh h.OQ.OQ.OQ.OQ.OQ.OQ.OQ.OQ λh=>eW (Dd aeT h :) λw h=>G<|EN H (λaeU H=>?_) λaeU H=>?_
         ·refine wx<|λ_ r=>Di gB<|qq r<|te<|te<|bh<|tn<|?_;exact λ_ r=>⟨(),x91,x92,x93,x94,ac9,ada,Sy,(OV++[{K5 with At:=HK}]),fV H,r.fj (h.se 14 [5,6,7,8,12,13])⟩
         refine wk<|bn<|tn<|wl<|ko [Z (wi (HK+1)),Z (wi (HK+1))]<|G<|?_;exact λ_ r=>⟨_,⟨x91,x92,x93,x94,ac9,ada,Sy,Vm,S89,(OV++[{K5 with At:=HK}]),(wi (HK+1)),H,r.fj (h.se 14 [5,6,7,0,1,2,3,4,11,8,12,13])⟩,ie _⟩
        refine wx<|te<|te<|bh<|tn<|?_;exact λ_ r=>⟨(),abg,abh,To,Tp,V9,Wa,S64,OV,fV H,r.fj (h.se 12 [0,1,2,9,10,11])⟩
      clear h r;rintro _ a w ⟨FD,FE,JY,JZ,YI,YJ,ZD,l61,rfl,j,r,h⟩;replace H:=kk2 aeS;refine qq r<|ks<|fP H λac7 Vq H=>ko da<|xc1 (yQ Vq h :) λFv w h=>ko kJ<|bY<|?_;cases H;exact xw3 YI YJ Fv (h.se 7 [5,6,4,3])
     refine aL yj<|bY<|tr<|λ_ r=>LG (aW none 0 0) (aW none 0 0) (Z AJ) rfl r<|?_;replace h:=h.fC (e:=47) (sz:=6) (enc:=ia);replace h:=h.fC (e:=269) (sz:=6) (enc:=gZ);cases H;exact⟨none,0,none,rfl,h.se 15 [13,14,1,0]⟩
    | none =>
     refine lH (C2 (v5:=ER) (xG:=GV) (Cu:=(bI.up 5 F8)) (jD:=aT) (mB:=bt) (mC:=(yf.up 5 aP)) (wu:=bI.up 5 wu) (iY:=aI) LN h :) λGk Jo Jp afR w h=>ko [.tuple #[pN,Z AJ],U,U,U,U]<|G<|wq<|aL [U,vB (AJ != 0)]<|G<|rV H (λaaJ H=>?_) λaaJ H=>?_
     ·refine fT<|ks<|fP H λabe aeV H=>bS<|lH (xu aeV h :) λaeW aeX aeY HE w h=>G<|aL [U]<|kL (h.pick 5) 1<|qg H λaeZ H=>xc1 (CN (va:=jA) (c:=lU) (l:=p4.oY) (h:=h) (hv:=(bI.FW aJ (h.pick 7) (λh=>(h.pick 7)))) aeZ :) λadb w h=>bS<|G<|gP<|qd2 H λade H adf=>λ_ r=>cW (β:=Unit) (λ_ a w=>∃Z0:fB,∃Z1:Nat,∃Z2:fB,∃Z3:Nat,∃RF:fB,∃RG:Nat,∃V7:af,∃Tt:List ak,(V7,Tt)=ade/\∃j,jY 108 (lk [(14,pA Kz 0),(18,aW RF Tt.length RG)] j) a/\Fit z (aD (gD Kz V7 Z0 Z1 Z2 Z3 (GC RF RG Tt::zu ju jy p4.jx::zu jA lU p4.oY::L))) w) ?_ ?_
      ·refine qq r<|aL [U]<|kL (h.pick 6) 0<|ko [Z ((p4.jx.length:Nat):Int),U]<|G<|wb<|?_;replace h:=h.fC (e:=47) (sz:=6) (enc:=ia);refine λ_ r=>dr (β:=Nat) id (λm a w=>∃Wb:fB,∃Wc:Nat,∃Wd:fB,∃We:Nat,∃OB:fB,∃OC:Nat,∃P7:af,∃DU:List ak,∃xP:Int,(sG K p2 p4 m P7 DU xP)=some ade/\∃j,jY 108 (lk [(2,Z p2),(14,pA Kz 0),(16,pN),(17,pA adb 0),(18,aW OB DU.length OC),(71,aW ju p4.jx.length jy),(72,Z ((p4.jx.length:Nat):Int)),(73,Z xP)] j) a/\Fit z (aD (gD Kz P7 Wb Wc Wd We (xD adb (⟨p4.oY⟩:aY)::GC OB OC DU::zu ju jy p4.jx::zu jA lU p4.oY::L))) w) K ⟨aeW,aeX,aeY,HE,none,0,abe,([]:List ak),0,H,r.fj (h.se 10 [2,3,4,1,0,8,9])⟩<|?_;clear h r H;rintro k2 a w ⟨Wb,Wc,Wd,We,OB,OC,P7,DU,xP,H,j,r,h⟩;cases k2 with
       | zero=>exact absurd H (by simp[sG])
       | succ k2 =>
        rw[sG]at H;refine qq r<|aL [dm (xP<((p4.jx.length:Nat):Int))]<|G<|wq<|dK H (λae0 H=>?_) λae0 H=>?_
        ·refine fT<|wq<|wb<|ks<|qg H λadg H=>bS<|ki (h.pick 5) adg<|zz (Z (J p4.jx xP.toNat)) ((h.pick 5).cy aJ (f:=0) (bj adg) rfl)<|?_;refine ko da<|G<|ks<|fP H λabd ae1 H=>ko da<|eW (BK ae1 h :) λw h=>bS<|G<|ks<|fP H λP8 ae2 H=>ko da<|lH (yV ae2 h :) λabi abj abk abl w h=>G<|ks<|xT H λGD ac6 ae3 H=>ko yj<|qh h.m3 λh=>eW (wT ae3 h :) λw h=>ko [.tuple #[eH GD,Z ac6],U,U]<|kN h (gj) 47 λadh w h=>kA h (fM adh GD) λw h=>bS<|G<|wq<|aL [U]<|kL h 2<|ko [vB (GD.aG==0)]<|G<|dK H (λae4 H=>?_) λae4 H=>?_
         ·refine wx<|te<|bh<|tn<|wl<|ko [Z (wi (xP+1)),Z (wi (xP+1))]<|G<|?_;exact λ_ r=>⟨_,⟨abi,abj,abk,abl,OB,OC,P8,DU,(wi (xP+1)),H,r.fj (h.se 8 [2,3,4,1,5,6,7])⟩,ie _⟩
         refine fT<|aL da<|kS h 0 (fM adh {GD with At:=xP}) λw h=>G<|aL [U]<|kM h<|kV h (vW {GD with At:=xP}) 47 λafS w h=>qh h.m6 λh=>qg H λVr H=>λ_ r=>jU (n0:=DU.length) (c:=1) (bytes:=48) (wn rfl) rfl rfl r rfl aZ aZ fE (E:=47) (xs:=DU) aZ aZ h (news:=[{GD with At:=xP}]) (m:=1) rfl ((h.pick 1).news rfl) Vr rfl λZ4 Z5 w _ h r=>qq r<|bS<|G<|aL [U]<|kM (h.pick 2)<|fP H λC6 ae5 H=>eW (Ag ae5 h :) λw h=>G<|EN H (λae6 H=>?_) λae6 H=>?_
         ·refine wx<|λ_ r=>Di gB<|qq r<|te<|te<|bh<|tn<|?_;exact λ_ r=>⟨(),abi,abj,abk,abl,Z4,Z5,P8,(DU++[{GD with At:=xP}]),fV H,r.fj (h.se 9 [4,5,6,0,7,8])⟩
         refine wk<|bn<|tn<|wl<|ko [Z (wi (xP+1)),Z (wi (xP+1))]<|G<|?_;exact λ_ r=>⟨_,⟨abi,abj,abk,abl,Z4,Z5,P8,(DU++[{GD with At:=xP}]),(wi (xP+1)),H,r.fj (h.se 9 [4,5,6,3,0,7,8])⟩,ie _⟩
        refine wx<|te<|te<|bh<|tn<|?_;exact λ_ r=>⟨(),Wb,Wc,Wd,We,OB,OC,P7,DU,fV H,r.fj (h.se 7 [0,1,2,4,5,6])⟩
      clear h r;rintro _ a w ⟨Z0,Z1,Z2,Z3,RF,RG,V7,Tt,rfl,j,r,h⟩;replace H:=kk2 adf;refine qq r<|ks<|fP H λac8 ae7 H=>ko da<|xc1 (yQ ae7 h :) λHF w h=>ko kJ<|bY<|?_;cases H;exact xw3 RF RG HF (h.se 7 [5,6,4,3])
     refine aL yj<|bY<|tr<|λ_ r=>LG (aW none 0 0) (aW none 0 0) (Z AJ) rfl r<|?_;replace h:=h.fC (e:=47) (sz:=6) (enc:=ia);replace h:=h.fC (e:=269) (sz:=6) (enc:=gZ);cases H;exact⟨none,0,none,rfl,h.se 10 [8,9,1,0]⟩
   refine aL yj<|bY<|tr<|λ_ r=>LG (aW none 0 0) (aW none 0 0) (Z mT) rfl r<|?_;replace h:=h.fC (e:=47) (sz:=6) (enc:=ia);replace h:=h.fC (e:=269) (sz:=6) (enc:=gZ);cases H;exact⟨none,0,none,rfl,h.se 10 [8,9,1,0]⟩
  | none =>
   refine eW (JW KZ h :) λw h=>ko [.tuple #[pN,Z mT],U,U,U,U]<|G<|wq<|aL [U,vB (mT != 0)]<|G<|rV H (λae8 H=>?_) λae8 H=>?_
   ·refine fT<|aL da<|yw (oV #[aW aT O.ah.length bt]) (cs:=[aW aT O.ah.length bt]) ⟨h.cell 0 rfl,bR⟩<|?_;refine ko da<|kM (h.pick 1)<|?_;cases H
   refine aL yj<|bY<|tr<|λ_ r=>LG (aW none 0 0) (aW none 0 0) (Z mT) rfl r<|?_;replace h:=h.fC (e:=47) (sz:=6) (enc:=ia);replace h:=h.fC (e:=269) (sz:=6) (enc:=gZ);cases H;exact⟨none,0,none,rfl,h.se 7 [5,6,1,0]⟩
 refine aL yj<|bY<|tr<|λ_ r=>LG (aW none 0 0) (aW none 0 0) (Z pH) rfl r<|?_;replace h:=h.fC (e:=47) (sz:=6) (enc:=ia);replace h:=h.fC (e:=269) (sz:=6) (enc:=gZ);cases H;exact⟨none,0,none,rfl,h.se 7 [5,6,1,0]⟩
def oy(O:mc):Option (Bool):=
 (if((O.jx.length:Nat):Int)>1048576 then some true else some (decide (((O.oY.length:Nat):Int)>1048576)))
theorem Bb(H:oy O=some r0)(h:iJ z (L) w)(Tu:bI L 1 aK GF O.jx)(Tv:bI L 1 aK GG O.oY) :
 nH 47 #[oV #[aW GF O.jx.length Ld,aW GG O.oY.length Le]] w z (vB r0) (L):=by
 unfold oy at H;refine ke func47 13 rfl λj=>ks<|kN h (#[aW GF O.jx.length Ld,aW GG O.oY.length Le]) 30 λb1 w h=>bS<|G<|aL [U]<|kL h 0<|ko [Z ((O.jx.length:Nat):Int),dm (((O.jx.length:Nat):Int)>1048576),dm (((O.jx.length:Nat):Int)>1048576)]<|qI H (λc2 H=>?_) λc2 H=>?_
 ·refine cg (dT c2) [8,9,10,11]<|oJ (dT c2) (vB true)<|bS<|bY<|?_;cases H;exact fU (h.se 1 [])
 refine cT (dF c2) [8] [pA b1 1]<|vz (dF c2) h 1<|cT (dF c2) [10,11] [Z ((O.oY.length:Nat):Int),dm (((O.oY.length:Nat):Int)>1048576)]<|oz (dF c2) (dm (((O.oY.length:Nat):Int)>1048576))<|ko [dm (((O.oY.length:Nat):Int)>1048576)]<|bY<|?_;cases H;exact fU (h.se 1 [])
def iH(K:Nat)(O:bU):Option (Int):=
 dX (oy (⟨O.cP,O.eX⟩:mc)) (λr2=>(if r2=true then some 2 else dX (jo K (⟨O.bP⟩:aE) O.oA O.cO (⟨O.de,O.eU,O.eP⟩:dZ)) (λr5=>some r5)))
theorem Bc(H:iH K O=some r0)(h:iJ z (L) w)(cF:zb L aN cB O.bP)(og:bI L 1 aK dY O.oA)(iU:bI L 1 aK bO O.cP)(jL:bI L 1 aK bX O.eX) :
 nH 29 #[oV #[aW aN O.bP.length bq,aW dY O.oA.length fg,Z O.cO,Z O.de,Z O.eU,Z O.eP,aW bO O.cP.length cA,aW bX O.eX.length cC]] w z (Z r0) (L):=by
 unfold iH at H;refine ke func29 15 rfl λj=>ks<|kN h (#[aW aN O.bP.length bq,aW dY O.oA.length fg,Z O.cO,Z O.de,Z O.eU,Z O.eP,aW bO O.cP.length cA,aW bX O.eX.length cC]) 32 λb1 w h=>bS<|G<|wq<|aL [U]<|yw (oV #[aW bO O.cP.length cA,aW bX O.eX.length cC]) (cs:=[aW bO O.cP.length cA,aW bX O.eX.length cC]) (h.held 6 rfl)<|?_;refine fP H λr2 e3 H=>eW (Bb (GF:=bO) (Ld:=cA) (Tu:=(bI.up 1 iU)) (GG:=bX) (Le:=cC) (Tv:=(bI.up 1 jL)) e3 h :) λw h=>G<|EN H (λc4 H=>?_) λc4 H=>?_
 ·refine gP<|wr<|tr<|?_;cases H;exact fU (h.se 1 [])
 refine fT<|aL [U]<|yw (oV #[aW aN O.bP.length bq]) (cs:=[aW aN O.bP.length bq]) ⟨h.cell 0 rfl,bR⟩<|?_;refine bS<|kL h 1<|bS<|kL h 2<|bS<|yw (oV #[Z O.de,Z O.eU,Z O.eP]) (cs:=[Z O.de,Z O.eU,Z O.eP]) (h.held 3 rfl)<|?_;refine fP H λr5 e6 H=>eW (AL (ER:=dY) (GV:=fg) (F8:=(bI.up 1 og)) (aT:=aN) (bt:=bq) (aP:=(yf.up 1 cF)) (aI:=cB) e6 h :) λw h=>bS<|bY<|?_;cases H;exact fU (h.se 1 [])
def kH(K:Nat)(mT:List ak):Nat->Int->Option ((List ak)×Bool×Bool)
 | 0,_=>none
 | k1+1,tN=>(if tN<((mT.length:Nat):Int)then dX (if bJ tN mT.length then(if(J mT tN.toNat).aG=1 then some ((J mT tN.toNat).Frame==0)else some false)else none) (λg34=>(if g34=true then if bJ tN mT.length then(if(J mT tN.toNat).tT=0 then(if(J mT tN.toNat).X=(-1)then some (mT,true,(J mT tN.toNat).V==1)else some (mT,true,false))else some (mT,true,false))else none else(kH K mT k1 (wi (tN+1)))))else some (mT,true,false))
def lE(K:Nat)(O:bU):Option ((List ak)×Bool×Bool):=
 dX (oI K O) (λr5=>rN (sU K (⟨r5.bP⟩:aE) r5.oA r5.cO (⟨r5.de,r5.eU,r5.eP⟩:dZ) (⟨r5.cP,r5.eX⟩:mc)) (λmT rO Al=>dX (iH K O) (λy9=>(if Al=y9 then(if Al=0 then dX (s6 K O) (λPm=>(if Pm=true then(kH K mT K 0)else some (mT,true,true)))else some (([]:List ak),false,true))else some (([]:List ak),false,false)))))
theorem De(H:lE K O=some (r0,r1,r2))(h:iJ z (L) w)(cF:zb L aN cB O.bP)(og:bI L 1 aK dY O.oA)(iU:bI L 1 aK bO O.cP)(jL:bI L 1 aK bX O.eX)(Mc:bI L 1 IB (some ⟨0,0,none⟩) QD)(wu:bI L 5 gJ (some ⟨1,0,none⟩) yY) :
 Calls Tryz.prog 24 #[oV #[aW aN O.bP.length bq,aW dY O.oA.length fg,Z O.cO,Z O.de,Z O.eU,Z O.eP,aW bO O.cP.length cA,aW bX O.eX.length cC]] w λe w=>∃y1 y2,e=.returned (.tuple #[aW y1 r0.length y2,vB r1,vB r2])/\Fit z (aD (GC y1 y2 r0::L)) w:=by
 unfold lE at H;refine ke func24 85 rfl λj=>ks<|kN h (#[aW aN O.bP.length bq,aW dY O.oA.length fg,Z O.cO,Z O.de,Z O.eU,Z O.eP,aW bO O.cP.length cA,aW bX O.eX.length cC]) 32 λb4 w h=>ko kJ<|G<|ks<|kM h<|fP H λr5 e6 H=>xc8 (Dc (aN:=aN) (bq:=bq) (cF:=(yf.up 1 cF)) (dY:=dY) (fg:=fg) (og:=(bI.up 1 og)) (bO:=bO) (cA:=cA) (iU:=(bI.up 1 iU)) (bX:=bX) (cC:=cC) (jL:=(bI.up 1 jL)) (cB:=cB) e6 h :) λx7 x8 x9 TJ Cn BF xH yz w h=>kN h (#[aW none 0 0,aW none 0 0,Z 0,Z 0,Z 0,Z 0,aW none 0 0,aW none 0 0]) 32 λP9 w h=>kA h (F4 P9 r5 x7 x8 x9 TJ Cn BF xH yz) λw h=>G<|aL [U]<|yw (oV #[aW x7 r5.bP.length x8]) (cs:=[aW x7 r5.bP.length x8]) ⟨h.cell 0 rfl,bR⟩<|?_;refine bS<|kL h 1<|bS<|kL h 2<|bS<|yw (oV #[Z r5.de,Z r5.eU,Z r5.eP]) (cs:=[Z r5.de,Z r5.eU,Z r5.eP]) (h.held 3 rfl)<|?_;refine bS<|yw (oV #[aW Cn r5.cP.length BF,aW xH r5.eX.length yz]) (cs:=[aW Cn r5.cP.length BF,aW xH r5.eX.length yz]) (h.held 6 rfl)<|?_;refine qh h.m1 λh=>?_;obtain⟨ae9,adi,h⟩:=Ur (cn:=UO) (agd:=132) (tU:=5) (jz:=cU) (wm:=aB.ai) (λh=>vV h) h;refine vg H λmT rO Al LM H=>qh h.m4.m4 λh=>xc3 (JF (ER:=x9) (GV:=TJ) (F8:=(bI.FW aJ (h.pick 4) (λh=>(h.pick 2)))) (aT:=x7) (bt:=x8) (aP:=(yf.cast (yf.Xr iL gB (h.pick 2) (λh=>h)) adi)) (Mc:=bI.up 4 Mc) (wu:=bI.up 4 wu) (aI:=(λi_=>(J ae9 i_).2)) LM h :) λnY wz DI w h=>qh h.m4 λh=>?_;replace h:=O3 (own:=mO) (λh=>eY h) h adi;refine ko [.tuple #[aW nY mT.length wz,aW DI rO.length rO.length,Z Al],U,U,U,U,U,U]<|G<|ks<|kM (h.pick 7)<|fP H λy9 Vg H=>eW (Bc (aN:=aN) (bq:=bq) (cF:=(yf.up 8 cF)) (dY:=dY) (fg:=fg) (og:=(bI.up 8 og)) (bO:=bO) (cA:=cA) (iU:=(bI.up 8 iU)) (bX:=bX) (cC:=cC) (jL:=(bI.up 8 jL)) (cB:=cB) Vg h :) λw h=>bS<|G<|wq<|aL [U,U,vB (Al != y9)]<|G<|rV H (λsX H=>?_) λsX H=>?_
 ·refine fT<|wq<|aL [U,vB (Al != 0)]<|G<|rV H (λBk H=>?_) λBk H=>?_
  ·refine fT<|ks<|kM (h.pick 7)<|fP H λPm LN H=>eW (Cr (aN:=aN) (bq:=bq) (cF:=(yf.up 8 cF)) (dY:=dY) (fg:=fg) (og:=(bI.up 8 og)) (bO:=bO) (cA:=cA) (iU:=(bI.up 8 iU)) (bX:=bX) (cC:=cC) (jL:=(bI.up 8 jL)) (cB:=cB) LN h :) λw h=>bS<|G<|wq<|aL [U,vB (!Pm)]<|G<|FZ H (λxV H=>?_) λxV H=>?_
   ·refine fT<|wq<|gP<|wb<|λ_ r=>dr (β:=Nat) id (λm a w=>∃tN:Int,(kH K mT m tN)=some (r0,r1,r2)/\∃j,jY 85 (lk [(6,aW nY mT.length wz),(11,Z tN)] j) a/\Fit z (aD (GC nY wz mT::L)) w) K ⟨0,H,r.fj (h.se 8 [3])⟩<|?_;clear h r H;rintro k1 a w ⟨tN,H,j,r,h⟩;cases k1 with
    | zero=>exact absurd H (by simp[kH])
    | succ k1 =>
     rw[kH]at H;refine qq r<|wq<|aL [U,U,Z ((mT.length:Nat):Int),dm (tN<((mT.length:Nat):Int))]<|G<|dK H (λCf H=>?_) λCf H=>?_
     ·refine fT<|wq<|wb<|EM H λo36 H afa=>λ_ r=>cW (β:=Unit) (λ_ a w=>∃g34:Bool,g34=o36/\∃j,jY 85 (lk [(6,aW nY mT.length wz),(11,Z tN),(60,vB g34)] j) a/\Fit z (aD (GC nY wz mT::L)) w) ?_ ?_
      ·refine qq r<|wl<|qg H λK2 H=>ko da<|ki h K2<|bS<|zz (Z (J mT tN.toNat).aG) (h.cy fE (f:=2) (bj K2) rfl)<|?_;refine ko [vB ((J mT tN.toNat).aG==1),vB ((J mT tN.toNat).aG==1)]<|qI H (λFJ H=>?_) λFJ H=>?_
       ·refine cT (beq_iff_eq.mpr FJ) [54,55] [aW nY mT.length wz,Z tN]<|λ_ r=>CK (nL r (beq_iff_eq.mpr FJ)) r (mR nY tN 6) (uI 47 rfl h K2)<|?_;refine cT (beq_iff_eq.mpr FJ) [57] [uQ nY tN 6 3]<|λ_ r=>ld (nL r (beq_iff_eq.mpr FJ)) r (Z (J mT tN.toNat).Frame) (h.cy fE (f:=3) (bj K2) rfl)<|?_;refine cT (beq_iff_eq.mpr FJ) [59] [vB ((J mT tN.toNat).Frame==0)]<|oJ (beq_iff_eq.mpr FJ) (vB ((J mT tN.toNat).Frame==0))<|G<|?_;exact λ_ r=>⟨(),((J mT tN.toNat).Frame==0),fV H,r.fj h⟩
       refine cg (bN FJ) [54,55,56,57,58,59]<|oz (bN FJ) (vB false)<|G<|?_;exact λ_ r=>⟨(),false,fV H,r.fj h⟩
      clear h r;rintro _ a w ⟨g34,rfl,j,r,h⟩;replace H:=EK afa;refine qq r<|EN H (λJ0 H=>?_) λJ0 H=>?_
      ·refine wq<|qg H λK1 H=>qI H (λAK H=>?_) λAK H=>?_
       ·refine qI H (λDF H=>?_) λDF H=>?_
        ·refine mJ [(dJ nY,tN.toNat*6+1,[Z (J mT tN.toNat).tT]),(dJ nY,tN.toNat*6+4,[Z (J mT tN.toNat).X]),(dJ nY,tN.toNat*6+5,[Z (J mT tN.toNat).V])] [3,4,6,10,11,13,18,19] 26 h (λh=>⟨⟨h.cy fE (f:=1) (bj K1) rfl,bR⟩,⟨h.cy fE (f:=4) (bj K1) rfl,bR⟩,⟨h.cy fE (f:=5) (bj K1) rfl,bR⟩,bR⟩) λw h hd =>lW hd 23 61 [([0,1],aW nY mT.length wz),([2],Z tN)]<|nr hd 22 3 rfl (mR nY tN 6) (λw=>uI 47 rfl h K1)<|mg hd 21 [(4,65,uQ nY tN 6 1)]<|eI hd 0 20 5 rfl<|lW hd 18 61 [([6,7],vB ((J mT tN.toNat).tT==0))]<|λ_ r=>FG hd 17 8 rfl (nL r (beq_iff_eq.mpr AK)) r (aW nY mT.length wz)<|?_;refine λ_ r=>FG hd 16 9 rfl (nL r (beq_iff_eq.mpr AK)) r (Z tN)<|?_;refine λ_ r=>FG hd 15 10 rfl (nL r (beq_iff_eq.mpr AK)) r (mR nY tN 6) (hrun:=λw=>uI 47 rfl h K1)<|?_;refine λ_ r=>FG hd 14 11 rfl (nL r (beq_iff_eq.mpr AK)) r (uQ nY tN 6 4)<|?_;refine λ_ r=>elx hd 1 13 12 r (nL r (beq_iff_eq.mpr AK)) rfl rfl<|?_;refine λ_ r=>FG hd 12 13 rfl (nL r (beq_iff_eq.mpr AK)) r (vB ((J mT tN.toNat).X==(-1)))<|?_;refine nr hd 11 14 rfl (vB ((J mT tN.toNat).X==(-1))) (λw=>G8 (b:=((J mT tN.toNat).tT==0)) rfl aZ (beq_iff_eq.mpr AK) aZ)<|mg hd 10 [(15,76,vB ((J mT tN.toNat).X==(-1)))]<|λ_ r=>FG hd 9 16 rfl (nL r (beq_iff_eq.mpr DF)) r (aW nY mT.length wz)<|?_;refine λ_ r=>FG hd 8 17 rfl (nL r (beq_iff_eq.mpr DF)) r (Z tN)<|?_;refine λ_ r=>FG hd 7 18 rfl (nL r (beq_iff_eq.mpr DF)) r (mR nY tN 6) (hrun:=λw=>uI 47 rfl h K1)<|?_;refine λ_ r=>FG hd 6 19 rfl (nL r (beq_iff_eq.mpr DF)) r (uQ nY tN 6 5)<|?_;refine mg hd 4 [(23,2,aW nY mT.length wz),(24,3,vB true)]<|λ_ r=>elx hd 2 3 20 r (nL r (beq_iff_eq.mpr DF)) rfl rfl<|?_;refine λ_ r=>FG hd 2 21 rfl (nL r (beq_iff_eq.mpr DF)) r (vB ((J mT tN.toNat).V==1))<|?_;refine nr hd 1 22 rfl (vB ((J mT tN.toNat).V==1)) (λw=>G8 (b:=((J mT tN.toNat).X==(-1))) rfl aZ (beq_iff_eq.mpr DF) aZ)<|mg hd 0 [(25,4,vB ((J mT tN.toNat).V==1))]<|mM<|tn<|wr<|br<|tr<|tr<|br<|tr<|?_;cases H;exact xw2 nY wz h
        refine mJ [(dJ nY,tN.toNat*6+1,[Z (J mT tN.toNat).tT]),(dJ nY,tN.toNat*6+4,[Z (J mT tN.toNat).X])] [3,4,6,10,11] 26 h (λh=>⟨⟨h.cy fE (f:=1) (bj K1) rfl,bR⟩,⟨h.cy fE (f:=4) (bj K1) rfl,bR⟩,bR⟩) λw h hd =>lW hd 23 61 [([0,1],aW nY mT.length wz),([2],Z tN)]<|nr hd 22 3 rfl (mR nY tN 6) (λw=>uI 47 rfl h K1)<|mg hd 21 [(4,65,uQ nY tN 6 1)]<|eI hd 0 20 5 rfl<|lW hd 18 61 [([6,7],vB ((J mT tN.toNat).tT==0))]<|λ_ r=>FG hd 17 8 rfl (nL r (beq_iff_eq.mpr AK)) r (aW nY mT.length wz)<|?_;refine λ_ r=>FG hd 16 9 rfl (nL r (beq_iff_eq.mpr AK)) r (Z tN)<|?_;refine λ_ r=>FG hd 15 10 rfl (nL r (beq_iff_eq.mpr AK)) r (mR nY tN 6) (hrun:=λw=>uI 47 rfl h K1)<|?_;refine λ_ r=>FG hd 14 11 rfl (nL r (beq_iff_eq.mpr AK)) r (uQ nY tN 6 4)<|?_;refine λ_ r=>elx hd 1 13 12 r (nL r (beq_iff_eq.mpr AK)) rfl rfl<|?_;refine λ_ r=>FG hd 12 13 rfl (nL r (beq_iff_eq.mpr AK)) r (vB ((J mT tN.toNat).X==(-1)))<|?_;refine nr hd 11 14 rfl (vB ((J mT tN.toNat).X==(-1))) (λw=>G8 (b:=((J mT tN.toNat).tT==0)) rfl aZ (beq_iff_eq.mpr AK) aZ)<|mg hd 10 [(15,76,vB ((J mT tN.toNat).X==(-1)))]<|λ_ r=>eof hd 9 16 rfl (nL r (bN DF)) r<|?_;refine λ_ r=>eof hd 8 17 rfl (nL r (bN DF)) r<|?_;refine λ_ r=>eof hd 7 18 rfl (nL r (bN DF)) r<|?_;refine λ_ r=>eof hd 6 19 rfl (nL r (bN DF)) r<|?_;refine mg hd 4 [(23,2,aW nY mT.length wz),(24,3,vB true)]<|λ_ r=>eof hd 3 20 rfl (nL r (bN DF)) r<|?_;refine λ_ r=>eof hd 2 21 rfl (nL r (bN DF)) r<|?_;refine nr hd 1 22 rfl (vB false) (λw=>It (b:=((J mT tN.toNat).X==(-1))) rfl aZ (bN DF) aZ)<|mg hd 0 [(25,4,vB false)]<|mM<|tn<|wr<|br<|tr<|tr<|br<|tr<|?_;cases H;exact xw2 nY wz h
       refine mJ [(dJ nY,tN.toNat*6+1,[Z (J mT tN.toNat).tT])] [3,4] 26 h (λh=>⟨⟨h.cy fE (f:=1) (bj K1) rfl,bR⟩,bR⟩) λw h hd =>lW hd 23 61 [([0,1],aW nY mT.length wz),([2],Z tN)]<|nr hd 22 3 rfl (mR nY tN 6) (λw=>uI 47 rfl h K1)<|mg hd 21 [(4,65,uQ nY tN 6 1)]<|eI hd 0 20 5 rfl<|lW hd 18 61 [([6,7],vB ((J mT tN.toNat).tT==0))]<|λ_ r=>eof hd 17 8 rfl (nL r (bN AK)) r<|?_;refine λ_ r=>eof hd 16 9 rfl (nL r (bN AK)) r<|?_;refine λ_ r=>eof hd 15 10 rfl (nL r (bN AK)) r<|?_;refine λ_ r=>eof hd 14 11 rfl (nL r (bN AK)) r<|?_;refine λ_ r=>eof hd 13 12 rfl (nL r (bN AK)) r<|?_;refine λ_ r=>eof hd 12 13 rfl (nL r (bN AK)) r<|?_;refine nr hd 11 14 rfl (vB false) (λw=>It (b:=((J mT tN.toNat).tT==0)) rfl aZ (bN AK) aZ)<|mg hd 10 [(15,76,vB false)]<|λ_ r=>eof hd 9 16 rfl (nL r (c:=false) rfl) r<|?_;refine λ_ r=>eof hd 8 17 rfl (nL r (c:=false) rfl) r<|?_;refine λ_ r=>eof hd 7 18 rfl (nL r (c:=false) rfl) r<|?_;refine λ_ r=>eof hd 6 19 rfl (nL r (c:=false) rfl) r<|?_;refine mg hd 4 [(23,2,aW nY mT.length wz),(24,3,vB true)]<|λ_ r=>eof hd 3 20 rfl (nL r (c:=false) rfl) r<|?_;refine λ_ r=>eof hd 2 21 rfl (nL r (c:=false) rfl) r<|?_;refine mg hd 0 [(22,83,vB false),(25,4,vB false)]<|mM<|tn<|wr<|br<|tr<|tr<|br<|tr<|?_;cases H;exact xw2 nY wz h
      refine wk<|bn<|tn<|wl<|ko [U,Z (wi (tN+1)),Z (wi (tN+1))]<|G<|?_;exact λ_ r=>⟨_,⟨(wi (tN+1)),H,r.fj h⟩,ie _⟩
     refine wx<|te<|te<|bh<|tn<|aL yj<|bY<|?_;cases H;exact xw2 nY wz h
   refine aL yj<|bY<|tr<|?_;cases H;exact xw2 nY wz (h.se 8 [3])
  refine aL kJ<|bY<|tr<|λ_ r=>LG (aW none 0 0) (vB false) (vB true) rfl r<|?_;replace h:=h.fC (e:=47) (sz:=6) (enc:=ia);cases H;exact⟨none,0,rfl,h.se 9 [0]⟩
 refine aL kJ<|bY<|tr<|λ_ r=>LG (aW none 0 0) (vB false) (vB false) rfl r<|?_;replace h:=h.fC (e:=47) (sz:=6) (enc:=ia);cases H;exact⟨none,0,rfl,h.se 9 [0]⟩
end
open Go SL GX
section
variable {K:Nat}
theorem YK{x n:Int}(h1:1<=n)(h2:n<=1000) :∃i:Nat,zE x n=some (i:Int)/\iD x n=some (i:Int)/\(i:Int)<n:=by
 obtain⟨i,e1,e2⟩:=Rz (x:=x) h1 h2;refine⟨i,?_,e1,e2⟩;rw[<-e1];unfold zE iD;rw[ez]
theorem RH{f m agc:Nat}(hf:f<=m)(hm:m<=4096)(hG:cq f m agc=m)(hT:tq f m agc<=100000):∀(d g k:Nat) (z:Int),g+d=agc->d<k->(∀x,g<=x->x<agc->cq f m x<m)->0<=z->z+((tq f m agc-tq f m g:Nat):Int)<=1000000->tq f m g<=tq f m agc->
 qu K (m:Int) k z (cq f m g:Nat)=some (z+((tq f m agc-tq f m g:Nat):Int))
 | d,g,k,z,hd,hk,hx,hz,hz2,ht=>by
  obtain⟨k,rfl⟩ :∃n,k=n+1:=⟨k-1,I⟩;have hl:=Rs hf g;rw[qu];by_cases e:g=agc
  ·subst e;rw[hG,ez,Io];simp
  ·obtain⟨d,rfl⟩ :∃n,d=n+1:=⟨d-1,I⟩;have h1:=hx g (gQ _) I;have hn:cq f m (g+1)=min (2*cq f m g) m:=rfl;have hT':tq f m (g+1)=tq f m g+1+cq f m (g+1):=rfl;have Yz:∀y,g+1+y<=agc->tq f m (g+1)<=tq f m (g+1+y):=λy=>by
    induction y with
    | zero=>intro _;exact gQ _
    | succ y ih=>intro h;have:=ih I;show _<=tq f m (g+1+y)+1+cq f m (g+1+y+1);omega
   have hle:tq f m (g+1)<=tq f m agc:=by have:=Yz (agc-(g+1)) I;rwa [show g+1+(agc-(g+1))=agc by omega]at this
   have hc:(if(m:Int)<wi ((2:Int)*((cq f m g:Nat):Int))then(m:Int)else wi ((2:Int)*((cq f m g:Nat):Int)))=((cq f m (g+1):Nat):Int):=by
    rw[fh I];split<;>omega
   rw[rD,hc,fh (x:=(1:Int)+_) I,fh (x:=z+_) I,
    RH hf hm hG hT d (g+1) k _ I I (λx h1 h2=>hx x I h2) I I hle]
   congr 1;omega
theorem abm{N F:Nat}{lI:dZ}{f m:Nat}(hl:ZM lI.cx lI.dP lI.jQ)(hF:lI.cx=F)(hf:lI.dP=f)(hm:lI.jQ=m)(ZN:1<=N)(hN:N<=64)(hK:5000<K) :
 ∃agc,cq f m agc=m/\xz K (N:Int) lI=some ((4+10*F+N+N*(4+f+tq f m agc):Nat):Int)/\4+10*F+N+N*(4+f+tq f m agc)<=1048576:=by
 have f1:=hl.f1;have f2:=hl.f2;have a1:=hl.a1;have a2:=hl.a2;have m2:=hl.m2;have TY:f<=m:=by omega
 have h1:1<=f:=by omega
 obtain⟨G',x1,x2,x3,x4,x5⟩:=YA (K:=K) (N:=N) (F:=F) (lI:=lI) (f:=f) (m:=m) hl hF hf hm ZN hN hK;obtain⟨agc,g1,g2,g3,g4,g5,g6,g7⟩:=P5 h1 TY (m-f) 0 (by show m-f<=m-f;omega);have hGG:agc=G':=by
  rcases Nat.lt_trichotomy agc G' with h | h | h
  ·have:=x2 agc h;omega
  ·exact h
  ·have:=g3 G' I h;omega
 subst hGG;refine⟨agc,x1,?_,x5⟩;have hGb:agc<=4096:=by
  rcases BZ 4096 agc with h | h
  ·exfalso
   have:∀x,x<=agc->x<=tq f m x:=λx=>by
    induction x with
    | zero=>intro _;omega
    | succ x ih=>intro h;have:=ih I;show _<=tq f m x+1+_;omega
   have hp:∀x,x<=agc->f+x<=cq f m x∨cq f m x=m:=λx=>by
    induction x with
    | zero=>intro _;exact .inl (by show f+0<=f;omega)
    | succ x ih =>
     intro h;have hn:cq f m (x+1)=min (2*cq f m x) m:=rfl;have:=MC h1 TY x;rcases ih I with h' | h'<;>omega
   rcases hp 4096 I with h' | h'
   ·have:=Rs TY 4096;omega
   ·have:=g3 4096 I h;omega
  ·exact h
 have hd:=RH (K:=K) (f:=f) (m:=m) (agc:=agc) TY I x1 I agc 0 K (4+f) I I (λx h1 h2=>g3 x h1 h2) I (by have:tq f m 0=0:=rfl;omega) (w7 _);have z0:tq f m 0=0:=rfl;have c0:cq f m 0=f:=rfl;rw[z0,c0,Nat.sub_zero]at hd;have hmul:N*(4+f+tq f m agc)<=1048576:=by omega
 have hmi:(N:Int)*(4+(f:Int)+((tq f m agc:Nat):Int))=((N*(4+f+tq f m agc):Nat):Int):=by rw[Int.natCast_mul];congr 1
 unfold xz sn sq sY pY zH uq;rw[rD,uT (show(N:Int)<=64 by omega),ax,bg rfl,rD,rD,rD,rD,uT (show lI.jQ<=4096 by omega),ax,bg rfl,gz,
  cQ I,ez,ax,ez,ez,ax,ax,bg rfl,hf,hm,fh (x:=(4:Int)+(f:Int)) I,hd,ax,hmi,hF]
 rw[fh (x:=(F:Int)*10) I,fh (x:=(1:Int)+(F:Int)*10) I,fh (x:=(2:Int)+(N:Int)) I,fh (x:=(1:Int)+(1+(F:Int)*10)) I,fh (x:=(1:Int)+(1+(F:Int)*10)+_) I,fh (x:=((N*(4+f+tq f m agc):Nat):Int)) I,fh I]
 congr 1
 omega
section
variable {C:Am.jv}{p:aE}{s:Am.St}{S:ag}{M:af}{sz n i:Nat}{D:aY}
theorem YL(b:xx C p s S M sz n)(a:Int):xx C p s S {M with wB:=a} sz n:=
 { b with ar:=⟨b.ar.size,b.ar.s1,b.ar.fit,b.ar.mark,b.ar.cl,b.ar.lg⟩}
theorem Wf(h:W5 C p s S)(hn:C.N<=64):∀(e k g:Nat),g+e=C.N->e<k->∃b,kG K S M k (g:Int)=some b/\(b=true->∀j,g<=j->j<C.N->s.pc j= .halted)
 | e,k,g,he,hk=>by
  obtain⟨k,rfl⟩ :∃m,k=m+1:=⟨k-1,I⟩;rw[kG];by_cases hg:g<C.N
  ·obtain⟨e,rfl⟩ :∃m,e=m+1:=⟨e-1,I⟩;rw[bg (by rw[h.wl];omega),Tk h hg,ax];by_cases h13:(act S g).aO=13
   ·rw[bg (by simp[h13]),Cl I];obtain⟨b,b1,b2⟩:=Wf h hn e k (g+1) I I;refine⟨b,b1,λhb j hj hjN => ?_⟩;by_cases ej:j=g
    ·subst ej;exact ac1 (h.wk j hg).3 h13
    ·exact b2 hb j I hjN
   ·rw[cQ (by simp[h13])];exact⟨false,rfl,λhb=>by cases hb⟩
  ·rw[cQ (by rw[h.wl];omega)];exact⟨true,rfl,λ_ j h1 h2=>I⟩
theorem YM(h:W5 C p s S)(hn:C.N<=64)(hK:100<K)(v:ak) :∃b,rz K S M v=some b/\(b=true->v.aG=11∨v.aG=10/\∀j,j<C.N->s.pc j= .halted):=by
 unfold rz;by_cases h1:v.aG=11
 ·rw[bg h1];exact⟨true,rfl,λ_=>.inl h1⟩
 ·rw[cQ h1];by_cases h2:v.aG=10
  ·rw[bg h2];obtain⟨b,b1,b2⟩:=Wf (K:=K) (M:=M) h hn C.N K 0 I I;rw[qz]at b1;exact⟨b,b1,λhb=>.inr ⟨h2,λj hj=>b2 hb j I hj⟩⟩
  ·rw[cQ h2];exact⟨false,rfl,λhb=>by cases hb⟩
def JG(g i:Nat)(l:List ak):Option Am.Ev->List ak
 | none=>l
 | some e=>l++[⟨(g:Int),(i:Int),(e.kind:Int),e.az,e.x,e.v⟩]
def YN(C:Am.jv)(s:Am.St)(l:List ak):Prop:=∃l0 e,l=l0++[e]/\(e.aG=11∨e.aG=10/\∀j,j<C.N->s.pc j= .halted)
theorem Qa{agd:Am.St->List ak->Nat->Prop}{sc:mc}(hK:2000000<K)(hp:sc.jx.length<=1048576){Q:Am.Pc->Prop}(hQ:∀s l g,agd s l g->∀i,i<C.N->Q (s.pc i))
 (hW:∀(s:Am.St) (S:ag) (M:af) (D:aY) (n i:Nat),xx C p s S M sz n->i<C.N->Q (s.pc i)->Oy C p sz n i M (drawn (s.pc i) D) (Am.aH C s i (IZ D)) (bG K S M (i:Int) D))
 (hI:∀(s:Am.St) (S:ag) (M:af) (l:List ak) (g i:Nat) (d:Int),xx C p s S M sz g->agd s l g->i<C.N->g<sc.jx.length->iD (GX.J sc.jx g) (C.N:Int)=some (i:Int)->agd (Am.aH C s i d).s (JG g i l (Am.aH C s i d).ev) (g+1)) :
 ∀(e k g:Nat) (s:Am.St) (S:ag) (M:af) (D:aY) (l:List ak),xx C p s S M sz g->agd s l g->l.length<=g->g+e=sc.jx.length->e<k->
 ∃M' l' s' g',nc K (C.N:Int) sc k M S D l (g:Int)=some (M',l')/\agd s' l' g'/\l'.length<=g'/\g'<=sc.jx.length/\M'.log.length<=2000000000/\(g'=sc.jx.length∨YN C s' l')
 | e,k,g,s,S,M,D,l,b,gT,hl,he,hk=>by
  obtain⟨k,rfl⟩ :∃m,k=m+1:=⟨k-1,I⟩;have n64:=b.ok.n64;have n1:=b.ok.n1;have afT:=b.ar.lg;have EZ:=b.n;rw[nc];by_cases hg:g<sc.jx.length
  ·obtain⟨e,rfl⟩ :∃m,e=m+1:=⟨e-1,I⟩;obtain⟨i,hm,hm',hin⟩:=YK (x:=GX.J sc.jx g) (n:=(C.N:Int)) I I;have hi:i<C.N:=by omega
   have bw:=YL b (i:Int);obtain⟨S',M',e1,e2,e3,e4⟩:=hW s S _ D g i bw hi (hQ s l g gT i hi);have b':=V0 bw hi e2 e3 I;have hII:=hI s S M l g i (IZ D) b gT hi hg hm';have PR:=b'.ar.lg;have hn:=b'.n;rw[rD,bg ⟨I,I⟩,di,hm,ax];unfold tA;rw[ax,e1,Ub];cases Rn:(Am.aH C s i (IZ D)).ev with
   | none =>
    rw[Rn]at hII;rw[bg (show(VI i none).aG=0 from rfl),Cl I];exact Qa hK hp hQ hW hI e k (g+1) _ _ _ _ l b' hII I I I
   | some x =>
    rw[Rn]at hII;have hx0:x.kind≠0:=Am.Tr.k0 (Am.Dt b.fi b.dt hi (IZ D)) x Rn;have hl':(l++[(⟨(g:Int),(i:Int),(x.kind:Int),x.az,x.x,x.v⟩:ak)]).length=l.length+1:=by simp
    rw[cQ (show ¬(VI i (some x)).aG=0 from λh=>hx0 (by have h:(x.kind:Int)=0:=h;omega)),rD];obtain⟨bo,b1,b2⟩:=YM (K:=K) (M:=M') b'.oR n64 I {VI i (some x)with At:=(g:Int)};rw[b1,ax];cases bo with
    | true =>
     rw[bg rfl];exact⟨_,_,_,g+1,rfl,hII,by rw[jM];show l.length+1<=g+1;omega,I,I,.inr ⟨l,_,rfl,b2 rfl⟩⟩
    | false =>
     rw[cQ gB,Cl I];exact Qa hK hp hQ hW hI e k (g+1) _ _ _ _ _ b' hII (by rw[jM];show l.length+1<=g+1;omega) I I
  ·rw[ez];exact⟨M,l,s,g,rfl,gT,hl,I,I,.inl I⟩
end
theorem YO{p:aE}{args:List Int}{n e:Int}{lI:dZ}{sc:mc}(hp:sc.jx.length<=1048576)(hd:sc.oY.length<=1048576)(r2:nX K p args n lI=some e)(he:e≠0):sU K p args n lI sc=some ([],[],e):=by
 unfold sU;rw[ez,ez,gz,r2,ax,cQ he]
theorem YP{p:aE}{args:List Int}{N F f m:Nat}{lI:dZ}{sc:mc}(hp:sc.jx.length<=1048576)(hd:sc.oY.length<=1048576)(hK:4000000<K)
 (hv:Valid p) (ha:(args.length:Int)=(GX.J p.ah 0).aS) (OP:1<=N) (Y9:N<=64) (hl:ZM lI.cx lI.dP lI.jQ) (hF:lI.cx=F) (hf:lI.dP=f) (hm:lI.jQ=m) (r2:nX K p args N lI=some 0)
 {agd:Am.St->List ak->Nat->Prop} {Q:Am.Pc->Prop} (hQ:∀s l g,agd s l g->∀i,i<N->Q (s.pc i))
 (hW:∀(s:Am.St) (S:ag) (M:af) (D:aY) (sz n i:Nat),xx (cfg p N F f m) p s S M sz n->i<N->Q (s.pc i)->Oy (cfg p N F f m) p sz n i M (drawn (s.pc i) D) (Am.aH (cfg p N F f m) s i (IZ D)) (bG K S M (i:Int) D)) (h0:agd (init (cfg p N F f m) args) [] 0)
 (hI:∀(s:Am.St) (S:ag) (M:af) (sz:Nat) (l:List ak) (g i:Nat) (d:Int),xx (cfg p N F f m) p s S M sz g->agd s l g->i<N->g<sc.jx.length->iD (GX.J sc.jx g) (N:Int)=some (i:Int)->agd (Am.aH (cfg p N F f m) s i d).s (JG g i l (Am.aH (cfg p N F f m) s i d).ev) (g+1)) :
 ∃lg l' s' g',sU K p args N lI sc=some (l',lg,0)/\agd s' l' g'/\l'.length<=g'/\g'<=sc.jx.length/\(g'=sc.jx.length∨YN (cfg p N F f m) s' l'):=by
 have f1:=hl.f1;have f2:=hl.f2;have a1:=hl.a1;have a2:=hl.a2;have m2:=hl.m2;obtain⟨agc,q1,q4,q5⟩:=abm (K:=K) (N:=N) (F:=F) (lI:=lI) (f:=f) (m:=m) hl hF hf hm OP Y9 I;obtain⟨sz,hsz⟩ :∃sz:Nat,sz=4+10*F+N+N*(4+f+tq f m agc):=⟨_,rfl⟩;rw[<-hsz]at q4 q5;have hNW:N*(4+f)<=N*(4+f+tq f m agc):=Nat.mul_le_mul_left _ I;unfold sU;rw[ez,ez,gz,r2,ax,bg rfl,q4,ax];unfold yx Bv;rw[bg (show((sz:Nat):Int)>=0 by omega),uT (show((sz:Nat):Int)<=1048576 by omega),ax,bg rfl,fQ]
 try dsimp only
 rw[bg rfl];obtain⟨n1,n2⟩:=aaU (K:=K) (sz:=sz) (a:=0) (w:=false) (N:=N) (F:=F) (agb:=4+f) hv ha hl hF I I (by first | omega | (simp only;omega)) I I I r2;obtain⟨cs,e1,e2,e3⟩:=n1 I
 try dsimp only at e1 e2
 rw[show(⟨((sz:Nat):Int),0,([]:List Int),([]:List aU),0,false⟩:af)=ar sz [] [] 0 false from rfl,e1,dA]
 try dsimp only
 have hfe:((f:Nat):Int)=lI.dP:=hf.symm;have b:=V2 (p:=p) (args:=args) (N:=N) (F:=F) (f:=f) (m:=m) (sz:=sz) (agc:=agc) (c:=cs) (l:=zh false [] (vF 0 N F lI.dP)) (w:=false) (x:=0) hv ha I I I I I I I q1 hsz q5 (by rw[hfe];exact e3) rfl;rw[<-hm]at b;rw[bg rfl];unfold ru;rw[ax,rD];have b':=Tm b true;rw[hm]at b';obtain⟨M',l',s',g',x1,x2,x3,x4,x5,x6⟩:=Qa (K:=K) (agd:=agd) (sc:=sc) I hp hQ (λs S M D n i hb hi hq=>hW s S M D sz n i hb hi hq) (λs S M l g i d hb hi hiN hg T9=>hI s S M sz l g i d hb hi hiN hg T9) sc.jx.length K 0 _ _ _ ⟨sc.oY⟩ [] b' h0 (gQ _) I I;rw[qz]at x1;have x1:nc K (N:Int) sc K _ _ _ [] 0=some (M',l'):=x1;rw[hm,x1,fQ,abc x5,ax];exact⟨_,l',s',g',rfl,x2,x3,x4,x6⟩
end
section
variable {K:Nat}
structure Small(c:bU):Prop where
 f:c.bP.length<=1048576
 k:∀i,i<c.bP.length->(J c.bP i).ai.length<=1048576
 a:c.oA.length<=1048576
 p:c.cP.length<=1048576
 d:c.eX.length<=1048576
theorem tw2{c:bU}(h:Small c){n:Nat}(hn:n<c.bP.length):∀(d k i:Nat) (l:List cr),i+d=(J c.bP n).ai.length->d<k->l.length=i->kz K c (n:Int) k l (i:Int)=some (l++(J c.bP n).ai.drop i)
 | d,k,i,l,hd,hk,hl=>by
  obtain⟨k,rfl⟩ :∃m,k=m+1:=⟨k-1,I⟩;have:=h.k n hn;rw[kz,di];by_cases hi:i<(J c.bP n).ai.length
  ·obtain⟨d,rfl⟩ :∃m,d=m+1:=⟨d-1,I⟩;rw[rD,bg ⟨I,I⟩,rD,di,Cl I,tw2 h hn d k (i+1) _ I I (by simp[hl]),zF hi,rK];rfl
  ·rw[ez,zn I,B3]
theorem tw1{c:bU}(h:Small c)(hK:2000000<K):∀(d k i:Nat) (l:List aB),i+d=c.bP.length->d<k->l.length=i->kB K c k l (i:Int)=some (l++c.bP.drop i)
 | d,k,i,l,hd,hk,hl=>by
  obtain⟨k,rfl⟩ :∃m,k=m+1:=⟨k-1,I⟩;have:=h.f;rw[kB];by_cases hi:i<c.bP.length
  ·obtain⟨d,rfl⟩ :∃m,d=m+1:=⟨d-1,I⟩;have:=h.k i hi;have e:=tw2 (K:=K) h hi (J c.bP i).ai.length K 0 [] I I rfl;rw[qz,Bo,nS]at e;rw[rD,bg ⟨I,I⟩,e,ax,rD,ax,di,Cl I,tw1 h hK d k (i+1) _ I I (by simp[hl]),zF hi,rK];rfl
  ·rw[ez,zn I,B3]
theorem tw3{c:bU}(h:Small c):∀(d k i:Nat) (l:List Int),i+d=c.oA.length->d<k->l.length=i->kD K c k l (i:Int)=some (l++c.oA.drop i)
 | d,k,i,l,hd,hk,hl=>by
  obtain⟨k,rfl⟩ :∃m,k=m+1:=⟨k-1,I⟩;have:=h.a;rw[kD];by_cases hi:i<c.oA.length
  ·obtain⟨d,rfl⟩ :∃m,d=m+1:=⟨d-1,I⟩;rw[rD,bg ⟨I,I⟩,rD,di,Cl I,tw3 h d k (i+1) _ I I (by simp[hl]),zF hi,rK];rfl
  ·rw[ez,zn I,B3]
theorem tw4{c:bU}(h:Small c):∀(d k i:Nat) (l:List Int),i+d=c.cP.length->d<k->l.length=i->kE K c k l (i:Int)=some (l++c.cP.drop i)
 | d,k,i,l,hd,hk,hl=>by
  obtain⟨k,rfl⟩ :∃m,k=m+1:=⟨k-1,I⟩;have:=h.p;rw[kE];by_cases hi:i<c.cP.length
  ·obtain⟨d,rfl⟩ :∃m,d=m+1:=⟨d-1,I⟩;rw[rD,bg ⟨I,I⟩,rD,di,Cl I,tw4 h d k (i+1) _ I I (by simp[hl]),zF hi,rK];rfl
  ·rw[ez,zn I,B3]
theorem tw5{c:bU}(h:Small c)(f:List aB)(a p:List Int):∀(d k i:Nat) (l:List Int),i+d=c.eX.length->d<k->l.length=i->kF K c f a p k l (i:Int)=some {c with bP:=f,oA:=a,cP:=p,eX:=l++c.eX.drop i}
 | d,k,i,l,hd,hk,hl=>by
  obtain⟨k,rfl⟩ :∃m,k=m+1:=⟨k-1,I⟩;have:=h.d;rw[kF];by_cases hi:i<c.eX.length
  ·obtain⟨d,rfl⟩ :∃m,d=m+1:=⟨d-1,I⟩;rw[rD,bg ⟨I,I⟩,rD,di,Cl I,tw5 h f a p d k (i+1) _ I I (by simp[hl]),zF hi,rK];rfl
  ·rw[ez,zn I,B3]
theorem YQ{c:bU}(h:Small c)(hK:2000000<K):oI K c=some c:=by
 have h1:=h.f;have h2:=h.a;have h3:=h.p;have h4:=h.d;have e1:=tw1 (K:=K) h hK c.bP.length K 0 [] I I rfl;have e2:=tw3 (K:=K) h c.oA.length K 0 [] I I rfl;have e3:=tw4 (K:=K) h c.cP.length K 0 [] I I rfl;have e4:=tw5 (K:=K) h c.bP c.oA c.cP c.eX.length K 0 [] I I rfl;rw[qz,Bo,nS]at e1 e2 e3 e4;unfold oI;rw[e1,ax,e2,ax,e3,ax,e4]
end
section
variable {K:Nat}
def Tw(e:ak):Prop:=e.aG=1/\e.Frame=0
instance (e:ak):Decidable (Tw e):=by unfold Tw;infer_instance
def Tx(l:List ak):Prop:=∀e∈l,¬Tw e
def zI:List ak->Prop
 | []=>True
 | e::l=>if Tw e then e.tT=0/\e.X=-1/\e.V=1 else zI l
theorem G3{e:ak}:∀{l:List ak},zI l->(Tx l->Tw e->e.tT=0/\e.X=-1/\e.V=1)->zI (l++[e])
 | [],_,h=>by
  show if Tw e then _ else True;split
  ·next h'=>exact h (λ_ hx=>by cases hx) h'
  ·trivial
 | x::l,h1,h2=>by
  have h1:if Tw x then x.tT=0/\x.X=-1/\x.V=1 else zI l:=h1;show if Tw x then _ else zI (l++[e]);split
  ·next h'=>rw[bg h']at h1;exact h1
  ·next h' =>
   rw[cQ h']at h1;exact G3 h1 (λhn hs=>h2 (λy hy=>by
    rcases List.mem_cons.1 hy with rfl | hy
    ·exact h'
    ·exact hn y hy) hs)
structure Pre(C:Am.jv)(ps:List Int)(s:Am.St)(l:List ak)(g:Nat):Prop where
 q:Am.Q0 (Am.wv s)
 nf:∀e∈l,e.aG≠11
 pk:∀k,k<g->iD (GX.J ps k) (C.N:Int)≠some 0
structure Tl(C:Am.jv)(ps:List Int)(s:Am.St)(l:List ak)(g:Nat):Prop where
 pre:Tx l->Pre C ps s l g
 first:zI l
theorem Lf{g i:Nat}{l:List ak}{o:Option Am.Ev}{e:ak}(h:e∈JG g i l o):e∈l∨∃x,o=some x/\e=⟨(g:Int),(i:Int),(x.kind:Int),x.az,x.x,x.v⟩:=by
 cases o with
 | none=>exact .inl h
 | some x =>
  rcases List.mem_append.1 (show e∈l++[_]from h)with h | h
  ·exact .inl h
  ·exact .inr ⟨x,rfl,List.mem_singleton.1 h⟩
theorem Ty{g i:Nat}{l:List ak}{o:Option Am.Ev}{e:ak}(h:e∈l):e∈JG g i l o:=by
 cases o with
 | none=>exact h
 | some x=>exact List.mem_append.2 (.inl h)
theorem Wg{p:Am.Pc}(h:Am.sig p= .start) :∃x,p= .start x:=by
 cases p<;>first | exact⟨_,rfl⟩ | cases h
theorem Tl.aH{C:Am.jv}{p:aE}{ps:List Int}{s:Am.St}{S:ag}{M:af}{sz g i:Nat}{l:List ak}{d:Int}(b:xx C p s S M sz g)(t:Tl C ps s l g)(hi:i<C.N)(hm:iD (GX.J ps g) (C.N:Int)=some (i:Int)):Tl C ps (Am.aH C s i d).s (JG g i l (Am.aH C s i d).ev) (g+1):=by
 have tr:=Am.Dt b.fi b.dt hi d;have main:Tx l->i=0->∃x,(Am.aH C s i d).ev=some x/\x.kind=1/\x.az=0/\x.x=-1:=by
  intro hn h0;subst h0;obtain⟨q1,q2,q3,q4⟩:=(t.pre hn).q;obtain⟨x,hx⟩:=Wg (p:=s.pc 0) q1;have q2:Am.xw (s.pc 0)=-1:=q2;rw[hx]at q2;have q2:x=-1:=q2;have q3:s.hold 0=some 0:=q3;subst q2;refine⟨_,by unfold Am.aH;rw[hx];rfl,rfl,?_,rfl⟩;show(((s.hold 0).getD 0:Nat):Int)=0;rw[q3];rfl
 have other:Tx l->i≠0->Am.Q0 (Am.wv (Am.aH C s i d).s)/\∀x,(Am.aH C s i d).ev=some x->x.kind≠11/\x.kind≠1:=λhn h0=>(t.pre hn).q.aH tr h0 hi b.fi;constructor
 ·intro hn;have hn':Tx l:=λe he=>hn e (Ty he);by_cases h0:i=0
  ·obtain⟨x,x1,x2,x3,x4⟩:=main hn' h0
   exfalso
   rw[x1]at hn;exact hn _ (List.mem_append.2 (.inr (List.mem_singleton.2 rfl))) ⟨by show(x.kind:Int)=1;rw[x2];rfl,x3⟩
  ·obtain⟨o1,o2⟩:=other hn' h0;refine⟨o1,λe he => ?_,λk hk => ?_⟩
   ·rcases Lf he with he | ⟨x,hx,rfl⟩
    ·exact(t.pre hn').nf e he
    ·have:=(o2 x hx).1;show(x.kind:Int)≠11;omega
   ·by_cases ek:k=g
    ·subst ek;rw[hm];intro h;have:(i:Int)=0:=Option.some.inj h;omega
    ·exact(t.pre hn').pk k I
 ·cases Rn:(Am.aH C s i d).ev with
  | none=>exact t.first
  | some x =>
   refine G3 t.first λhn hs => ?_;have hk:x.kind=1:=by have:(x.kind:Int)=1:=hs.1;omega
   by_cases h0:i=0
   ·obtain⟨y,y1,y2,y3,y4⟩:=main hn h0;rw[Rn]at y1;cases y1;exact⟨by show(i:Int)=0;omega,y4,tr.v1 hi b.fi x Rn hk⟩
   ·exact absurd hk ((other hn h0).2 x Rn).2
theorem Wh{r:List ak}(hb:r.length<=100000000):∀(e k g:Nat),g+e=r.length->e<k->zI (r.drop g)->(∃x∈r.drop g,Tw x)->kH K r k (g:Int)=some (r,true,true)
 | e,k,g,he,hk,h1,h2=>by
  obtain⟨k,rfl⟩ :∃m,k=m+1:=⟨k-1,I⟩;rw[kH];by_cases hg:g<r.length
  ·obtain⟨e,rfl⟩ :∃m,e=m+1:=⟨e-1,I⟩;rw[zF hg]at h1 h2;have h1:if Tw (GX.J r g)then _ else zI (r.drop (g+1)):=h1;rw[rD,bg ⟨I,I⟩,di];by_cases hs:Tw (GX.J r g)
   ·rw[bg hs]at h1;obtain⟨a1,a2,a3⟩:=h1;rw[bg hs.1,ax,bg (by rw[hs.2];rfl),bg ⟨I,I⟩,bg a1,bg a2,a3];rfl
   ·rw[cQ hs]at h1;have h2 :∃x∈r.drop (g+1),Tw x:=by
     obtain⟨x,hx,hx'⟩:=h2;rcases List.mem_cons.1 hx with rfl | hx
     ·exact absurd hx' hs
     ·exact⟨x,hx,hx'⟩
    have ih:=Wh hb e k (g+1) I I h1 h2;by_cases h1k:(GX.J r g).aG=1
    ·rw[bg h1k,ax,cQ (by simp;exact λh=>hs ⟨h1k,h⟩),Cl I];exact ih
    ·rw[cQ h1k,ax,cQ gB,Cl I];exact ih
  ·obtain⟨x,hx,_⟩:=h2;rw[zn I]at hx;cases hx
theorem RI{c:bU}(hp:c.cP.length<=1048576){N:Nat}(hN:c.cO=N)(h1:1<=N)(JP:N<=64):∀(e k g:Nat),g+e=c.cP.length->e<k->∃b,jP K c k (g:Int)=some b/\(b=true->∃x,x<c.cP.length/\iD (GX.J c.cP x) (N:Int)=some 0)
 | e,k,g,he,hk=>by
  obtain⟨k,rfl⟩ :∃m,k=m+1:=⟨k-1,I⟩;rw[jP];by_cases hg:g<c.cP.length
  ·obtain⟨e,rfl⟩ :∃m,e=m+1:=⟨e-1,I⟩;obtain⟨i,hm,hin⟩:=Rz (x:=GX.J c.cP g) (n:=(N:Int)) I I;rw[rD,bg ⟨I,I⟩,di,hN,hm,ax];by_cases h0:(i:Int)=0
   ·rw[bg h0];exact⟨true,rfl,λ_=>⟨g,hg,by rw[hm,h0]⟩⟩
   ·rw[cQ h0,Cl I];exact RI hp hN h1 JP e k (g+1) I I
  ·rw[ez];exact⟨false,rfl,λh=>by cases h⟩
theorem YR{C:Am.jv}{ps args:List Int}:Tl C ps (init C args) [] 0:=
 ⟨λ_=>⟨⟨rfl,rfl,rfl,rfl⟩,(λe h=>by cases h),(λk h=>absurd h (Nat.not_lt_zero _))⟩,bR⟩
theorem Wi{c:bU}(h:Small c)(hK:4000000<K){af9:Am.jv->Am.St->List ak->Nat->Prop}(h0:∀(N F f m:Nat),Valid ⟨c.bP⟩->(cfg ⟨c.bP⟩ N F f m).OK->af9 (cfg ⟨c.bP⟩ N F f m) (init (cfg ⟨c.bP⟩ N F f m) c.oA) [] 0)
 {Q:Am.Pc->Prop} (hQ:∀(C:Am.jv) (s:Am.St) (l:List ak) (g:Nat),(C.N:Int)=c.cO->af9 C s l g->∀i,i<C.N->Q (s.pc i))
 (hW:∀(C:Am.jv) (p:aE) (s:Am.St) (S:ag) (M:af) (D:aY) (sz n i:Nat),xx C p s S M sz n->i<C.N->Q (s.pc i)->Oy C p sz n i M (drawn (s.pc i) D) (Am.aH C s i (IZ D)) (bG K S M (i:Int) D))
 (hJ:∀(C:Am.jv) (p:aE) (s:Am.St) (S:ag) (M:af) (sz:Nat) (l:List ak) (g i:Nat) (d:Int),xx C p s S M sz g->af9 C s l g->i<C.N->af9 C (Am.aH C s i d).s (JG g i l (Am.aH C s i d).ev) (g+1)) :
 (∃r,lE K c=some (r,false,true))∨∃r C s g,lE K c=some (r,true,true)/\af9 C s r g/\r.length<=1048576/\c.de=C.F/\1<=C.F/\C.F<=4096/\g<=c.cP.length/\Valid ⟨c.bP⟩/\(c.oA.length:Int)=(GX.J c.bP 0).aS/\C.OK/\(∃N F f m,C=cfg ⟨c.bP⟩ N F f m/\c.cO=N)/\(g=c.cP.length∨YN C s r)/\c.eP=C.most:=by
 unfold lE;rw[YQ h I,ax];obtain⟨e,r1,r2,r3,r4⟩:=SM (K:=K) ⟨c.bP⟩ c.oA c.cO ⟨c.de,c.eU,c.eP⟩ I;have hp:=h.p;have hd:=h.d;have hr:iH K c=some e:=by
  unfold iH oy;rw[cQ (by show ¬(((c.cP.length:Nat):Int)>1048576);omega),Il (show ¬(((c.eX.length:Nat):Int)>1048576) by omega),ax,cQ gB,r1,ax]
 by_cases he:e=0
 ·subst he;obtain⟨hv,ha,OP,Y9,hl⟩:=r4 rfl;obtain⟨N,hN⟩ :∃N:Nat,c.cO=N:=⟨c.cO.toNat,I⟩;have f1:=hl.f1;have f2:=hl.f2;have a1:=hl.a1;have a2:=hl.a2;have m2:=hl.m2;simp only at f1 f2 a1 a2 m2;obtain⟨F,hF⟩ :∃F:Nat,c.de=F:=⟨c.de.toNat,I⟩;obtain⟨f,hf⟩ :∃f:Nat,c.eU=f:=⟨c.eU.toNat,I⟩;obtain⟨m,hm⟩ :∃m:Nat,c.eP=m:=⟨c.eP.toNat,I⟩;rw[hN]at r2 OP Y9;have hC:=VF (p:=⟨c.bP⟩) (N:=N) (F:=F) (f:=f) (m:=m) hv I I I I I I I;obtain⟨lg,l',s',g',x1,x2,x3,x4,x5⟩:=YP (K:=K) (p:=⟨c.bP⟩) (args:=c.oA) (N:=N) (F:=F) (f:=f) (m:=m) (lI:=⟨c.de,c.eU,c.eP⟩) (sc:=⟨c.cP,c.eX⟩) hp hd hK hv ha I I hl hF hf hm r2
   (agd:=λs l g=>af9 (cfg ⟨c.bP⟩ N F f m) s l g/\Tl (cfg ⟨c.bP⟩ N F f m) c.cP s l g) (λs l g hI i hi=>hQ (cfg ⟨c.bP⟩ N F f m) s l g hN.symm hI.1 i hi) (λs S M D sz n i hb hi hq=>hW _ _ s S M D sz n i hb hi hq) ⟨h0 _ _ _ _ hv hC,YR⟩
   (λs S M sz l g i d b hi hiN hg T9=>⟨hJ _ _ s S M sz l g i d b hi.1 hiN,hi.2.aH b hiN T9⟩)
  rw[hN,x1,dA,hr,ax,bg rfl,bg rfl];unfold s6;obtain⟨b,b1,b2⟩:=RI (K:=K) (c:=c) hp hN I I c.cP.length K 0 I I;rw[qz]at b1;rw[b1,ax];have hp':g'<=c.cP.length:=x4
  right
  refine⟨l',_,s',g',?_,x2.1,I,hF,by show 1<=F;omega,by show F<=4096;omega,hp',hv,ha,hC,⟨_,_,_,_,rfl,by first | exact hN | rfl⟩,x5,hm⟩;cases b with
  | false=>rw[cQ gB]
  | true =>
   rw[bg rfl];have ht:=Wh (K:=K) (r:=l') I l'.length K 0 I I (by rw[nS];exact x2.2.first) (by
    rw[nS];by_cases hs :∃x∈l',Tw x
    ·exact hs
    ·exfalso
     have hn:Tx l':=λe he h=>hs ⟨e,he,h⟩;have pr:=x2.2.pre hn;rcases x5 with x5 | ⟨l0,e,rfl,x5⟩
     ·obtain⟨x,y1,y2⟩:=b2 rfl;exact pr.pk x (by have x5:g'=c.cP.length:=x5;omega) y2
     ·rcases x5 with x5 | ⟨_,x5⟩
      ·exact pr.nf e (List.mem_append.2 (.inr (List.mem_singleton.2 rfl))) x5
      ·have hh:=x5 0 (by show 0<N;omega);have q1:Am.sig (s'.pc 0)= .start:=pr.q.1;rw[hh]at q1;cases q1)
   rw[qz]at ht;exact ht
 ·left
  rw[YO hp hd r2 he,dA,hr,ax,bg rfl,cQ he];exact⟨_,rfl⟩
end
open Go Go.RowKit SL GX
noncomputable section
variable {z w:World}{L:List bl}
def oZ(K:Nat)(O:aE)(Y:List Int)(p2:Int):Option (Int):=
 dX (jc K O) (λr2=>(if r2.xd=0 then if bJ (0:Int) O.ah.length then(if((Y.length:Nat):Int)=(J O.ah 0).aS then(if p2<0 then some 3 else(if p2>4194304 then some 3 else some 0))else some 61)else none else some 60))
theorem BU(H:oZ K O Y p2=some r0)(h:iJ z (L) w)(aP:zb L aT aI O.ah)(F8:bI L 1 aK ER Y) :
 nH 79 #[oV #[aW aT O.ah.length bt],aW ER Y.length GV,Z p2] w z (Z r0) (L):=by
 unfold oZ at H;refine ke func79 27 rfl λj=>ks<|kN h (#[aW aT O.ah.length bt]) 24 λb1 w h=>bS<|G<|ks<|yw (oV #[aW aT O.ah.length bt]) (cs:=[aW aT O.ah.length bt]) ⟨h.cell 0 rfl,bR⟩<|?_;refine fP H λr2 e3 H=>eW (xh (aT:=aT) (bt:=bt) (aP:=(yf.up 1 aP)) (aI:=aI) e3 h :) λw h=>kN h (#[Z 0,Z 0,Z 0]) 81 λb4 w h=>kA h (abW b4 r2) λw h=>G<|wq<|aL [U]<|kL h 0<|ko [vB (r2.xd != 0)]<|G<|rV H (λc5 H=>?_) λc5 H=>?_
 ·refine fT<|wq<|aL [U,Z ((Y.length:Nat):Int),U]<|kL (h.pick 1) 0<|qg H λc6 H=>kp (pA (dJ aT) (jf aT+0*4)) (Dz 85 bt rfl rfl aP c6)<|bS<|zz (Z (J O.ah 0).aS) (aP.cell c6 (h.dn 2) 0 rfl)<|?_;refine ko [vB (((Y.length:Nat):Int) != (J O.ah 0).aS)]<|G<|rV H (λc7 H=>?_) λc7 H=>?_
  ·refine fT<|wq<|aL [U,dm (p2<0),dm (p2<0)]<|qI H (λc8 H=>?_) λc8 H=>?_
   ·refine cg (dT c8) [24,25]<|oJ (dT c8) (vB true)<|G<|λ_ r=>fW r (b:=true) rfl<|qq r<|gP<|wr<|tr<|?_;cases H;exact fU (h.se 2 [])
   refine cT (dF c8) [24,25] [Z p2,dm (p2>4194304)]<|oz (dF c8) (dm (p2>4194304))<|G<|dK H (λc9 H=>?_) λc9 H=>?_
   ·refine gP<|wr<|tr<|?_;cases H;exact fU (h.se 2 [])
   refine fT<|gP<|wr<|?_;cases H;exact fU (h.se 2 [])
  refine gP<|wr<|tr<|?_;cases H;exact fU (h.se 2 [])
 refine gP<|wr<|tr<|?_;cases H;exact fU (h.se 2 [])
def vm(O:Int)(Y:Int):Option (Int):=
 some (wi ((wi ((wi (O*1000003))+Y))+1))
theorem EH(H:vm O Y=some r0)(h:iJ z (L) w) :
 nH 145 #[Z O,Z Y] w z (Z r0) (L):=by
 unfold vm at H;refine ke func145 10 rfl λj=>gP<|aL [U,Z (wi (O*1000003)),U,Z (wi ((wi (O*1000003))+Y)),Z (wi ((wi ((wi (O*1000003))+Y))+1)),Z (wi ((wi ((wi (O*1000003))+Y))+1))]<|bY<|?_;cases H;exact fU h
def pS(O:Int)(Y:Int):Option (Int):=
 (if Y=0 then some 0 else(if Y=(-1)then some (wi ((0:Int)-O))else if Y≠0 then some (wi (O.tdiv Y))else none))
theorem yb(H:pS O Y=some r0)(h:iJ z (L) w) :
 nH 179 #[Z O,Z Y] w z (Z r0) (L):=by
 unfold pS at H;refine ke func179 15 rfl λj=>gP<|wq<|gP<|wb<|aL [vB (Y==0),vB (Y==0)]<|G<|dK H (λc1 H=>?_) λc1 H=>?_
 ·refine gP<|wr<|br<|tr<|?_;cases H;exact fU h
 refine aL [vB (Y==(-1)),vB (Y==(-1))]<|G<|dK H (λc2 H=>?_) λc2 H=>?_
 ·refine aL [U,Z (wi ((0:Int)-O)),Z (wi ((0:Int)-O))]<|bY<|br<|tr<|?_;cases H;exact fU h
 refine wk<|bn<|tn<|ks<|qg H λc3 H=>ko da<|kp (Z (wi (O.tdiv Y))) (T6 rfl aZ aZ c3)<|ko [Z (wi (O.tdiv Y))]<|bY<|?_;cases H;exact fU h
def tB(O:Int):Option (Bool):=
 some ((O.tmod (2:Int)) != 0)
end
noncomputable section
variable {z w:World}{L:List bl}
theorem yW(H:tB O=some r0)(h:iJ z (L) w) :
 nH 185 #[Z O] w z (vB r0) (L):=by
 unfold tB at H;refine ke func185 6 rfl λj=>gP<|aL [U]<|kp (Z (O.tmod (2:Int))) (M5 rfl aZ aZ gB)<|ko [vB ((O.tmod (2:Int)) != 0),vB ((O.tmod (2:Int)) != 0)]<|bY<|?_;cases H;exact fU h
def kU(O:Int):Option (Int):=
 (if O<0 then(if(O.tmod (2:Int))=0 then some (wi (O.tdiv (2:Int)))else some (wi ((wi (O.tdiv (2:Int)))-1)))else some (wi (O.tdiv (2:Int))))
theorem uN(H:kU O=some r0)(h:iJ z (L) w) :
 nH 186 #[Z O] w z (Z r0) (L):=by
 unfold kU at H;refine ke func186 15 rfl λj=>gP<|wq<|aL [U,dm (O<0),dm (O<0)]<|qI H (λc1 H=>?_) λc1 H=>?_
 ·refine cT (dT c1) [6] [Z O]<|λ_ r=>CK (nL r (dT c1)) r (Z (O.tmod (2:Int))) (M5 rfl aZ aZ gB)<|?_;refine cT (dT c1) [8] [vB ((O.tmod (2:Int)) != 0)]<|oJ (dT c1) (vB ((O.tmod (2:Int)) != 0))<|G<|rV H (λc2 H=>?_) λc2 H=>?_
  ·refine fT<|aL [U]<|kp (Z (wi (O.tdiv (2:Int)))) (T6 rfl aZ aZ gB)<|ko [Z (wi (O.tdiv (2:Int)))]<|bY<|?_;cases H;exact fU h
  refine aL [U]<|kp (Z (wi (O.tdiv (2:Int)))) (T6 rfl aZ aZ gB)<|ko [Z (wi ((wi (O.tdiv (2:Int)))-1)),Z (wi ((wi (O.tdiv (2:Int)))-1))]<|bY<|tr<|?_;cases H;exact fU h
 refine cg (dF c1) [6,7,8]<|oz (dF c1) (vB false)<|G<|λ_ r=>jw r (b:=false) rfl<|qq r<|fT<|aL [U]<|kp (Z (wi (O.tdiv (2:Int)))) (T6 rfl aZ aZ gB)<|ko [Z (wi (O.tdiv (2:Int)))]<|bY<|?_;cases H;exact fU h
def lA(K:Nat)(p2:Bool)(p3:Bool):Nat->Int->Int->Int->Int->Int->Option (Int)
 | 0,_,_,_,_,_=>none
 | k1+1,g1,g2,g3,g4,g5=>(if g5<64 then dX (tB g1) (λr7=>dX (tB g2) (λr9=>dX ((if r7=true then(if r9=true then(if p2=true then some (wi (g3+g4))else(if r7=r9 then some g3 else(if p3=true then some (wi (g3+g4))else some g3)))else(if r7=r9 then some g3 else(if p3=true then some (wi (g3+g4))else some g3)))else(if r7=r9 then some g3 else(if p3=true then some (wi (g3+g4))else some g3)))) (λtQ=>dX (kU g1) (λrY=>dX (kU g2) (λy9=>(lA K p2 p3 k1 rY y9 tQ (wi (g4+g4)) (wi (g5+1))))))))else some g3)
def jG(K:Nat)(O:Int)(Y:Int)(p2:Bool)(p3:Bool):Option (Int):=
 (lA K p2 p3 K O Y 0 1 0)
theorem uO(H:jG K O Y p2 p3=some r0)(h:iJ z (L) w) :
 nH 180 #[Z O,Z Y,vB p2,vB p3] w z (Z r0) (L):=by
 unfold jG at H;refine ke func180 48 rfl λj=>gP<|gP<|gP<|wq<|gP<|wb<|λ_ r=>dr (β:=Nat) id (λm a w=>∃g1:Int,∃g2:Int,∃g3:Int,∃g4:Int,∃g5:Int,(lA K p2 p3 m g1 g2 g3 g4 g5)=some r0/\∃j,jY 48 (lk [(0,Z g1),(1,Z g2),(2,vB p2),(3,vB p3),(9,Z g3),(10,Z g4),(11,Z g5)] j) a/\Fit z (aD (L)) w) K ⟨O,Y,0,1,0,H,r.fj h⟩<|?_;clear h r H;rintro k1 a w ⟨g1,g2,g3,g4,g5,H,j,r,h⟩;cases k1 with
 | zero=>exact absurd H (by simp[lA])
 | succ k1 =>
  rw[lA]at H;refine qq r<|wq<|aL [U,dm (g5<64)]<|G<|dK H (λc6 H=>?_) λc6 H=>?_
  ·refine fT<|wq<|wb<|ks<|fP H λr7 e8 H=>bS<|eW (yW e8 h :) λw h=>bS<|G<|ks<|fP H λr9 Hy H=>bS<|eW (yW Hy h :) λw h=>bS<|G<|EM H λo13 H Sl=>λ_ r=>cW (β:=Unit) (λ_ a w=>∃tQ:Int,tQ=o13/\∃j,jY 48 (lk [(0,Z g1),(1,Z g2),(2,vB p2),(3,vB p3),(9,Z tQ),(10,Z g4),(11,Z g5)] j) a/\Fit z (aD (L)) w) ?_ ?_
   ·refine qq r<|aL da<|qI H (λxF H=>?_) λxF H=>?_
    ·refine cT (xF) [24] [vB r9]<|oJ (xF) (vB r9)<|bS<|qI H (λpT H=>?_) λpT H=>?_
     ·refine cT (pT) [27] [vB p2]<|oJ (pT) (vB p2)<|bS<|qI H (λvJ H=>?_) λvJ H=>?_
      ·refine cg (vJ) [30,31,32,33]<|Nz true [34]<|cg (vJ) [35]<|oJ (vJ) (vB true)<|G<|λ_ r=>fW r (b:=true) rfl<|qq r<|wl<|ko [U,U,Z (wi (g3+g4)),Z (wi (g3+g4))]<|G<|?_;exact λ_ r=>⟨(),(wi (g3+g4)),fV H,r.fj h⟩
      refine cT (bF vJ) [30,31,32,33] [vB r7,vB r9,vB (!(r7==r9)),vB (!(r7==r9))]<|qI H (λzO H=>?_) λzO H=>?_
      ·refine cg (show(!(r7==r9))=false from(by rw[show(r7==r9)=true from(beq_iff_eq.mpr zO)];rfl)) [34]<|λ_ r=>CK (nL r (bF vJ)) r (vB false) (It (b:=(!(r7==r9))) rfl aZ (by rw[show(r7==r9)=true from(beq_iff_eq.mpr zO)];rfl) aZ)<|?_;refine oz (bF vJ) (vB false)<|G<|λ_ r=>jw r (b:=false) rfl<|qq r<|fT<|?_;exact λ_ r=>⟨(),g3,fV H,r.fj h⟩
      refine cT (show(!(r7==r9))=true from(by rw[show(r7==r9)=false from(bN zO)];rfl)) [34] [vB p3]<|λ_ r=>CK (nL r (bF vJ)) r (vB p3) (G8 (b:=(!(r7==r9))) rfl aZ (by rw[show(r7==r9)=false from(bN zO)];rfl) aZ)<|?_;refine oz (bF vJ) (vB p3)<|G<|EN H (λBz H=>?_) λBz H=>?_
      ·refine wl<|ko [U,U,Z (wi (g3+g4)),Z (wi (g3+g4))]<|G<|?_;exact λ_ r=>⟨(),(wi (g3+g4)),fV H,r.fj h⟩
      refine fT<|?_;exact λ_ r=>⟨(),g3,fV H,r.fj h⟩
     refine cg (bF pT) [27]<|oz (bF pT) (vB false)<|bS<|cT (rfl:false=false) [30,31,32,33] [vB r7,vB r9,vB (!(r7==r9)),vB (!(r7==r9))]<|qI H (λsj H=>?_) λsj H=>?_
     ·refine cg (show(!(r7==r9))=false from(by rw[show(r7==r9)=true from(beq_iff_eq.mpr sj)];rfl)) [34]<|λ_ r=>CK (nL r (c:=false) rfl) r (vB false) (It (b:=(!(r7==r9))) rfl aZ (by rw[show(r7==r9)=true from(beq_iff_eq.mpr sj)];rfl) aZ)<|?_;refine bS<|G<|λ_ r=>jw r (b:=false) rfl<|qq r<|fT<|?_;exact λ_ r=>⟨(),g3,fV H,r.fj h⟩
     refine cT (show(!(r7==r9))=true from(by rw[show(r7==r9)=false from(bN sj)];rfl)) [34] [vB p3]<|λ_ r=>CK (nL r (c:=false) rfl) r (vB p3) (G8 (b:=(!(r7==r9))) rfl aZ (by rw[show(r7==r9)=false from(bN sj)];rfl) aZ)<|?_;refine bS<|G<|EN H (λlT H=>?_) λlT H=>?_
     ·refine wl<|ko [U,U,Z (wi (g3+g4)),Z (wi (g3+g4))]<|G<|?_;exact λ_ r=>⟨(),(wi (g3+g4)),fV H,r.fj h⟩
     refine fT<|?_;exact λ_ r=>⟨(),g3,fV H,r.fj h⟩
    refine cg (bF xF) [24]<|oz (bF xF) (vB false)<|bS<|cg (rfl:false=false) [27]<|ko da<|cT (rfl:false=false) [30,31,32,33] [vB r7,vB r9,vB (!(r7==r9)),vB (!(r7==r9))]<|qI H (λsL H=>?_) λsL H=>?_
    ·refine cg (show(!(r7==r9))=false from(by rw[show(r7==r9)=true from(beq_iff_eq.mpr sL)];rfl)) [34]<|λ_ r=>CK (nL r (c:=false) rfl) r (vB false) (It (b:=(!(r7==r9))) rfl aZ (by rw[show(r7==r9)=true from(beq_iff_eq.mpr sL)];rfl) aZ)<|?_;refine bS<|G<|λ_ r=>jw r (b:=false) rfl<|qq r<|fT<|?_;exact λ_ r=>⟨(),g3,fV H,r.fj h⟩
    refine cT (show(!(r7==r9))=true from(by rw[show(r7==r9)=false from(bN sL)];rfl)) [34] [vB p3]<|λ_ r=>CK (nL r (c:=false) rfl) r (vB p3) (G8 (b:=(!(r7==r9))) rfl aZ (by rw[show(r7==r9)=false from(bN sL)];rfl) aZ)<|?_;refine bS<|G<|EN H (λF5 H=>?_) λF5 H=>?_
    ·refine wl<|ko [U,U,Z (wi (g3+g4)),Z (wi (g3+g4))]<|G<|?_;exact λ_ r=>⟨(),(wi (g3+g4)),fV H,r.fj h⟩
    refine fT<|?_;exact λ_ r=>⟨(),g3,fV H,r.fj h⟩
   clear h r;rintro _ a w ⟨tQ,rfl,j,r,h⟩;replace H:=EK Sl;refine qq r<|aL [U,U,Z (wi (g4+g4)),Z (wi (g4+g4))]<|G<|ks<|fP H λrY UR H=>bS<|eW (uN UR h :) λw h=>bS<|G<|wl<|fP H λy9 Vg H=>bS<|eW (uN Vg h :) λw h=>bS<|kl<|bn<|tn<|wl<|ko [U,Z (wi (g5+1)),Z (wi (g5+1))]<|G<|?_;exact λ_ r=>⟨_,⟨rY,y9,tQ,(wi (g4+g4)),(wi (g5+1)),H,r.fj h⟩,ie _⟩
  refine wx<|te<|te<|bh<|tn<|aL da<|bY<|?_;cases H;exact fU h
def lF(O:Int):Option (Int):=
 (if(O.tmod (64:Int))<0 then some (wi ((O.tmod (64:Int))+64))else some (O.tmod (64:Int)))
theorem xA(H:lF O=some r0)(h:iJ z (L) w) :
 nH 182 #[Z O] w z (Z r0) (L):=by
 unfold lF at H;refine ke func182 11 rfl λj=>gP<|aL [U]<|kp (Z (O.tmod (64:Int))) (M5 rfl aZ aZ gB)<|ko [Z (O.tmod (64:Int))]<|G<|wq<|aL [Z (O.tmod (64:Int)),dm ((O.tmod (64:Int))<0)]<|G<|dK H (λc1 H=>?_) λc1 H=>?_
 ·refine wl<|ko [Z (O.tmod (64:Int)),Z (wi ((O.tmod (64:Int))+64)),Z (wi ((O.tmod (64:Int))+64))]<|G<|aL [Z (wi ((O.tmod (64:Int))+64)),Z (wi ((O.tmod (64:Int))+64))]<|bY<|?_;cases H;exact fU h
 refine fT<|aL [Z (O.tmod (64:Int)),Z (O.tmod (64:Int))]<|bY<|?_;cases H;exact fU h
def gY(K:Nat)(Y:Int)(p2:Bool):Nat->Int->Int->Option (Int)
 | 0,_,_=>none
 | k1+1,g1,g2=>(if g2<Y then(if p2=true then(gY K Y p2 k1 (wi (g1+g1)) (wi (g2+1)))else dX (kU g1) (λr5=>(gY K Y p2 k1 r5 (wi (g2+1)))))else some g1)
def lG(K:Nat)(O:Int)(Y:Int)(p2:Bool):Option (Int):=
 (gY K Y p2 K O 0)
theorem xB(H:lG K O Y p2=some r0)(h:iJ z (L) w) :
 nH 181 #[Z O,Z Y,vB p2] w z (Z r0) (L):=by
 unfold lG at H;refine ke func181 20 rfl λj=>gP<|wq<|gP<|wb<|λ_ r=>dr (β:=Nat) id (λm a w=>∃g1:Int,∃g2:Int,(gY K Y p2 m g1 g2)=some r0/\∃j,jY 20 (lk [(0,Z g1),(1,Z Y),(2,vB p2),(7,Z g2)] j) a/\Fit z (aD (L)) w) K ⟨O,0,H,r.fj h⟩<|?_;clear h r H;rintro k1 a w ⟨g1,g2,H,j,r,h⟩;cases k1 with
 | zero=>exact absurd H (by simp[gY])
 | succ k1 =>
  rw[gY]at H;refine qq r<|wq<|aL [U,U,dm (g2<Y)]<|G<|dK H (λc3 H=>?_) λc3 H=>?_
  ·refine fT<|wq<|wb<|gP<|EN H (λc4 H=>?_) λc4 H=>?_
   ·refine wl<|ko [U,U,Z (wi (g1+g1)),Z (wi (g1+g1))]<|kl<|bn<|tn<|wl<|ko [U,Z (wi (g2+1)),Z (wi (g2+1))]<|G<|?_;exact λ_ r=>⟨_,⟨(wi (g1+g1)),(wi (g2+1)),H,r.fj h⟩,ie _⟩
   refine wl<|fP H λr5 e6 H=>bS<|eW (uN e6 h :) λw h=>bS<|kl<|bn<|tn<|wl<|ko [U,Z (wi (g2+1)),Z (wi (g2+1))]<|G<|?_;exact λ_ r=>⟨_,⟨r5,(wi (g2+1)),H,r.fj h⟩,ie _⟩
  refine wx<|te<|te<|bh<|tn<|aL da<|bY<|?_;cases H;exact fU h
def iI(O:Bool):Option (Int):=
 (if O=true then some 1 else some 0)
theorem rA(H:iI O=some r0)(h:iJ z (L) w) :
 nH 187 #[vB O] w z (Z r0) (L):=by
 unfold iI at H;refine ke func187 4 rfl λj=>gP<|wq<|gP<|EN H (λc1 H=>?_) λc1 H=>?_
 ·refine gP<|wr<|tr<|?_;cases H;exact fU h
 refine fT<|gP<|wr<|?_;cases H;exact fU h
def uP(O:Int)(Y:Int)(p2:Int):Option (Int):=
 (if O=10 then(if Y<p2 then some Y else some p2)else(if O=11 then(if Y>p2 then some Y else some p2)else(if O=12 then dX (iI (decide (Y<p2))) (λr6=>some r6)else(if O=13 then dX (iI (decide (Y<=p2))) (λr9=>some r9)else(if O=14 then dX (iI (Y==p2)) (λpH=>some pH)else dX (iI (Y != p2)) (λiS=>some iS))))))
theorem BV(H:uP O Y p2=some r0)(h:iJ z (L) w) :
 nH 183 #[Z O,Z Y,Z p2] w z (Z r0) (L):=by
 unfold uP at H;refine ke func183 44 rfl λj=>gP<|wq<|gP<|wb<|aL [vB (O==10),vB (O==10)]<|G<|dK H (λc1 H=>?_) λc1 H=>?_
 ·refine wq<|aL [U,U,dm (Y<p2)]<|G<|dK H (λc2 H=>?_) λc2 H=>?_
  ·refine aL da<|bY<|tr<|br<|tr<|?_;cases H;exact fU h
  refine fT<|aL da<|bY<|br<|tr<|?_;cases H;exact fU h
 refine aL [vB (O==11),vB (O==11)]<|G<|dK H (λc3 H=>?_) λc3 H=>?_
 ·refine wq<|aL [U,U,dm (Y>p2)]<|G<|dK H (λc4 H=>?_) λc4 H=>?_
  ·refine aL da<|bY<|tr<|br<|tr<|?_;cases H;exact fU h
  refine fT<|aL da<|bY<|br<|tr<|?_;cases H;exact fU h
 refine aL [vB (O==12),vB (O==12)]<|G<|dK H (λc5 H=>?_) λc5 H=>?_
 ·refine ks<|fP H λr6 e7 H=>ko [U,U,dm (Y<p2)]<|eW (rA e7 h :) λw h=>bS<|bY<|br<|tr<|?_;cases H;exact fU h
 refine aL [vB (O==13),vB (O==13)]<|G<|dK H (λc8 H=>?_) λc8 H=>?_
 ·refine ks<|fP H λr9 Hy H=>ko [U,U,dm (Y<=p2)]<|eW (rA Hy h :) λw h=>bS<|bY<|br<|tr<|?_;cases H;exact fU h
 refine aL [vB (O==14),vB (O==14)]<|G<|dK H (λvH H=>?_) λvH H=>?_
 ·refine ks<|fP H λpH UX H=>ko [U,U,vB (Y==p2)]<|eW (rA UX h :) λw h=>bS<|bY<|br<|tr<|?_;cases H;exact fU h
 refine wk<|bn<|tn<|ks<|fP H λiS I6 H=>ko [U,U,vB (Y != p2)]<|eW (rA I6 h :) λw h=>bS<|bY<|?_;cases H;exact fU h
def sH(K:Nat)(O:Int)(Y:Int)(p2:Int):Option (Int):=
 (if O=0 then some (wi (Y+p2))else(if O=1 then some (wi (Y-p2))else(if O=2 then some (wi (Y*p2))else(if O=3 then dX (pS Y p2) (λr5=>some r5)else(if O=4 then dX (pS Y p2) (λr8=>some (wi (Y-(wi (r8*p2)))))else(if O=5 then dX (jG K Y p2 true false) (λvC=>some vC)else(if O=6 then dX (jG K Y p2 true true) (λiS=>some iS)else(if O=7 then dX (jG K Y p2 false true) (λCw=>some Cw)else(if O=8 then dX (lF p2) (λAl=>dX (lG K Y Al true) (λMN=>some MN))else(if O=9 then dX (lF p2) (λy9=>dX (lG K Y y9 false) (λLH=>some LH))else dX (uP O Y p2) (λPm=>some Pm)))))))))))
theorem DV(H:sH K O Y p2=some r0)(h:iJ z (L) w) :
 nH 169 #[Z O,Z Y,Z p2] w z (Z r0) (L):=by
 unfold sH at H;refine ke func169 68 rfl λj=>gP<|wq<|gP<|wb<|aL [vB (O==0),vB (O==0)]<|G<|dK H (λc1 H=>?_) λc1 H=>?_
 ·refine aL [U,U,Z (wi (Y+p2)),Z (wi (Y+p2))]<|bY<|br<|tr<|?_;cases H;exact fU h
 refine aL [vB (O==1),vB (O==1)]<|G<|dK H (λc2 H=>?_) λc2 H=>?_
 ·refine aL [U,U,Z (wi (Y-p2)),Z (wi (Y-p2))]<|bY<|br<|tr<|?_;cases H;exact fU h
 refine aL [vB (O==2),vB (O==2)]<|G<|dK H (λc3 H=>?_) λc3 H=>?_
 ·refine aL [U,U,Z (wi (Y*p2)),Z (wi (Y*p2))]<|bY<|br<|tr<|?_;cases H;exact fU h
 refine aL [vB (O==3),vB (O==3)]<|G<|dK H (λc4 H=>?_) λc4 H=>?_
 ·refine ks<|fP H λr5 e6 H=>ko da<|eW (yb e6 h :) λw h=>bS<|bY<|br<|tr<|?_;cases H;exact fU h
 refine aL [vB (O==4),vB (O==4)]<|G<|dK H (λc7 H=>?_) λc7 H=>?_
 ·refine ks<|fP H λr8 e9 H=>ko kJ<|eW (yb e9 h :) λw h=>ko [U,Z (wi (r8*p2)),Z (wi (Y-(wi (r8*p2)))),Z (wi (Y-(wi (r8*p2))))]<|bY<|br<|tr<|?_;cases H;exact fU h
 refine aL [vB (O==5),vB (O==5)]<|G<|dK H (λpe H=>?_) λpe H=>?_
 ·refine ks<|fP H λvC Fi H=>ko da<|eW (uO Fi h :) λw h=>bS<|bY<|br<|tr<|?_;cases H;exact fU h
 refine aL [vB (O==6),vB (O==6)]<|G<|dK H (λyI H=>?_) λyI H=>?_
 ·refine ks<|fP H λiS I6 H=>ko da<|eW (uO I6 h :) λw h=>bS<|bY<|br<|tr<|?_;cases H;exact fU h
 refine aL [vB (O==7),vB (O==7)]<|G<|dK H (λvJ H=>?_) λvJ H=>?_
 ·refine ks<|fP H λCw Ew H=>ko da<|eW (uO Ew h :) λw h=>bS<|bY<|br<|tr<|?_;cases H;exact fU h
 refine aL [vB (O==8),vB (O==8)]<|G<|dK H (λsj H=>?_) λsj H=>?_
 ·refine ks<|fP H λAl LM H=>ko da<|eW (xA LM h :) λw h=>fP H λMN Ck H=>eW (xB Ck h :) λw h=>bS<|bY<|br<|tr<|?_;cases H;exact fU h
 refine aL [vB (O==9),vB (O==9)]<|G<|dK H (λBj H=>?_) λBj H=>?_
 ·refine ks<|fP H λy9 Vg H=>ko da<|eW (xA Vg h :) λw h=>fP H λLH Pa H=>eW (xB Pa h :) λw h=>bS<|bY<|br<|tr<|?_;cases H;exact fU h
 refine wk<|bn<|tn<|ks<|fP H λPm LN H=>ko kJ<|eW (BV LN h :) λw h=>bS<|bY<|?_;cases H;exact fU h
def rB(K:Nat)(O:Int)(Y:Int)(p2:Int):Option (Int×Int):=
 (if O<0 then some (0,10)else(if O>=16 then some (0,10)else dX (sH K O Y p2) (λr3=>some (r3,0))))
theorem Dg(H:rB K O Y p2=some (r0,r1))(h:iJ z (L) w) :
 nH 146 #[Z O,Z Y,Z p2] w z (.tuple #[Z r0,Z r1]) (L):=by
 unfold rB at H;refine ke func146 18 rfl λj=>aL da<|G<|wq<|aL [U,dm (O<0),dm (O<0)]<|qI H (λc1 H=>?_) λc1 H=>?_
 ·refine cg (dT c1) [11,12]<|oJ (dT c1) (vB true)<|G<|λ_ r=>fW r (b:=true) rfl<|qq r<|aL da<|bY<|tr<|?_;cases H;exact ML h
 refine cT (dF c1) [11,12] [Z O,dm (O>=16)]<|oz (dF c1) (dm (O>=16))<|G<|dK H (λc2 H=>?_) λc2 H=>?_
 ·refine aL da<|bY<|tr<|?_;cases H;exact ML h
 refine fT<|ks<|fP H λr3 e4 H=>ko kJ<|eW (DV e4 h :) λw h=>ko da<|bY<|?_;cases H;exact ML h
def lN(K:Nat)(O:bH)(aF:List aB)(Y:dR)(p2:cr):Option (dR):=
 (if p2.aG=0 then if bJ p2.A 16 then some ({Y with s7:=mL 16 Y.s7 p2.A.toNat p2.K})else none else(if p2.aG=1 then if bJ p2.B 16 then if bJ p2.A 16 then some ({Y with s7:=mL 16 Y.s7 p2.A.toNat (J Y.s7 p2.B.toNat)})else none else none else(if p2.aG=2 then if bJ p2.B 16 then if bJ p2.C 16 then uE (rB K p2.K (J Y.s7 p2.B.toNat) (J Y.s7 p2.C.toNat)) (λpH wQ=>if bJ p2.A 16 then some ({Y with s7:=mL 16 Y.s7 p2.A.toNat pH})else none)else none else none else(if p2.aG=7 then if bJ p2.B 8 then if bJ p2.A 16 then some ({Y with s7:=mL 16 Y.s7 p2.A.toNat (J Y.ny p2.B.toNat)})else none else none else(if p2.aG=8 then if bJ Y.Me O.bL.length then if bJ p2.A 16 then some ({Y with s7:=mL 16 Y.s7 p2.A.toNat (J O.bL Y.Me.toNat).FM})else none else none else(if p2.aG=3 then some ({Y with At:=p2.A})else(if p2.aG=4 then if bJ p2.A 16 then(if(J Y.s7 p2.A.toNat)=0 then some Y else some ({Y with At:=p2.B}))else none else some Y)))))))
theorem Ah(H:lN K O aF Y p2=some q1)(h:iJ z (Eg B0 O (aW aN aF.length bq) ju jy::Ba ju jy O.bL::Eh B1 Y::L) w)(cF:zb L aN cB aF) :
 nH 119 #[pA B0 0,pA B1 0,gO p2] w z (.tuple #[]) (Eg B0 O (aW aN aF.length bq) ju jy::Ba ju jy O.bL::Eh B1 q1::L):=by
 unfold lN at H;refine ke func119 120 rfl λj=>ks<|kN h (lP p2) 132 λb3 w h=>G<|aL [U]<|kL h 0<|G<|wb<|aL [vB (p2.aG==0),vB (p2.aG==0)]<|G<|dK H (λc4 H=>?_) λc4 H=>?_
 ·refine qg H λc5 H=>mJ [(b3,1,[Z p2.A]),(b3,4,[Z p2.K])] [1,3,5,6] 9 h (λh=>⟨⟨h.cell 1 rfl,bR⟩,⟨h.cell 4 rfl,bR⟩,bR⟩) λw h hd =>lW hd 4 12 [([0,5],pA B1 0),([1],pA b3 1),([3],pA b3 4),([6],pA B1 2)]<|eI hd 0 3 2 rfl<|eI hd 1 2 4 rfl<|nr hd 1 7 rfl (pA B1 (2+p2.A.toNat*1)) (λw=>vy (k:=.i64) (E:=2) (N:=16) rfl aZ aZ aZ aZ c5)<|λ_ r=>lj 8 rfl<|qh h.m3 λh=>tY (C:=[Z Y.Me,Z Y.iP]++eA 16 aK Y.s7++eA 8 aK Y.ny++[Z Y.At,Z Y.ey,Z Y.End,Z Y.Kids]) (C':=[Z Y.Me,Z Y.iP]++eA 16 aK (mL 16 Y.s7 p2.A.toNat p2.K)++eA 8 aK Y.ny++[Z Y.At,Z Y.ey,Z Y.End,Z Y.Kids]) (v:=Z p2.K) (wn rfl) rfl r rfl aZ aZ rfl rfl aZ h (po (f:=0) (pre:=[Z Y.Me,Z Y.iP]) (post:=eA 8 aK Y.ny++[Z Y.At,Z Y.ey,Z Y.End,Z Y.Kids]) rfl aJ rfl (kX c5) rfl) (vb (y:=p2.K) (pre:=[Z Y.Me,Z Y.iP]) (post:=eA 8 aK Y.ny++[Z Y.At,Z Y.ey,Z Y.End,Z Y.Kids]) rfl aJ rfl (kX c5) rfl rfl) λw h=>qq r<|G<|mu<|mM<|bn<|?_;cases H;exact IX (h.se 4 [2,3,0])
 refine aL [vB (p2.aG==1),vB (p2.aG==1)]<|G<|dK H (λc6 H=>?_) λc6 H=>?_
 ·refine qg H λc7 H=>qg H λc8 H=>mJ [(b3,1,[Z p2.A]),(b3,2,[Z p2.B]),(B1,2+p2.B.toNat*1,[Z (J Y.s7 p2.B.toNat)])] [1,4,6,7,8,10,11] 14 h (λh=>⟨⟨h.cell 1 rfl,bR⟩,⟨h.cell 2 rfl,bR⟩,⟨(h.pick 3).cell (2+p2.B.toNat*1) (Xu (po (C:=[Z Y.Me,Z Y.iP]++eA 16 aK Y.s7++eA 8 aK Y.ny++[Z Y.At,Z Y.ey,Z Y.End,Z Y.Kids]) (f:=0) (pre:=[Z Y.Me,Z Y.iP]) (post:=eA 8 aK Y.ny++[Z Y.At,Z Y.ey,Z Y.End,Z Y.Kids]) rfl aJ rfl (kX c7) rfl)),bR⟩,bR⟩) λw h hd =>lW hd 6 22 [([0,3,6,10],pA B1 0),([1],pA b3 1),([4],pA b3 2),([7,11],pA B1 2)]<|eI hd 0 5 2 rfl<|eI hd 1 4 5 rfl<|nr hd 3 8 rfl (pA B1 (2+p2.B.toNat*1)) (λw=>vy (k:=.i64) (E:=2) (N:=16) rfl aZ aZ aZ aZ c7)<|eI hd 2 2 9 rfl<|nr hd 1 12 rfl (pA B1 (2+p2.A.toNat*1)) (λw=>vy (k:=.i64) (E:=2) (N:=16) rfl aZ aZ aZ aZ c8)<|λ_ r=>lj 13 rfl<|qh h.m3 λh=>tY (C:=[Z Y.Me,Z Y.iP]++eA 16 aK Y.s7++eA 8 aK Y.ny++[Z Y.At,Z Y.ey,Z Y.End,Z Y.Kids]) (C':=[Z Y.Me,Z Y.iP]++eA 16 aK (mL 16 Y.s7 p2.A.toNat (J Y.s7 p2.B.toNat))++eA 8 aK Y.ny++[Z Y.At,Z Y.ey,Z Y.End,Z Y.Kids]) (v:=Z (J Y.s7 p2.B.toNat)) (wn rfl) rfl r rfl aZ aZ rfl rfl aZ h (po (f:=0) (pre:=[Z Y.Me,Z Y.iP]) (post:=eA 8 aK Y.ny++[Z Y.At,Z Y.ey,Z Y.End,Z Y.Kids]) rfl aJ rfl (kX c8) rfl) (vb (y:=(J Y.s7 p2.B.toNat)) (pre:=[Z Y.Me,Z Y.iP]) (post:=eA 8 aK Y.ny++[Z Y.At,Z Y.ey,Z Y.End,Z Y.Kids]) rfl aJ rfl (kX c8) rfl rfl) λw h=>qq r<|G<|mu<|mM<|bn<|?_;cases H;exact IX (h.se 4 [2,3,0])
 refine aL [vB (p2.aG==2),vB (p2.aG==2)]<|G<|dK H (λc9 H=>?_) λc9 H=>?_
 ·refine wq<|qg H λpe H=>qg H λvH H=>xT H λpH wQ Hx H=>mJ [(b3,4,[Z p2.K]),(b3,2,[Z p2.B]),(B1,2+p2.B.toNat*1,[Z (J Y.s7 p2.B.toNat)]),(b3,3,[Z p2.C]),(B1,2+p2.C.toNat*1,[Z (J Y.s7 p2.C.toNat)])] [0,3,5,6,7,10,12,13,14] 22 h (λh=>⟨⟨h.cell 4 rfl,bR⟩,⟨h.cell 2 rfl,bR⟩,⟨(h.pick 3).cell (2+p2.B.toNat*1) (Xu (po (C:=[Z Y.Me,Z Y.iP]++eA 16 aK Y.s7++eA 8 aK Y.ny++[Z Y.At,Z Y.ey,Z Y.End,Z Y.Kids]) (f:=0) (pre:=[Z Y.Me,Z Y.iP]) (post:=eA 8 aK Y.ny++[Z Y.At,Z Y.ey,Z Y.End,Z Y.Kids]) rfl aJ rfl (kX pe) rfl)),bR⟩,⟨h.cell 3 rfl,bR⟩,⟨(h.pick 3).cell (2+p2.C.toNat*1) (Xu (po (C:=[Z Y.Me,Z Y.iP]++eA 16 aK Y.s7++eA 8 aK Y.ny++[Z Y.At,Z Y.ey,Z Y.End,Z Y.Kids]) (f:=0) (pre:=[Z Y.Me,Z Y.iP]) (post:=eA 8 aK Y.ny++[Z Y.At,Z Y.ey,Z Y.End,Z Y.Kids]) rfl aJ rfl (kX vH) rfl)),bR⟩,bR⟩) λw h hd =>lW hd 13 38 [([0],pA b3 4),([2,5,9,12],pA B1 0),([3],pA b3 2),([6,13],pA B1 2),([10],pA b3 3)]<|eI hd 0 12 1 rfl<|eI hd 1 11 4 rfl<|nr hd 10 7 rfl (pA B1 (2+p2.B.toNat*1)) (λw=>vy (k:=.i64) (E:=2) (N:=16) rfl aZ aZ aZ aZ pe)<|eI hd 2 9 8 rfl<|eI hd 3 8 11 rfl<|nr hd 7 14 rfl (pA B1 (2+p2.C.toNat*1)) (λw=>vy (k:=.i64) (E:=2) (N:=16) rfl aZ aZ aZ aZ vH)<|eI hd 4 6 15 rfl<|lB 16 rfl<|eW (Dg Hx h :) λw h=>G<|mu<|iF 4 17 rfl (.tuple #[Z pH,Z wQ])<|iF 3 18 rfl (Z pH)<|iF 2 19 rfl (Z wQ)<|iF 1 20 rfl (Z pH)<|iF 0 21 rfl (Z wQ)<|mM<|tn<|qg H λpT H=>mJ [(b3,1,[Z p2.A])] [1,4,5] 8 h (λh=>⟨⟨h.cell 1 rfl,bR⟩,bR⟩) λw h hd =>lW hd 3 57 [([0,4],pA B1 0),([1],pA b3 1),([3],Z pH),([5],pA B1 2)]<|eI hd 0 2 2 rfl<|nr hd 1 6 rfl (pA B1 (2+p2.A.toNat*1)) (λw=>vy (k:=.i64) (E:=2) (N:=16) rfl aZ aZ aZ aZ pT)<|λ_ r=>lj 7 rfl<|qh h.m3 λh=>tY (C:=[Z Y.Me,Z Y.iP]++eA 16 aK Y.s7++eA 8 aK Y.ny++[Z Y.At,Z Y.ey,Z Y.End,Z Y.Kids]) (C':=[Z Y.Me,Z Y.iP]++eA 16 aK (mL 16 Y.s7 p2.A.toNat pH)++eA 8 aK Y.ny++[Z Y.At,Z Y.ey,Z Y.End,Z Y.Kids]) (v:=Z pH) (wn rfl) rfl r rfl aZ aZ rfl rfl aZ h (po (f:=0) (pre:=[Z Y.Me,Z Y.iP]) (post:=eA 8 aK Y.ny++[Z Y.At,Z Y.ey,Z Y.End,Z Y.Kids]) rfl aJ rfl (kX pT) rfl) (vb (y:=pH) (pre:=[Z Y.Me,Z Y.iP]) (post:=eA 8 aK Y.ny++[Z Y.At,Z Y.ey,Z Y.End,Z Y.Kids]) rfl aJ rfl (kX pT) rfl rfl) λw h=>qq r<|G<|mu<|mM<|bn<|?_;cases H;exact IX (h.se 4 [2,3,0])
 refine aL [vB (p2.aG==7),vB (p2.aG==7)]<|G<|dK H (λvJ H=>?_) λvJ H=>?_
 ·refine qg H λzO H=>qg H λBz H=>mJ [(b3,1,[Z p2.A]),(b3,2,[Z p2.B]),(B1,18+p2.B.toNat*1,[Z (J Y.ny p2.B.toNat)])] [1,4,6,7,8,10,11] 14 h (λh=>⟨⟨h.cell 1 rfl,bR⟩,⟨h.cell 2 rfl,bR⟩,⟨(h.pick 3).cell (18+p2.B.toNat*1) (Xu (po (C:=[Z Y.Me,Z Y.iP]++eA 16 aK Y.s7++eA 8 aK Y.ny++[Z Y.At,Z Y.ey,Z Y.End,Z Y.Kids]) (f:=0) (pre:=[Z Y.Me,Z Y.iP]++eA 16 aK Y.s7) (post:=[Z Y.At,Z Y.ey,Z Y.End,Z Y.Kids]) rfl aJ rfl (kX zO) rfl)),bR⟩,bR⟩) λw h hd =>lW hd 6 66 [([0,3,6,10],pA B1 0),([1],pA b3 1),([4],pA b3 2),([7],pA B1 18),([11],pA B1 2)]<|eI hd 0 5 2 rfl<|eI hd 1 4 5 rfl<|nr hd 3 8 rfl (pA B1 (18+p2.B.toNat*1)) (λw=>vy (k:=.i64) (E:=2) (N:=8) rfl aZ aZ aZ aZ zO)<|eI hd 2 2 9 rfl<|nr hd 1 12 rfl (pA B1 (2+p2.A.toNat*1)) (λw=>vy (k:=.i64) (E:=2) (N:=16) rfl aZ aZ aZ aZ Bz)<|λ_ r=>lj 13 rfl<|qh h.m3 λh=>tY (C:=[Z Y.Me,Z Y.iP]++eA 16 aK Y.s7++eA 8 aK Y.ny++[Z Y.At,Z Y.ey,Z Y.End,Z Y.Kids]) (C':=[Z Y.Me,Z Y.iP]++eA 16 aK (mL 16 Y.s7 p2.A.toNat (J Y.ny p2.B.toNat))++eA 8 aK Y.ny++[Z Y.At,Z Y.ey,Z Y.End,Z Y.Kids]) (v:=Z (J Y.ny p2.B.toNat)) (wn rfl) rfl r rfl aZ aZ rfl rfl aZ h (po (f:=0) (pre:=[Z Y.Me,Z Y.iP]) (post:=eA 8 aK Y.ny++[Z Y.At,Z Y.ey,Z Y.End,Z Y.Kids]) rfl aJ rfl (kX Bz) rfl) (vb (y:=(J Y.ny p2.B.toNat)) (pre:=[Z Y.Me,Z Y.iP]) (post:=eA 8 aK Y.ny++[Z Y.At,Z Y.ey,Z Y.End,Z Y.Kids]) rfl aJ rfl (kX Bz) rfl rfl) λw h=>qq r<|G<|mu<|mM<|bn<|?_;cases H;exact IX (h.se 4 [2,3,0])
 refine aL [vB (p2.aG==8),vB (p2.aG==8)]<|G<|dK H (λsj H=>?_) λsj H=>?_
 ·refine qg H λlT H=>qg H λsL H=>mJ [(b3,1,[Z p2.A]),(B0,3,[aW ju O.bL.length jy]),(B1,0,[Z Y.Me]),(dJ ju,Y.Me.toNat*7+4,[Z (J O.bL Y.Me.toNat).FM])] [1,4,5,8,9,11,12,14,15] 18 h (λh=>⟨⟨h.cell 1 rfl,bR⟩,⟨(h.pick 1).cell 3 rfl,bR⟩,⟨(h.pick 3).cell 0 rfl,bR⟩,⟨(h.pick 2).cy oH (f:=4) (bj lT) rfl,bR⟩,bR⟩) λw h hd =>lW hd 8 81 [([0,7,8,9,14],pA B1 0),([1],pA b3 1),([3,4],pA B0 0),([5],pA B0 3),([15],pA B1 2)]<|eI hd 0 7 2 rfl<|eI hd 1 6 6 rfl<|eI hd 2 5 10 rfl<|nr hd 4 11 rfl (pA (dJ ju) (Y.Me.toNat*7)) (λw=>uI 167 rfl (h.pick 2) lT)<|mg hd 3 [(12,93,pA (dJ ju) (Y.Me.toNat*7+4))]<|eI hd 3 2 13 rfl<|nr hd 1 16 rfl (pA B1 (2+p2.A.toNat*1)) (λw=>vy (k:=.i64) (E:=2) (N:=16) rfl aZ aZ aZ aZ sL)<|λ_ r=>lj 17 rfl<|qh h.m3 λh=>tY (C:=[Z Y.Me,Z Y.iP]++eA 16 aK Y.s7++eA 8 aK Y.ny++[Z Y.At,Z Y.ey,Z Y.End,Z Y.Kids]) (C':=[Z Y.Me,Z Y.iP]++eA 16 aK (mL 16 Y.s7 p2.A.toNat (J O.bL Y.Me.toNat).FM)++eA 8 aK Y.ny++[Z Y.At,Z Y.ey,Z Y.End,Z Y.Kids]) (v:=Z (J O.bL Y.Me.toNat).FM) (wn rfl) rfl r rfl aZ aZ rfl rfl aZ h (po (f:=0) (pre:=[Z Y.Me,Z Y.iP]) (post:=eA 8 aK Y.ny++[Z Y.At,Z Y.ey,Z Y.End,Z Y.Kids]) rfl aJ rfl (kX sL) rfl) (vb (y:=(J O.bL Y.Me.toNat).FM) (pre:=[Z Y.Me,Z Y.iP]) (post:=eA 8 aK Y.ny++[Z Y.At,Z Y.ey,Z Y.End,Z Y.Kids]) rfl aJ rfl (kX sL) rfl rfl) λw h=>qq r<|G<|mu<|mM<|bn<|?_;cases H;exact IX (h.se 4 [2,3,0])
 refine aL [vB (p2.aG==3),vB (p2.aG==3)]<|G<|dK H (λF5 H=>?_) λF5 H=>?_
 ·refine wl<|ko da<|kL h 1<|ko da<|qh h.m3 λh=>kS h 26 (Eh B1 {Y with At:=p2.A}) λw h=>kl<|bn<|?_;cases H;exact IX (h.se 4 [2,3,0])
 refine aL [vB (p2.aG==4),vB (p2.aG==4)]<|G<|dK H (λBC H=>?_) λBC H=>?_
 ·refine wq<|qg H λBj H=>mJ [(b3,1,[Z p2.A]),(B1,2+p2.A.toNat*1,[Z (J Y.s7 p2.A.toNat)])] [1,3,4,5] 8 h (λh=>⟨⟨h.cell 1 rfl,bR⟩,⟨(h.pick 3).cell (2+p2.A.toNat*1) (Xu (po (C:=[Z Y.Me,Z Y.iP]++eA 16 aK Y.s7++eA 8 aK Y.ny++[Z Y.At,Z Y.ey,Z Y.End,Z Y.Kids]) (f:=0) (pre:=[Z Y.Me,Z Y.iP]) (post:=eA 8 aK Y.ny++[Z Y.At,Z Y.ey,Z Y.End,Z Y.Kids]) rfl aJ rfl (kX Bj) rfl)),bR⟩,bR⟩) λw h hd =>lW hd 4 107 [([0,3],pA B1 0),([1],pA b3 1),([4],pA B1 2)]<|eI hd 0 3 2 rfl<|nr hd 2 5 rfl (pA B1 (2+p2.A.toNat*1)) (λw=>vy (k:=.i64) (E:=2) (N:=16) rfl aZ aZ aZ aZ Bj)<|eI hd 1 1 6 rfl<|mg hd 0 [(7,114,vB ((J Y.s7 p2.A.toNat) != 0))]<|mM<|tn<|rV H (λzP H=>?_) λzP H=>?_
  ·refine wk<|bn<|?_;cases H;exact IX (h.se 4 [1,2,3])
  refine wl<|ko da<|kL h 2<|ko da<|qh h.m3 λh=>kS h 26 (Eh B1 {Y with At:=p2.B}) λw h=>kl<|bn<|?_;cases H;exact IX (h.se 4 [2,3,0])
 refine wk<|bn<|?_;cases H;exact IX (h.se 4 [1,2,3])
def ik(K:Nat)(p2:List Int):Nat->(List Int)->Int->Option ((List Int))
 | 0,_,_=>none
 | k1+1,l9,G4=>(if G4<((p2.length:Nat):Int)then if bJ G4 p2.length then if bJ G4 16 then(ik K p2 k1 (mL 16 l9 G4.toNat (J p2 G4.toNat)) (wi (G4+1)))else none else none else some l9)
def iq(K:Nat)(aF:List aB)(Y:fm)(cZ:dR):Nat->(List Int)->Int->Option ((List Int))
 | 0,_,_=>none
 | k3+1,xI,JH=>if bJ (J (J aF Y.Func.toNat).ai cZ.At.toNat).B aF.length then(if JH<(J aF (J (J aF Y.Func.toNat).ai cZ.At.toNat).B.toNat).aS then if bJ (wi ((J (J aF Y.Func.toNat).ai cZ.At.toNat).C+JH)) 16 then if(xI.length+1)*8<=140737488355328 then(iq K aF Y cZ k3 (xI++[(J cZ.s7 (wi ((J (J aF Y.Func.toNat).ai cZ.At.toNat).C+JH)).toNat)]) (wi (JH+1)))else none else none else some xI)else none
def eG(K:Nat)(aF:List aB)(Y:fm)(Wj:bH->(List aB)->fm->(List Int)->Int->Option (Int×Int×bH)):Nat->bH->dR->Option (Int×Int×bH)
 | 0,_,_=>none
 | k2+1,jV,cZ=>(if jV.xd=0 then(if jV.Left=0 then some (0,0,{jV with xd:=62})else if bJ Y.Func aF.length then if bJ cZ.At (J aF Y.Func.toNat).ai.length then if bJ cZ.Me jV.bL.length then(if(J (J aF Y.Func.toNat).ai cZ.At.toNat).aG=5 then(if cZ.iP>=4096 then(eG K aF Y Wj k2 (⟨wi (jV.Left-1),63,jV.bL.set cZ.Me.toNat ({J jV.bL cZ.Me.toNat with kT:=wi ((J jV.bL cZ.Me.toNat).kT+1)}),jV.Deep⟩:bH) ({cZ with At:=wi (cZ.At+1),ey:=wi (cZ.ey+1)}))else dX ((iq K aF Y cZ K ([]:List Int) 0)) (λl41=>if bJ cZ.Me (jV.bL.set cZ.Me.toNat ({J jV.bL cZ.Me.toNat with kT:=wi ((J jV.bL cZ.Me.toNat).kT+1)})).length then dX (vm (J (jV.bL.set cZ.Me.toNat ({J jV.bL cZ.Me.toNat with kT:=wi ((J jV.bL cZ.Me.toNat).kT+1)})) cZ.Me.toNat).FM cZ.Kids) (λW1=>rN (Wj ({jV with Left:=wi (jV.Left-1),bL:=jV.bL.set cZ.Me.toNat ({J jV.bL cZ.Me.toNat with kT:=wi ((J jV.bL cZ.Me.toNat).kT+1)})}) aF (⟨cZ.Me,cZ.Kids,(J (J aF Y.Func.toNat).ai cZ.At.toNat).B,0,W1,0,0⟩:fm) l41 (wi (cZ.iP+1))) (λES Ec Q1=>if bJ (J (J aF Y.Func.toNat).ai cZ.At.toNat).A 8 then(eG K aF Y Wj k2 Q1 (⟨cZ.Me,cZ.iP,cZ.s7,mL 8 cZ.ny (J (J aF Y.Func.toNat).ai cZ.At.toNat).A.toNat ES,wi (cZ.At+1),wi (cZ.ey+1),if(wi ((wi (cZ.ey+1))+Ec))>cZ.End then(wi ((wi (cZ.ey+1))+Ec))else cZ.End,wi (cZ.Kids+1)⟩:dR))else none))else none))else(if(J (J aF Y.Func.toNat).ai cZ.At.toNat).aG=6 then(eG K aF Y Wj k2 ({jV with Left:=wi (jV.Left-1),bL:=jV.bL.set cZ.Me.toNat ({J jV.bL cZ.Me.toNat with kT:=wi ((J jV.bL cZ.Me.toNat).kT+1)})}) ({cZ with At:=wi (cZ.At+1),ey:=wi ((if cZ.End>cZ.ey then cZ.End else cZ.ey)+1),End:=0}))else(if(J (J aF Y.Func.toNat).ai cZ.At.toNat).aG=9 then if bJ (J (J aF Y.Func.toNat).ai cZ.At.toNat).A 16 then if bJ cZ.Me (jV.bL.set cZ.Me.toNat ({J jV.bL cZ.Me.toNat with kT:=wi ((J jV.bL cZ.Me.toNat).kT+1)})).length then some ((J cZ.s7 (J (J aF Y.Func.toNat).ai cZ.At.toNat).A.toNat),wi (cZ.ey+1),{jV with Left:=wi (jV.Left-1),bL:=(jV.bL.set cZ.Me.toNat ({J jV.bL cZ.Me.toNat with kT:=wi ((J jV.bL cZ.Me.toNat).kT+1)})).set cZ.Me.toNat ({{J jV.bL cZ.Me.toNat with kT:=wi ((J jV.bL cZ.Me.toNat).kT+1)}with V:=(J cZ.s7 (J (J aF Y.Func.toNat).ai cZ.At.toNat).A.toNat)})})else none else none else dX (lN K ({jV with Left:=wi (jV.Left-1),bL:=jV.bL.set cZ.Me.toNat ({J jV.bL cZ.Me.toNat with kT:=wi ((J jV.bL cZ.Me.toNat).kT+1)})}) aF ({cZ with At:=wi (cZ.At+1),ey:=wi (cZ.ey+1)}) (J (J aF Y.Func.toNat).ai cZ.At.toNat)) (λSs=>(eG K aF Y Wj k2 ({jV with Left:=wi (jV.Left-1),bL:=jV.bL.set cZ.Me.toNat ({J jV.bL cZ.Me.toNat with kT:=wi ((J jV.bL cZ.Me.toNat).kT+1)})}) Ss)))))else none else none else none)else some (0,0,jV))
def fK(K:Nat):Nat->(bH->(List aB)->fm->(List Int)->Int->Option (Int×Int×bH))
 | 0=>λ_ _ _ _ _=>none
 | d+1=>λO aF Y p2 p3 =>
 dX ((ik K p2 K (List.replicate 16 (0:Int)) 0)) (λl6=>if bJ (0:Int) 16 then dX ((if((p2.length:Nat):Int)=0 then some 0 else some (J l6 0))) (λRJ=>if(O.bL.length+1)*56<=140737488355328 then(eG K aF Y (fK K d) K ({O with bL:=O.bL++[{Y with Arg:=RJ}],Deep:=if p3>O.Deep then p3 else O.Deep}) (⟨((O.bL.length:Nat):Int),p3,l6,(List.replicate 8 (0:Int)),0,0,0,0⟩:dR))else none)else none)
def rC(K:Nat)(O:bH)(aF:List aB)(Y:fm)(p2:List Int)(p3:Int):Option (Int×Int×bH):=fK K K O aF Y p2 p3
abbrev W8:List Value:=[Z 0,Z 0,Z 0,Z 0]
abbrev Wk (B:Nat) (S:bH) (k0:Value) (a3:fB) (c3:Nat) (q:Nat):bl:=pts B (.cells #[k0,Z S.Left,Z S.xd,.slice a3 q c3,Z S.Deep] 163)
theorem zk :∀(d:Nat) {L:List bl} {z w:World} {O q0:bH} {aF:List aB} {Y:fm} {p2:List Int} {p3 r0 r1:Int} {B0 bq jy xG:Nat} {aN ju v5:fB} {cB:Nat->Option Addr×Nat} (H:fK K d O aF Y p2 p3=some (r0,r1,q0)) (h:iJ z (Eg B0 O (aW aN aF.length bq) ju jy::Ba ju jy O.bL::L) w) (cF:zb L aN cB aF) (Cu:bI L 1 aK v5 p2),Calls Tryz.prog 80 #[pA B0 0,Ef Y,aW v5 p2.length xG,Z p3] w λe w=>∃x1 x2,e=.returned (.tuple #[Z r0,Z r1])/\Fit z (aD (Eg B0 q0 (aW aN aF.length bq) x1 x2::Ba x1 x2 q0.bL::L)) w:=by
 intro d;induction d with
 | zero=>intro L z w O q0 aF Y p2 p3 r0 r1 B0 bq jy xG aN ju v5 cB H h cF Cu;exact absurd H (by simp[fK])
 | succ d ih =>
  intro L z w O q0 aF Y p2 p3 r0 r1 B0 bq jy xG aN ju v5 cB H h cF Cu;rw[fK]at H;replace H:=H;refine ke func80 191 rfl λj=>ks<|kN h (tF Y) 167 λb4 w h=>ko da<|G<|aL kJ<|kL (h.pick 1) 3<|ko [Z ((O.bL.length:Nat):Int),U,U]<|kN h (([Z ((O.bL.length:Nat):Int),Z p3]++eA 16 aK (List.replicate 16 (0:Int))++eA 8 aK (List.replicate 8 (0:Int))++W8).toArray) 199 λb5 w h=>bS<|G<|EM H λo8 H LL=>λ_ r=>cW (β:=Unit) (λ_ a w=>∃l6:List Int,l6=o8/\∃j,jY 191 (lk [(0,pA B0 0),(2,aW v5 p2.length xG),(3,Z p3),(5,pA b4 0),(10,pA b5 0)] j) a/\Fit z (aD (Eg B0 O (aW aN aF.length bq) ju jy::Ba ju jy O.bL::RA b4 Y::fS b5 (([Z ((O.bL.length:Nat):Int),Z p3]++eA 16 aK l6++eA 8 aK (List.replicate 8 (0:Int))++W8).toArray) 199::L)) w) ?_ ?_
  ·refine qq r<|gP<|wb<|λ_ r=>dr (β:=Nat) id (λm a w=>∃l9:List Int,∃G4:Int,(ik K p2 m l9 G4)=some o8/\∃j,jY 191 (lk [(0,pA B0 0),(2,aW v5 p2.length xG),(3,Z p3),(5,pA b4 0),(10,pA b5 0),(11,Z G4)] j) a/\Fit z (aD (Eg B0 O (aW aN aF.length bq) ju jy::Ba ju jy O.bL::RA b4 Y::fS b5 (([Z ((O.bL.length:Nat):Int),Z p3]++eA 16 aK l9++eA 8 aK (List.replicate 8 (0:Int))++W8).toArray) 199::L)) w) K ⟨(List.replicate 16 (0:Int)),0,H,r.fj (h.se 4 [2,3,1,0])⟩<|?_;clear h r H;rintro k1 a w ⟨l9,G4,H,j,r,h⟩;cases k1 with
   | zero=>exact absurd H (by simp[ik])
   | succ k1 =>
    rw[ik]at H;refine qq r<|wq<|aL [U,U,Z ((p2.length:Nat):Int),dm (G4<((p2.length:Nat):Int))]<|G<|dK H (λvH H=>?_) λvH H=>?_
    ·refine fT<|wq<|wb<|qg H λEt H=>qg H λyI H=>mJ [(dJ v5,jf v5+G4.toNat*1,[Z (J p2 G4.toNat)])] [4,6,7] 10 h (λh=>⟨⟨Cu.cell Et (h.dn 4) 0 rfl,bR⟩,bR⟩) λw h hd =>mg hd 6 [(0,28,pA b5 0),(1,29,Z G4),(2,30,aW v5 p2.length xG),(3,31,Z G4)]<|nr hd 5 4 rfl (pA (dJ v5) (jf v5+G4.toNat*1)) (λw=>Ff 2 xG rfl rfl Cu Et)<|mg hd 3 [(6,34,pA b5 0),(7,35,pA b5 2)]<|eI hd 0 2 5 rfl<|nr hd 1 8 rfl (pA b5 (2+G4.toNat*1)) (λw=>vy (k:=.i64) (E:=2) (N:=16) rfl aZ aZ aZ aZ yI)<|λ_ r=>lj 9 rfl<|qh h.m3 λh=>tY (C:=[Z ((O.bL.length:Nat):Int),Z p3]++eA 16 aK l9++eA 8 aK (List.replicate 8 (0:Int))++W8) (C':=[Z ((O.bL.length:Nat):Int),Z p3]++eA 16 aK (mL 16 l9 G4.toNat (J p2 G4.toNat))++eA 8 aK (List.replicate 8 (0:Int))++W8) (v:=Z (J p2 G4.toNat)) (wn rfl) rfl r rfl aZ aZ rfl rfl aZ h (po (f:=0) (pre:=[Z ((O.bL.length:Nat):Int),Z p3]) (post:=eA 8 aK (List.replicate 8 (0:Int))++W8) rfl aJ rfl (kX yI) rfl) (vb (y:=(J p2 G4.toNat)) (pre:=[Z ((O.bL.length:Nat):Int),Z p3]) (post:=eA 8 aK (List.replicate 8 (0:Int))++W8) rfl aJ rfl (kX yI) rfl rfl) λw h=>qq r<|G<|mu<|mM<|bn<|tn<|wl<|ko [U,Z (wi (G4+1)),Z (wi (G4+1))]<|G<|?_;exact λ_ r=>⟨_,⟨(mL 16 l9 G4.toNat (J p2 G4.toNat)),(wi (G4+1)),H,r.fj (h.se 4 [1,2,3,0])⟩,ie _⟩
    refine wx<|te<|te<|bh<|tn<|?_;exact λ_ r=>⟨(),l9,fV H,r.fj h⟩
  clear h r;rintro _ a w ⟨l6,rfl,j,r,h⟩;replace H:=EK LL;refine qq r<|ks<|qg H λxF H=>ko kJ<|kp (pA b5 (2+0*1)) (vy (i:=(0:Int)) (k:=.i64) (E:=2) (N:=16) rfl aZ aZ aZ aZ xF)<|zz (Z (J l6 0)) ((h.pick 3).cell (2+0*1) (Xu (po (C:=[Z ((O.bL.length:Nat):Int),Z p3]++eA 16 aK l6++eA 8 aK (List.replicate 8 (0:Int))++W8) (f:=0) (pre:=[Z ((O.bL.length:Nat):Int),Z p3]) (post:=eA 8 aK (List.replicate 8 (0:Int))++W8) rfl aJ rfl (kX xF) rfl)))<|?_;refine bS<|qh h.m2 λh=>kS h 5 (RA b4 {Y with Arg:=(J l6 0)}) λw h=>G<|EM H λQJ H Cj=>λ_ r=>cW (β:=Unit) (λ_ a w=>∃RJ:Int,RJ=QJ/\∃j,jY 191 (lk [(0,pA B0 0),(3,Z p3),(5,pA b4 0),(10,pA b5 0)] j) a/\Fit z (aD (Eg B0 O (aW aN aF.length bq) ju jy::Ba ju jy O.bL::fS b4 (tF {Y with Arg:=RJ}) 167::fS b5 (([Z ((O.bL.length:Nat):Int),Z p3]++eA 16 aK l6++eA 8 aK (List.replicate 8 (0:Int))++W8).toArray) 199::L)) w) ?_ ?_
  ·refine qq r<|aL [U,Z ((p2.length:Nat):Int),vB (((p2.length:Nat):Int)==0)]<|G<|dK H (λBz H=>?_) λBz H=>?_
   ·refine wl<|bS<|kS h 5 (RA b4 {Y with Arg:=0}) λw h=>G<|?_;exact λ_ r=>⟨(),0,fV H,r.fj (h.se 4 [1,2,0,3])⟩
   refine fT<|?_;exact λ_ r=>⟨(),(J l6 0),fV H,r.fj (h.se 4 [1,2,0,3])⟩
  clear h r;rintro _ a w ⟨RJ,rfl,j,r,h⟩;replace H:=EK Cj;refine qq r<|wq<|qg H λF5 H=>mJ [(B0,3,[aW ju O.bL.length jy]),(b4,0,Ky {Y with Arg:=RJ})] [2,3] 11 h (λh=>⟨⟨h.cell 3 rfl,bR⟩,((h.pick 2).held 0 rfl),bR⟩) λw h hd =>lW hd 7 47 [([0,1,2],pA B0 0),([3],pA B0 3)]<|eI hd 0 6 4 rfl<|yh hd 1 5 5 rfl rfl<|lB 6 rfl<|kV h (tF {Y with Arg:=RJ}) 167 λb19 w h=>G<|λ_ r=>xE<|lj 7 rfl<|qh h.m2 λh=>jU (n0:=O.bL.length) (c:=1) (bytes:=56) (wn rfl) rfl rfl r rfl aZ aZ oH (E:=167) (xs:=O.bL) aZ aZ h (news:=[{Y with Arg:=RJ}]) (m:=1) rfl ((h.pick 1).news rfl) F5 rfl λabn abo w _ h r=>qq r<|G<|mu<|iF 2 8 rfl (pA B0 0)<|iF 1 9 rfl (pA B0 3)<|lB 10 rfl<|qh h.m2 λh=>kS h 3 (Wk B0 O (aW aN aF.length bq) abn abo ((O.bL++[{Y with Arg:=RJ}]).length)) λw h=>G<|mu<|mM<|tn<|aL yj<|kL h 4<|ko [U,Z (if p3>O.Deep then p3 else O.Deep),U,U]<|kS h 4 (fS B0 #[aW aN aF.length bq,Z O.Left,Z O.xd,aW abn (O.bL++[{Y with Arg:=RJ}]).length abo,Z (if p3>O.Deep then p3 else O.Deep)] 163) λw h=>G<|wq<|wb<|λ_ r=>dr (β:=Nat) id (λm a w=>∃vt:fB,∃yl:Nat,∃jV:bH,∃cZ:dR,(eG K aF Y (fK K d) m jV cZ)=some (r0,r1,q0)/\∃j,jY 191 (lk [(0,pA B0 0),(5,pA b4 0),(10,pA b5 0)] j) a/\Fit z (aD (Eg B0 jV (aW aN aF.length bq) vt yl::Ba vt yl jV.bL::fS b4 (tF {Y with Arg:=RJ}) 167::Eh b5 cZ::L)) w) K ⟨abn,abo,({O with bL:=O.bL++[{Y with Arg:=RJ}],Deep:=if p3>O.Deep then p3 else O.Deep}),(⟨((O.bL.length:Nat):Int),p3,l6,(List.replicate 8 (0:Int)),0,0,0,0⟩:dR),H,r.fj (h.se 5 [0,1,3,4])⟩<|?_;clear h r H;rintro k2 a w ⟨vt,yl,jV,cZ,H,j,r,h⟩;cases k2 with
  | zero=>exact absurd H (by simp[eG])
  | succ k2 =>
   rw[eG]at H;refine qq r<|wq<|aL kJ<|kL h 2<|ko [vB (jV.xd==0)]<|G<|dK H (λsX H=>?_) λsX H=>?_
   ·refine fT<|wb<|wq<|aL kJ<|kL h 1<|ko [vB (jV.Left==0)]<|G<|dK H (λBk H=>?_) λBk H=>?_
    ·refine aL kJ<|kS h 2 (fS B0 #[aW aN aF.length bq,Z jV.Left,Z 62,aW vt jV.bL.length yl,Z jV.Deep] 163) λw h=>G<|wx<|te<|λ_ r=>Di gB<|qq r<|te<|bh<|tn<|aL da<|bY<|?_;cases H;exact xz2 vt yl (h.se 4 [0,1])
    refine fT<|aL kJ<|kL h 1<|ko [Z (wi (jV.Left-1)),U,U]<|kS h 1 (fS B0 #[aW aN aF.length bq,Z (wi (jV.Left-1)),Z jV.xd,aW vt jV.bL.length yl,Z jV.Deep] 163) λw h=>G<|wq<|qg H λBw H=>qg H λvD H=>mJ [(B0,0,[aW aN aF.length bq]),(b4,2,[Z Y.Func]),(dJ aN,jf aN+Y.Func.toNat*4+3,[aW ((cB Y.Func.toNat).1) (J aF Y.Func.toNat).ai.length ((cB Y.Func.toNat).2)]),(b5,26,[Z cZ.At]),(dJ ((cB Y.Func.toNat).1),jf ((cB Y.Func.toNat).1)+cZ.At.toNat*5,gq (J (J aF Y.Func.toNat).ai cZ.At.toNat))] [1,2,3,5,7,8,11,12,14] 18 h (λh=>⟨⟨h.cell 0 rfl,bR⟩,⟨(h.pick 2).cell 2 rfl,bR⟩,⟨cF.cell Bw (h.dn 4) 3 rfl,bR⟩,⟨(h.pick 3).cell 26 rfl,bR⟩,⟨(cF.vT Bw).cell vD (h.dn 4) 0 rfl,(cF.vT Bw).cell vD (h.dn 4) 1 rfl,(cF.vT Bw).cell vD (h.dn 4) 2 rfl,(cF.vT Bw).cell vD (h.dn 4) 3 rfl,(cF.vT Bw).cell vD (h.dn 4) 4 rfl,bR⟩,bR⟩) λw h hd =>lW hd 10 86 [([0,1,2,3],pA B0 0),([5],pA b4 2),([10,11],pA b5 0),([12],pA b5 26)]<|eI hd 0 9 4 rfl<|eI hd 1 8 6 rfl<|nr hd 7 7 rfl (pA (dJ aN) (jf aN+Y.Func.toNat*4)) (λw=>Dz 85 bq rfl rfl cF Bw)<|mg hd 6 [(8,94,pA (dJ aN) (jf aN+Y.Func.toNat*4+3))]<|eI hd 2 5 9 rfl<|eI hd 3 4 13 rfl<|nr hd 3 14 rfl (pA (dJ ((cB Y.Func.toNat).1)) (jf ((cB Y.Func.toNat).1)+cZ.At.toNat*5)) (λw=>Ff 132 ((cB Y.Func.toNat).2) rfl rfl (cF.vT Bw) vD)<|yh hd 4 2 15 rfl rfl<|lB 16 rfl<|kN h (DA) 132 λb31 w h=>G<|λ_ r=>xE<|lj 17 rfl<|qq r<|kA h (wD b31 (J (J aF Y.Func.toNat).ai cZ.At.toNat)) λw h=>G<|mu<|mM<|tn<|aL kJ<|kL (h.pick 4) 26<|ko [Z (wi (cZ.At+1)),U,U]<|qh h.m4 λh=>kS h 26 (Eh b5 {cZ with At:=wi (cZ.At+1)}) λw h=>G<|aL kJ<|kL h 27<|bS<|G<|aL kJ<|kL h 27<|ko [Z (wi (cZ.ey+1)),U,U]<|kS h 27 (Eh b5 {cZ with At:=wi (cZ.At+1),ey:=wi (cZ.ey+1)}) λw h=>G<|wq<|qg H λEP H=>mJ [(B0,3,[aW vt jV.bL.length yl]),(b5,0,[Z cZ.Me]),(dJ vt,cZ.Me.toNat*7+3,[Z (J jV.bL cZ.Me.toNat).kT])] [1,2,5,6,8,9] 15 h (λh=>⟨⟨(h.pick 2).cell 3 rfl,bR⟩,⟨h.cell 0 rfl,bR⟩,⟨(h.pick 3).cy oH (f:=3) (bj EP) rfl,bR⟩,bR⟩) λw h hd =>lW hd 9 120 [([0,1],pA B0 0),([2],pA B0 3),([4,5,6],pA b5 0)]<|eI hd 0 8 3 rfl<|eI hd 1 7 7 rfl<|nr hd 6 8 rfl (pA (dJ vt) (cZ.Me.toNat*7)) (λw=>uI 167 rfl (h.pick 3) EP)<|mg hd 5 [(9,129,pA (dJ vt) (cZ.Me.toNat*7+3))]<|eI hd 2 4 10 rfl<|mg hd 3 [(11,131,Z (wi ((J jV.bL cZ.Me.toNat).kT+1)))]<|nr hd 2 12 rfl (pA (dJ vt) (cZ.Me.toNat*7)) (λw=>uI 167 rfl (h.pick 3) EP)<|?_
    refine mg hd 1 [(13,133,pA (dJ vt) (cZ.Me.toNat*7+3))]<|λ_ r=>lj 14 rfl<|qh h.m3 λh=>Lr (wn rfl) r oH h cZ.Me.toNat 3 (Z (wi ((J jV.bL cZ.Me.toNat).kT+1))) (J jV.bL cZ.Me.toNat) ({J jV.bL cZ.Me.toNat with kT:=wi ((J jV.bL cZ.Me.toNat).kT+1)}) (bj EP) λw h=>qq r<|G<|mu<|mM<|tn<|aL [U]<|kL (h.pick 2) 0<|G<|wb<|aL [vB ((J (J aF Y.Func.toNat).ai cZ.At.toNat).aG==5),vB ((J (J aF Y.Func.toNat).ai cZ.At.toNat).aG==5)]<|G<|dK H (λCf H=>?_) λCf H=>?_
    ·refine wl<|ko da<|kM (h.pick 2)<|?_;intro _ r;refine CF (wn rfl) rfl rfl r (f:=118) (args:=#[pA B0 0,pA b5 0,gO (J (J aF Y.Func.toNat).ai cZ.At.toNat)]) aZ ?_;clear r;refine enter func118 rfl 112 rfl rfl [(0,pA B0 0),(1,pA b5 0),(2,gO (J (J aF Y.Func.toNat).ai cZ.At.toNat))] ⟨aZ,aZ,aZ,bR⟩ ?_;intro j a r;refine qq r<|ks<|kN h (lP (J (J aF Y.Func.toNat).ai cZ.At.toNat)) 132 λTZ w h=>G<|wq<|aL kJ<|kL (h.pick 2) 1<|ko [dm (cZ.iP>=4096)]<|G<|dK H (λI7 H=>?_) λI7 H=>?_
     ·refine aL kJ<|qh h.m4 λh=>kS h 2 (fS B0 #[aW aN aF.length bq,Z (wi (jV.Left-1)),Z 63,aW vt jV.bL.length yl,Z jV.Deep] 163) λw h=>bY<|tr<|λ_ r=>Iy rfl r<|?_;refine⟨_,rfl,?_⟩;clear r;intro a r;refine qq r<|kl<|bn<|bn<|tn<|qh h.m2 λh=>?_;replace h:=h.Lt (λq_=>fS B0 #[aW aN aF.length bq,Z (wi (jV.Left-1)),Z 63,aW vt q_ yl,Z jV.Deep] 163);exact λ_ r=>⟨_,⟨vt,yl,(⟨wi (jV.Left-1),63,jV.bL.set cZ.Me.toNat ({J jV.bL cZ.Me.toNat with kT:=wi ((J jV.bL cZ.Me.toNat).kT+1)}),jV.Deep⟩:bH),({cZ with At:=wi (cZ.At+1),ey:=wi (cZ.ey+1)}),H,r.fj (h.se 6 [1,0,5,3])⟩,ie _⟩
     refine fT<|gP<|EM H λo43 H afb=>λ_ r=>cW (β:=Unit) (λ_ a w=>∃Qb:fB,∃YS:Nat,∃Wl:fB,∃Wm:Nat,∃l41:List Int,l41=o43/\∃j,jY 112 (lk [(0,pA B0 0),(1,pA b5 0),(5,pA TZ 0),(6,aW Wl l41.length Wm)] j) a/\Fit z (aD (fS B0 #[aW aN aF.length bq,Z (wi (jV.Left-1)),Z jV.xd,aW Qb (jV.bL.set cZ.Me.toNat ({J jV.bL cZ.Me.toNat with kT:=wi ((J jV.bL cZ.Me.toNat).kT+1)})).length YS,Z jV.Deep] 163::Ba Qb YS (jV.bL.set cZ.Me.toNat ({J jV.bL cZ.Me.toNat with kT:=wi ((J jV.bL cZ.Me.toNat).kT+1)}))::fS b5 (wH {cZ with At:=wi (cZ.At+1),ey:=wi (cZ.ey+1)}) 199::wD TZ (J (J aF Y.Func.toNat).ai cZ.At.toNat)::XD Wl Wm l41::fS b4 (tF {Y with Arg:=RJ}) 167::L)) w) ?_ ?_
     ·refine qq r<|gP<|wb<|qh h.m4.m2 λh=>?_;replace h:=h.Lt (λq_=>fS B0 #[aW aN aF.length bq,Z (wi (jV.Left-1)),Z jV.xd,aW vt q_ yl,Z jV.Deep] 163);replace h:=h.fC (e:=2) (sz:=1) (enc:=aK);refine λ_ r=>dr (β:=Nat) id (λm a w=>∃Fj:fB,∃Fk:Nat,∃vL:fB,∃yn:Nat,∃xI:List Int,∃JH:Int,(iq K aF Y cZ m xI JH)=some o43/\∃j,jY 112 (lk [(0,pA B0 0),(1,pA b5 0),(5,pA TZ 0),(6,aW vL xI.length yn),(7,Z JH)] j) a/\Fit z (aD (fS B0 #[aW aN aF.length bq,Z (wi (jV.Left-1)),Z jV.xd,aW Fj (jV.bL.set cZ.Me.toNat ({J jV.bL cZ.Me.toNat with kT:=wi ((J jV.bL cZ.Me.toNat).kT+1)})).length Fk,Z jV.Deep] 163::Ba Fj Fk (jV.bL.set cZ.Me.toNat ({J jV.bL cZ.Me.toNat with kT:=wi ((J jV.bL cZ.Me.toNat).kT+1)}))::fS b5 (wH {cZ with At:=wi (cZ.At+1),ey:=wi (cZ.ey+1)}) 199::wD TZ (J (J aF Y.Func.toNat).ai cZ.At.toNat)::XD vL yn xI::fS b4 (tF {Y with Arg:=RJ}) 167::L)) w) K ⟨vt,yl,none,0,([]:List Int),0,H,r.fj (h.se 7 [2,1,4,3,0,6])⟩<|?_;clear h r H;rintro k3 a w ⟨Fj,Fk,vL,yn,xI,JH,H,j,r,h⟩;cases k3 with
      | zero=>exact absurd H (by simp[iq])
      | succ k3 =>
       rw[iq]at H;refine qq r<|wq<|wq<|qg H λc51 H=>mJ [(B0,0,[aW aN aF.length bq]),(TZ,2,[Z (J (J aF Y.Func.toNat).ai cZ.At.toNat).B]),(dJ aN,jf aN+(J (J aF Y.Func.toNat).ai cZ.At.toNat).B.toNat*4,[Z (J aF (J (J aF Y.Func.toNat).ai cZ.At.toNat).B.toNat).aS])] [2,3,4,6,8,9] 12 h (λh=>⟨⟨h.cell 0 rfl,bR⟩,⟨(h.pick 3).cell 2 rfl,bR⟩,⟨cF.cell c51 (h.dn 6) 0 rfl,bR⟩,bR⟩) λw h hd =>lW hd 6 19 [([0],Z JH),([1,2,3,4],pA B0 0),([6],pA TZ 2)]<|eI hd 0 5 5 rfl<|eI hd 1 4 7 rfl<|nr hd 3 8 rfl (pA (dJ aN) (jf aN+(J (J aF Y.Func.toNat).ai cZ.At.toNat).B.toNat*4)) (λw=>Dz 85 bq rfl rfl cF c51)<|mg hd 2 [(9,28,pA (dJ aN) (jf aN+(J (J aF Y.Func.toNat).ai cZ.At.toNat).B.toNat*4))]<|eI hd 2 1 10 rfl<|mg hd 0 [(11,30,dm (JH<(J aF (J (J aF Y.Func.toNat).ai cZ.At.toNat).B.toNat).aS))]<|mM<|tn<|dK H (λc52 H=>?_) λc52 H=>?_
       ·refine fT<|wq<|wb<|qg H λc53 H=>qg H λUY H=>mJ [(TZ,3,[Z (J (J aF Y.Func.toNat).ai cZ.At.toNat).C]),(b5,2+(wi ((J (J aF Y.Func.toNat).ai cZ.At.toNat).C+JH)).toNat*1,[Z (J cZ.s7 (wi ((J (J aF Y.Func.toNat).ai cZ.At.toNat).C+JH)).toNat)])] [2,5,6,7,8] 13 h (λh=>⟨⟨(h.pick 3).cell 3 rfl,bR⟩,⟨(h.pick 2).cell (2+(wi ((J (J aF Y.Func.toNat).ai cZ.At.toNat).C+JH)).toNat*1) (Xu (po (C:=[Z cZ.Me,Z cZ.iP]++eA 16 aK cZ.s7++eA 8 aK cZ.ny++[Z (wi (cZ.At+1)),Z (wi (cZ.ey+1)),Z cZ.End,Z cZ.Kids]) (f:=0) (pre:=[Z cZ.Me,Z cZ.iP]) (post:=eA 8 aK cZ.ny++[Z (wi (cZ.At+1)),Z (wi (cZ.ey+1)),Z cZ.End,Z cZ.Kids]) rfl aJ rfl (kX c53) rfl)),bR⟩,bR⟩) λw h hd =>lW hd 7 33 [([0],aW vL xI.length yn),([1,6],pA b5 0),([2],pA TZ 3),([4],Z JH),([7],pA b5 2)]<|eI hd 0 6 3 rfl<|mg hd 5 [(5,38,Z (wi ((J (J aF Y.Func.toNat).ai cZ.At.toNat).C+JH)))]<|nr hd 4 8 rfl (pA b5 (2+(wi ((J (J aF Y.Func.toNat).ai cZ.At.toNat).C+JH)).toNat*1)) (λw=>vy (k:=.i64) (E:=2) (N:=16) rfl aZ aZ aZ aZ c53)<|eI hd 1 3 9 rfl<|lB 10 rfl<|kV h (#[Z (J cZ.s7 (wi ((J (J aF Y.Func.toNat).ai cZ.At.toNat).C+JH)).toNat)]) 2 λb54 w h=>G<|λ_ r=>xE<|lj 11 rfl<|qh h.m5 λh=>jU (n0:=xI.length) (c:=1) (bytes:=8) (wn rfl) rfl rfl r rfl aZ aZ aJ (E:=2) (xs:=xI) aZ aZ h (news:=[(J cZ.s7 (wi ((J (J aF Y.Func.toNat).ai cZ.At.toNat).C+JH)).toNat)]) (m:=1) rfl ((h.pick 1).news rfl) UY rfl λFD FE w _ h r=>qq r<|G<|mu<|iF 0 12 rfl (aW FD (xI++[(J cZ.s7 (wi ((J (J aF Y.Func.toNat).ai cZ.At.toNat).C+JH)).toNat)]).length FE)<|mM<|bn<|tn<|wl<|ko [U,Z (wi (JH+1)),Z (wi (JH+1))]<|G<|?_;exact λ_ r=>⟨_,⟨Fj,Fk,FD,FE,(xI++[(J cZ.s7 (wi ((J (J aF Y.Func.toNat).ai cZ.At.toNat).C+JH)).toNat)]),(wi (JH+1)),H,r.fj (h.se 7 [2,3,4,5,0,6])⟩,ie _⟩
       refine wx<|te<|te<|bh<|tn<|?_;exact λ_ r=>⟨(),Fj,Fk,vL,yn,xI,fV H,r.fj h⟩
     clear h r;rintro _ a w ⟨Qb,YS,Wl,Wm,l41,rfl,j,r,h⟩;replace H:=EK afb;refine qq r<|wq<|qg H λc58 H=>fP H λW1 e60 H=>mJ [(B0,3,[aW Qb (jV.bL.set cZ.Me.toNat ({J jV.bL cZ.Me.toNat with kT:=wi ((J jV.bL cZ.Me.toNat).kT+1)})).length YS]),(b5,0,[Z cZ.Me]),(dJ Qb,cZ.Me.toNat*7+4,[Z (J (jV.bL.set cZ.Me.toNat ({J jV.bL cZ.Me.toNat with kT:=wi ((J jV.bL cZ.Me.toNat).kT+1)})) cZ.Me.toNat).FM]),(b5,29,[Z cZ.Kids])] [1,2,5,6,8,9,12,13] 17 h (λh=>⟨⟨h.cell 3 rfl,bR⟩,⟨(h.pick 2).cell 0 rfl,bR⟩,⟨(h.pick 1).cy oH (f:=4) (bj c58) rfl,bR⟩,⟨(h.pick 2).cell 29 rfl,bR⟩,bR⟩) λw h hd =>lW hd 8 45 [([0,1],pA B0 0),([2],pA B0 3),([4,5,6,11,12],pA b5 0),([13],pA b5 29)]<|eI hd 0 7 3 rfl<|eI hd 1 6 7 rfl<|nr hd 5 8 rfl (pA (dJ Qb) (cZ.Me.toNat*7)) (λw=>uI 167 rfl (h.pick 1) c58)<|mg hd 4 [(9,54,pA (dJ Qb) (cZ.Me.toNat*7+4))]<|eI hd 2 3 10 rfl<|eI hd 3 2 14 rfl<|lB 15 rfl<|eW (EH e60 h :) λw h=>G<|mu<|iF 0 16 rfl (Z W1)<|mM<|tn<|wq<|vg H λES Ec Q1 e64 H=>mJ [(b5,0,[Z cZ.Me]),(b5,29,[Z cZ.Kids]),(TZ,2,[Z (J (J aF Y.Func.toNat).ai cZ.At.toNat).B]),(b5,1,[Z cZ.iP])] [2,3,6,7,9,12,15,16,18] 25 h (λh=>⟨⟨(h.pick 2).cell 0 rfl,bR⟩,⟨(h.pick 2).cell 29 rfl,bR⟩,⟨(h.pick 3).cell 2 rfl,bR⟩,⟨(h.pick 2).cell 1 rfl,bR⟩,bR⟩) λw h hd =>lW hd 12 62 [([0],pA B0 0),([1,2,3,5,6,14,15],pA b5 0),([7],pA b5 29),([9],pA TZ 2),([11],Z W1),([13],aW Wl l41.length Wm),([16],pA b5 1)]<|eI hd 0 11 4 rfl<|eI hd 1 10 8 rfl<|eI hd 2 9 10 rfl<|mg hd 8 [(12,74,oV #[Z cZ.Me,Z cZ.Kids,Z (J (J aF Y.Func.toNat).ai cZ.At.toNat).B,Z 0,Z W1,Z 0,Z 0])]<|eI hd 3 7 17 rfl<|mg hd 6 [(18,80,Z (wi (cZ.iP+1)))]<|lB 19 rfl<|UE (ih (v5:=Wl) (xG:=Wm) (Cu:=(bI.FW aJ (h.pick 4) (λh=>(h.pick 2)))) (aN:=aN) (bq:=bq) (cF:=(yf.up 4 cF)) (cB:=cB) (H:=e64) (h:=h) :) λGh MR w h=>G<|mu<|iF 4 20 rfl (.tuple #[Z ES,Z Ec])<|iF 3 21 rfl (Z ES)<|iF 2 22 rfl (Z Ec)<|iF 1 23 rfl (Z ES)<|iF 0 24 rfl (Z Ec)<|mM<|tn<|aL kJ<|kL (h.pick 2) 29<|ko [Z (wi (cZ.Kids+1)),U,U]<|qh h.m2 λh=>kS h 29 (Eh b5 {cZ with At:=wi (cZ.At+1),ey:=wi (cZ.ey+1),Kids:=wi (cZ.Kids+1)}) λw h=>G<|wq<|qg H λXS H=>mJ [(TZ,1,[Z (J (J aF Y.Func.toNat).ai cZ.At.toNat).A])] [1,4,5] 8 h (λh=>⟨⟨(h.pick 3).cell 1 rfl,bR⟩,bR⟩) λw h hd =>lW hd 3 91 [([0,4],pA b5 0),([1],pA TZ 1),([3],Z ES),([5],pA b5 18)]<|eI hd 0 2 2 rfl<|nr hd 1 6 rfl (pA b5 (18+(J (J aF Y.Func.toNat).ai cZ.At.toNat).A.toNat*1)) (λw=>vy (k:=.i64) (E:=2) (N:=8) rfl aZ aZ aZ aZ XS)<|?_
     refine λ_ r=>lj 7 rfl<|tY (C:=[Z cZ.Me,Z cZ.iP]++eA 16 aK cZ.s7++eA 8 aK cZ.ny++[Z (wi (cZ.At+1)),Z (wi (cZ.ey+1)),Z cZ.End,Z (wi (cZ.Kids+1))]) (C':=[Z cZ.Me,Z cZ.iP]++eA 16 aK cZ.s7++eA 8 aK (mL 8 cZ.ny (J (J aF Y.Func.toNat).ai cZ.At.toNat).A.toNat ES)++[Z (wi (cZ.At+1)),Z (wi (cZ.ey+1)),Z cZ.End,Z (wi (cZ.Kids+1))]) (v:=Z ES) (wn rfl) rfl r rfl aZ aZ rfl rfl aZ h (po (f:=0) (pre:=[Z cZ.Me,Z cZ.iP]++eA 16 aK cZ.s7) (post:=[Z (wi (cZ.At+1)),Z (wi (cZ.ey+1)),Z cZ.End,Z (wi (cZ.Kids+1))]) rfl aJ rfl (kX XS) rfl) (vb (y:=ES) (pre:=[Z cZ.Me,Z cZ.iP]++eA 16 aK cZ.s7) (post:=[Z (wi (cZ.At+1)),Z (wi (cZ.ey+1)),Z cZ.End,Z (wi (cZ.Kids+1))]) rfl aJ rfl (kX XS) rfl rfl) λw h=>qq r<|G<|mu<|mM<|tn<|mJ [(b5,28,[Z cZ.End]),(b5,27,[Z (wi (cZ.ey+1))])] [2,3,6,7,10] 15 h (λh=>⟨⟨h.cell 28 rfl,bR⟩,⟨h.cell 27 rfl,bR⟩,bR⟩) λw h hd =>lW hd 7 98 [([0,1,2,5,6],pA b5 0),([3],pA b5 28),([7],pA b5 27),([9],Z Ec)]<|eI hd 0 6 4 rfl<|eI hd 1 5 8 rfl<|lW hd 1 98 [([10],Z (wi ((wi (cZ.ey+1))+Ec))),([11],Z (if(wi ((wi (cZ.ey+1))+Ec))>cZ.End then(wi ((wi (cZ.ey+1))+Ec))else cZ.End)),([12],pA b5 0),([13],pA b5 28)]<|lB 14 rfl<|kS h 28 (fS b5 (([Z cZ.Me,Z cZ.iP]++eA 16 aK cZ.s7++eA 8 aK (mL 8 cZ.ny (J (J aF Y.Func.toNat).ai cZ.At.toNat).A.toNat ES)++[Z (wi (cZ.At+1)),Z (wi (cZ.ey+1)),Z (if(wi ((wi (cZ.ey+1))+Ec))>cZ.End then(wi ((wi (cZ.ey+1))+Ec))else cZ.End),Z (wi (cZ.Kids+1))]).toArray) 199) λw h=>G<|λ_ r=>xE<|zN<|qO rfl r<|?_;refine⟨_,rfl,?_⟩;clear r;intro a r;refine qq r<|kl<|bn<|bn<|tn<|?_;exact λ_ r=>⟨_,⟨Gh,MR,Q1,(⟨cZ.Me,cZ.iP,cZ.s7,mL 8 cZ.ny (J (J aF Y.Func.toNat).ai cZ.At.toNat).A.toNat ES,wi (cZ.At+1),wi (cZ.ey+1),if(wi ((wi (cZ.ey+1))+Ec))>cZ.End then(wi ((wi (cZ.ey+1))+Ec))else cZ.End,wi (cZ.Kids+1)⟩:dR),H,r.fj (h.se 6 [1,2,5,0])⟩,ie _⟩
    refine aL [vB ((J (J aF Y.Func.toNat).ai cZ.At.toNat).aG==6),vB ((J (J aF Y.Func.toNat).ai cZ.At.toNat).aG==6)]<|G<|dK H (λc68 H=>?_) λc68 H=>?_
    ·refine aL Zo<|kL (h.pick 1) 28<|ko [Z (if cZ.End>cZ.ey then cZ.End else cZ.ey),Z (wi ((if cZ.End>cZ.ey then cZ.End else cZ.ey)+1)),U,U]<|qh h.m1 λh=>kS h 27 (Eh b5 {cZ with At:=wi (cZ.At+1),ey:=wi ((if cZ.End>cZ.ey then cZ.End else cZ.ey)+1)}) λw h=>G<|wl<|ko kJ<|kS h 28 (Eh b5 {cZ with At:=wi (cZ.At+1),ey:=wi ((if cZ.End>cZ.ey then cZ.End else cZ.ey)+1),End:=0}) λw h=>kl<|bn<|bn<|tn<|qh h.m3.m2 λh=>?_;replace h:=h.Lt (λq_=>fS B0 #[aW aN aF.length bq,Z (wi (jV.Left-1)),Z jV.xd,aW vt q_ yl,Z jV.Deep] 163);exact λ_ r=>⟨_,⟨vt,yl,({jV with Left:=wi (jV.Left-1),bL:=jV.bL.set cZ.Me.toNat ({J jV.bL cZ.Me.toNat with kT:=wi ((J jV.bL cZ.Me.toNat).kT+1)})}),({cZ with At:=wi (cZ.At+1),ey:=wi ((if cZ.End>cZ.ey then cZ.End else cZ.ey)+1),End:=0}),H,r.fj (h.se 5 [1,0,4,2])⟩,ie _⟩
    refine aL [vB ((J (J aF Y.Func.toNat).ai cZ.At.toNat).aG==9),vB ((J (J aF Y.Func.toNat).ai cZ.At.toNat).aG==9)]<|G<|dK H (λc70 H=>?_) λc70 H=>?_
    ·refine wq<|qg H λc71 H=>qg H λc72 H=>mJ [(B0,3,[aW vt jV.bL.length yl]),(b5,0,[Z cZ.Me]),(b31,1,[Z (J (J aF Y.Func.toNat).ai cZ.At.toNat).A]),(b5,2+(J (J aF Y.Func.toNat).ai cZ.At.toNat).A.toNat*1,[Z (J cZ.s7 (J (J aF Y.Func.toNat).ai cZ.At.toNat).A.toNat)])] [1,2,5,6,9,11,12,13] 18 h (λh=>⟨⟨(h.pick 3).cell 3 rfl,bR⟩,⟨(h.pick 1).cell 0 rfl,bR⟩,⟨(h.pick 2).cell 1 rfl,bR⟩,⟨(h.pick 1).cell (2+(J (J aF Y.Func.toNat).ai cZ.At.toNat).A.toNat*1) (Xu (po (C:=[Z cZ.Me,Z cZ.iP]++eA 16 aK cZ.s7++eA 8 aK cZ.ny++[Z (wi (cZ.At+1)),Z (wi (cZ.ey+1)),Z cZ.End,Z cZ.Kids]) (f:=0) (pre:=[Z cZ.Me,Z cZ.iP]) (post:=eA 8 aK cZ.ny++[Z (wi (cZ.At+1)),Z (wi (cZ.ey+1)),Z cZ.End,Z cZ.Kids]) rfl aJ rfl (kX c71) rfl)),bR⟩,bR⟩) λw h hd =>lW hd 8 163 [([0,1],pA B0 0),([2],pA B0 3),([4,5,6,8,11],pA b5 0),([9],pA b31 1),([12],pA b5 2)]<|eI hd 0 7 3 rfl<|eI hd 1 6 7 rfl<|eI hd 2 5 10 rfl<|nr hd 4 13 rfl (pA b5 (2+(J (J aF Y.Func.toNat).ai cZ.At.toNat).A.toNat*1)) (λw=>vy (k:=.i64) (E:=2) (N:=16) rfl aZ aZ aZ aZ c71)<|eI hd 3 3 14 rfl<|nr hd 2 15 rfl (pA (dJ vt) (cZ.Me.toNat*7)) (λw=>uI 167 rfl h c72)<|mg hd 1 [(16,179,pA (dJ vt) (cZ.Me.toNat*7+6))]<|λ_ r=>lj 17 rfl<|Lr (wn rfl) r oH h cZ.Me.toNat 6 (Z (J cZ.s7 (J (J aF Y.Func.toNat).ai cZ.At.toNat).A.toNat)) {J jV.bL cZ.Me.toNat with kT:=wi ((J jV.bL cZ.Me.toNat).kT+1)} ({{J jV.bL cZ.Me.toNat with kT:=wi ((J jV.bL cZ.Me.toNat).kT+1)}with V:=(J cZ.s7 (J (J aF Y.Func.toNat).ai cZ.At.toNat).A.toNat)}) (dD ((fc (by simpa [bJ]using c72)))) λw h=>qq r<|G<|mu<|mM<|tn<|wq<|mJ [(b31,1,[Z (J (J aF Y.Func.toNat).ai cZ.At.toNat).A]),(b5,2+(J (J aF Y.Func.toNat).ai cZ.At.toNat).A.toNat*1,[Z (J cZ.s7 (J (J aF Y.Func.toNat).ai cZ.At.toNat).A.toNat)]),(b5,27,[Z (wi (cZ.ey+1))])] [1,3,4,5,8,9] 13 h (λh=>⟨⟨(h.pick 2).cell 1 rfl,bR⟩,⟨(h.pick 1).cell (2+(J (J aF Y.Func.toNat).ai cZ.At.toNat).A.toNat*1) (Xu (po (C:=[Z cZ.Me,Z cZ.iP]++eA 16 aK cZ.s7++eA 8 aK cZ.ny++[Z (wi (cZ.At+1)),Z (wi (cZ.ey+1)),Z cZ.End,Z cZ.Kids]) (f:=0) (pre:=[Z cZ.Me,Z cZ.iP]) (post:=eA 8 aK cZ.ny++[Z (wi (cZ.At+1)),Z (wi (cZ.ey+1)),Z cZ.End,Z cZ.Kids]) rfl aJ rfl (kX c71) rfl)),bR⟩,⟨(h.pick 1).cell 27 rfl,bR⟩,bR⟩) λw h hd =>lW hd 6 180 [([0,3,7,8],pA b5 0),([1],pA b31 1),([4],pA b5 2),([9],pA b5 27)]<|eI hd 0 5 2 rfl<|nr hd 4 5 rfl (pA b5 (2+(J (J aF Y.Func.toNat).ai cZ.At.toNat).A.toNat*1)) (λw=>vy (k:=.i64) (E:=2) (N:=16) rfl aZ aZ aZ aZ c71)<|eI hd 1 3 6 rfl<|mg hd 2 [(11,8,Z (J cZ.s7 (J (J aF Y.Func.toNat).ai cZ.At.toNat).A.toNat))]<|eI hd 2 1 10 rfl<|mg hd 0 [(12,9,Z (wi (cZ.ey+1)))]<|mM<|tn<|wr<|br<|br<|tr<|br<|tr<|λ_ r=>Er (Z (J cZ.s7 (J (J aF Y.Func.toNat).ai cZ.At.toNat).A.toNat)) (Z (wi (cZ.ey+1))) rfl r<|qh h.m3.m1 λh=>?_;replace h:=h.Lt (λq_=>fS B0 #[aW aN aF.length bq,Z (wi (jV.Left-1)),Z jV.xd,aW vt q_ yl,Z jV.Deep] 163);cases H;exact⟨vt,yl,rfl,h.se 5 [1,0]⟩
    refine wl<|ko da<|kM (h.pick 2)<|qh h.m3.m1 λh=>?_;replace h:=h.Lt (λq_=>fS B0 #[aW aN aF.length bq,Z (wi (jV.Left-1)),Z jV.xd,aW vt q_ yl,Z jV.Deep] 163);refine fP H λSs e76 H=>qh h.m2.m1.m2 λh=>eW (Ah (aN:=aN) (bq:=bq) (cF:=(yf.up 2 cF)) (cB:=cB) e76 h :) λw h=>kl<|bn<|bn<|tn<|?_;exact λ_ r=>⟨_,⟨vt,yl,({jV with Left:=wi (jV.Left-1),bL:=jV.bL.set cZ.Me.toNat ({J jV.bL cZ.Me.toNat with kT:=wi ((J jV.bL cZ.Me.toNat).kT+1)})}),Ss,H,r.fj (h.se 5 [0,1,4,2])⟩,ie _⟩
   refine wx<|te<|te<|bh<|tn<|aL da<|bY<|?_;cases H;exact xz2 vt yl (h.se 4 [0,1])
theorem Bd{q0:bH}(H:rC K O aF Y p2 p3=some (r0,r1,q0))(h:iJ z (Eg B0 O (aW aN aF.length bq) ju jy::Ba ju jy O.bL::L) w)(cF:zb L aN cB aF)(Cu:bI L 1 aK v5 p2) :
 c2_ 80 #[pA B0 0,Ef Y,aW v5 p2.length xG,Z p3] w z (.tuple #[Z r0,Z r1]) λx1 x2=>Eg B0 q0 (aW aN aF.length bq) x1 x2::Ba x1 x2 q0.bL::L:=by
 unfold rC at H;exact zk K H h cF Cu
def uz(K:Nat)(O:aE)(Y:List Int)(p2:Int):Option (pM×(List fm)×Int):=
 dX (oZ K O Y p2) (λr6=>(if r6=0 then rN (rC K (⟨p2,0,([]:List fm),0⟩:bH) O.ah (⟨-1,0,0,0,1,0,0⟩:fm) Y 1) (λzQ vC FN=>(if FN.xd=0 then some ((⟨zQ,wi (p2-FN.Left),((FN.bL.length:Nat):Int),FN.Deep,vC⟩:pM),FN.bL,0)else some ((⟨0,0,0,0,0⟩:pM),([]:List fm),FN.xd)))else some ((⟨0,0,0,0,0⟩:pM),([]:List fm),r6)))
abbrev z5_:List Value:=[Z 0,Z 0,Z 0,Z 0,Z 0]
theorem DW(H:uz K O Y p2=some (r0,r1,r2))(h:iJ z (L) w)(aP:zb L aT aI O.ah)(F8:bI L 1 aK ER Y) :
 Calls Tryz.prog 42 #[oV #[aW aT O.ah.length bt],aW ER Y.length GV,Z p2] w λe w=>∃V8 adj,e=.returned (.tuple #[wj r0,aW V8 r1.length adj,Z r2])/\Fit z (aD (Ba V8 adj r1::L)) w:=by
 unfold uz at H;refine ke func42 64 rfl λj=>ks<|kN h (#[aW aT O.ah.length bt]) 24 λb4 w h=>kN h (DA) 60 λb5 w h=>ko da<|G<|ks<|yw (oV #[aW aT O.ah.length bt]) (cs:=[aW aT O.ah.length bt]) ⟨(h.pick 1).cell 0 rfl,bR⟩<|?_;refine fP H λr6 e7 H=>ko da<|eW (BU (ER:=ER) (GV:=GV) (F8:=(bI.up 2 F8)) (aT:=aT) (bt:=bt) (aP:=(yf.up 2 aP)) (aI:=aI) e7 h :) λw h=>bS<|G<|wq<|aL [U,vB (r6 != 0)]<|G<|rV H (λc8 H=>?_) λc8 H=>?_
 ·refine fT<|ks<|yw (oV #[aW aT O.ah.length bt]) (cs:=[aW aT O.ah.length bt]) ⟨(h.pick 1).cell 0 rfl,bR⟩<|?_;refine ko da<|kN h (#[aW aT O.ah.length bt,Z p2,Z 0,aW none 0 0,Z 0]) 163 λb9 w h=>bS<|G<|aL kJ<|?_;replace h:=h.fC (e:=167) (sz:=7) (enc:=sF);refine vg H λzQ vC FN UX H=>qh h.m1 λh=>UE (Bd (v5:=ER) (xG:=GV) (Cu:=(bI.up 2 F8)) (aN:=aT) (bq:=bt) (cF:=(yf.up 2 aP)) (cB:=aI) UX h :) λyz CZ w h=>ko [.tuple #[Z zQ,Z vC],U,U,U,U]<|G<|wq<|aL kJ<|kL h 2<|ko [vB (FN.xd != 0)]<|G<|rV H (λvJ H=>?_) λvJ H=>?_
  ·refine fT<|wq<|mJ [(b9,1,[Z FN.Left]),(b9,3,[aW yz FN.bL.length CZ]),(b9,4,[Z FN.Deep]),(b9,3,[aW yz FN.bL.length CZ])] [3,4,6,8,9,11,13,14,17,19,20,22] 25 h (λh=>⟨⟨h.cell 1 rfl,bR⟩,⟨h.cell 3 rfl,bR⟩,⟨h.cell 4 rfl,bR⟩,⟨h.cell 3 rfl,bR⟩,bR⟩) λw h hd =>lW hd 10 42 [([0],Z zQ),([1],Z p2),([2,3,7,8,12,13,18,19],pA b9 0),([4],pA b9 1),([9,20],pA b9 3),([14],pA b9 4),([16],Z vC)]<|eI hd 0 9 5 rfl<|mg hd 8 [(6,48,Z (wi (p2-FN.Left)))]<|eI hd 1 7 10 rfl<|mg hd 6 [(11,53,Z ((FN.bL.length:Nat):Int))]<|eI hd 2 5 15 rfl<|mg hd 4 [(17,59,oV #[Z zQ,Z (wi (p2-FN.Left)),Z ((FN.bL.length:Nat):Int),Z FN.Deep,Z vC])]<|eI hd 3 3 21 rfl<|lB 22 rfl<|qh h.m2 λh=>kA h (fS b5 #[Z zQ,Z (wi (p2-FN.Left)),Z ((FN.bL.length:Nat):Int),Z FN.Deep,Z vC] 60) λw h=>G<|wo ⟨⟨(h.pick 1).cell 1 rfl,bR⟩,⟨(h.pick 1).cell 3 rfl,bR⟩,⟨(h.pick 1).cell 4 rfl,bR⟩,⟨(h.pick 1).cell 3 rfl,bR⟩,bR⟩ λhd =>mg hd 0 [(23,7,aW yz FN.bL.length CZ),(24,8,Z 0)]<|mM<|tn<|wr<|λ_ r=>Ek (cs:=[Z zQ,Z (wi (p2-FN.Left)),Z ((FN.bL.length:Nat):Int),Z FN.Deep,Z vC]) (v:=aW yz FN.bL.length CZ) (v2:=Z 0) rfl r aZ aZ aZ aZ aZ (h.held 0 rfl)<|?_;cases H;exact⟨yz,CZ,rfl,h.se 4 [2]⟩
  refine wq<|mJ [(b9,2,[Z FN.xd])] [0,2,3,5] 8 h (λh=>⟨⟨h.cell 2 rfl,bR⟩,bR⟩) λw h hd =>lW hd 4 37 [([0],oV DA),([1,2],pA b9 0),([3],pA b9 2)]<|eI hd 0 3 4 rfl<|lB 5 rfl<|qh h.m2 λh=>kA h (fS b5 DA 60) λw h=>G<|wo ⟨⟨(h.pick 1).cell 2 rfl,bR⟩,bR⟩ λhd =>mg hd 0 [(6,7,aW none 0 0),(7,8,Z FN.xd)]<|mM<|tn<|wr<|tr<|λ_ r=>Ek (cs:=z5_) (v:=aW none 0 0) (v2:=Z FN.xd) rfl r aZ aZ aZ aZ aZ (h.held 0 rfl)<|?_;replace h:=h.fC (e:=167) (sz:=7) (enc:=sF);cases H;exact⟨none,0,rfl,h.se 5 [0]⟩
 refine aL da<|kA h (fS b5 DA 60) λw h=>ko da<|bY<|tr<|λ_ r=>Ek (cs:=z5_) (v:=aW none 0 0) (v2:=Z r6) rfl r aZ aZ aZ aZ aZ (h.held 0 rfl)<|?_;replace h:=h.fC (e:=167) (sz:=7) (enc:=sF);cases H;exact⟨none,0,rfl,h.se 3 [0]⟩
def sI(K:Nat)(O:aE)(Y:List Int)(p2:Int):Option (pM×Int):=
 rN (uz K O Y p2) (λr3 r4 r5=>some (r3,r5))
theorem DX(H:sI K O Y p2=some (r0,r1))(h:iJ z (L) w)(aP:zb L aT aI O.ah)(F8:bI L 1 aK ER Y) :
 nH 25 #[oV #[aW aT O.ah.length bt],aW ER Y.length GV,Z p2] w z (.tuple #[wj r0,Z r1]) (L):=by
 unfold sI at H;refine ke func25 21 rfl λj=>ks<|kN h (#[aW aT O.ah.length bt]) 24 λb1 w h=>kN h (DA) 60 λb2 w h=>bS<|G<|ks<|yw (oV #[aW aT O.ah.length bt]) (cs:=[aW aT O.ah.length bt]) ⟨(h.pick 1).cell 0 rfl,bR⟩<|?_;refine vg H λr3 r4 r5 e6 H=>ko da<|UE (DW (ER:=ER) (GV:=GV) (F8:=(bI.up 2 F8)) (aT:=aT) (bt:=bt) (aP:=(yf.up 2 aP)) (aI:=aI) e6 h :) λx7 x8 w h=>ko [.tuple #[wj r3,aW x7 r4.length x8,Z r5],U,U,U]<|kN h (DA) 60 λb9 w h=>kA h (Tn b9 r3) λw h=>ko da<|G<|ks<|kM h<|bS<|qh h.m2 λh=>kA h (Tn b2 r3) λw h=>bS<|bY<|λ_ r=>rG (JC r3) (Z r5) rfl r (h.held 0 rfl)<|?_;cases H;exact⟨rfl,h.se 4 []⟩
def fL(K:Nat)(r2:List ak)(pH:pM):Nat->Bool->Int->Option ((Bool)⊕(Bool))
 | 0,_,_=>none
 | k1+1,AH,nU=>(if nU<((r2.length:Nat):Int)then if bJ nU r2.length then dX ((if(J r2 nU.toNat).aG=8 then some ((J r2 nU.toNat).aG==8)else(if(J r2 nU.toNat).aG=9 then some ((J r2 nU.toNat).aG==9)else(if(J r2 nU.toNat).aG=3 then some ((J r2 nU.toNat).aG==3)else some ((J r2 nU.toNat).aG==11))))) (λG2=>(if G2=true then some (.inr false)else(if(J r2 nU.toNat).aG=6 then(if(J r2 nU.toNat).Frame=0 then(fL K r2 pH k1 ((J r2 nU.toNat).V==pH.V) (wi (nU+1)))else(fL K r2 pH k1 AH (wi (nU+1))))else(fL K r2 pH k1 AH (wi (nU+1))))))else none else some (.inl AH))
def mF(K:Nat)(O:bU):Option (Bool):=
 rN (lE K ({O with cO:=1})) (λr2 r3 r4=>Ax ((if r4=true then(if r3=true then some (.inl ())else some (.inr r4))else some (.inr r4))) (uE (sI K (⟨O.bP⟩:aE) O.oA 65536) (λpH wQ=>Ax ((if wQ=0 then(if pH.wh>O.de then some (.inr true)else(if pH.wh>O.eP then some (.inr true)else(if((O.cP.length:Nat):Int)<(wi ((wi ((wi ((2:Int)*pH.kT))+(wi ((40:Int)*pH.wh))))+40))then some (.inr true)else some (.inl ()))))else some (.inr true))) (jn1 ((fL K r2 pH K false 0)) (λg22=>(if g22=true then if bJ (wi (((r2.length:Nat):Int)-1)) r2.length then some ((J r2 (wi (((r2.length:Nat):Int)-1)).toNat).aG==10)else none else some false))))))
theorem yX(H:mF K O=some r0)(h:iJ z (L) w)(cF:zb L aN cB O.bP)(og:bI L 1 aK dY O.oA)(iU:bI L 1 aK bO O.cP)(jL:bI L 1 aK bX O.eX)(Mc:bI L 1 IB (some ⟨0,0,none⟩) QD)(wu:bI L 5 gJ (some ⟨1,0,none⟩) yY) :
 nH 8 #[oV #[aW aN O.bP.length bq,aW dY O.oA.length fg,Z O.cO,Z O.de,Z O.eU,Z O.eP,aW bO O.cP.length cA,aW bX O.eX.length cC]] w z (vB r0) (L):=by
 unfold mF at H;refine ke func8 110 rfl λj=>ks<|kN h (#[aW aN O.bP.length bq,aW dY O.oA.length fg,Z O.cO,Z O.de,Z O.eU,Z O.eP,aW bO O.cP.length cA,aW bX O.eX.length cC]) 32 λb1 w h=>bS<|G<|aL [U]<|kS h 2 (fS b1 #[aW aN O.bP.length bq,aW dY O.oA.length fg,Z 1,Z O.de,Z O.eU,Z O.eP,aW bO O.cP.length cA,aW bX O.eX.length cC] 32) λw h=>G<|ks<|kM h<|vg H λr2 r3 r4 e5 H=>UE (De (aN:=aN) (bq:=bq) (cF:=(yf.up 1 cF)) (dY:=dY) (fg:=fg) (og:=(bI.up 1 og)) (bO:=bO) (cA:=cA) (iU:=(bI.up 1 iU)) (bX:=bX) (cC:=cC) (jL:=(bI.up 1 jL)) (Mc:=bI.up 1 Mc) (wu:=bI.up 1 wu) (cB:=cB) e5 h :) λx6 x7 w h=>ko [.tuple #[aW x6 r2.length x7,vB r3,vB r4],U,U,U,U,U,U]<|G<|?_;obtain⟨o9,H,NL⟩:=FU H;refine λ_ r=>cW (β:=Unit) (λ_ a w=>.inl ()=o9/\∃j,jY 110 (lk [(1,pA b1 0),(3,aW x6 r2.length x7)] j) a/\Fit z (aD (fS b1 #[aW aN O.bP.length bq,aW dY O.oA.length fg,Z 1,Z O.de,Z O.eU,Z O.eP,aW bO O.cP.length cA,aW bX O.eX.length cC] 32::GC x6 x7 r2::L)) w) ?_ ?_
 ·refine qq r<|aL [U,vB (!r4),vB (!r4)]<|qI H (λpe H=>?_) λpe H=>?_
  ·refine cT (nT pe) [21,22] [vB r3,vB (!r3)]<|oz (nT pe) (vB (!r3))<|G<|FZ H (λvH H=>?_) λvH H=>?_
   ·refine fT<|?_;exact λ_ r=>⟨(),fV H,r.fj (h.se 2 [1,0])⟩
   refine aL da<|bY<|tr<|λ_ r=>rX (vB r4) rfl r<|?_;replace H:=wL H NL;cases H;exact⟨rfl,h.se 2 []⟩
  refine cg (nF pe) [21,22]<|oJ (nF pe) (vB true)<|G<|λ_ r=>fW r (b:=true) rfl<|qq r<|aL da<|bY<|tr<|λ_ r=>rX (vB r4) rfl r<|?_;replace H:=wL H NL;cases H;exact⟨rfl,h.se 2 []⟩
 clear h r;rintro _ a w ⟨rfl,j,r,h⟩;replace H:=FV NL;refine qq r<|aL [U]<|yw (oV #[aW aN O.bP.length bq]) (cs:=[aW aN O.bP.length bq]) ⟨h.cell 0 rfl,bR⟩<|?_;refine bS<|kL h 1<|xT H λpH wQ Hx H=>eW (DX (ER:=dY) (GV:=fg) (F8:=(bI.up 2 og)) (aT:=aN) (bt:=bq) (aP:=(yf.up 2 cF)) (aI:=cB) Hx h :) λw h=>ko [.tuple #[wj pH,Z wQ],U,U]<|kN h (DA) 60 λP9 w h=>kA h (Tn P9 pH) λw h=>bS<|G<|aL da<|kL (h.pick 1) 6<|ko [Z ((O.cP.length:Nat):Int),Z ((O.cP.length:Nat):Int)]<|G<|?_;obtain⟨QJ,H,Cj⟩:=FU H;refine λ_ r=>cW (β:=Unit) (λ_ a w=>.inl ()=QJ/\∃j,jY 110 (lk [(3,aW x6 r2.length x7),(6,pA P9 0)] j) a/\Fit z (aD (GC x6 x7 r2::Tn P9 pH::L)) w) ?_ ?_
 ·refine qq r<|aL [U,vB (wQ != 0),vB (wQ != 0)]<|qI H (λBz H=>?_) λBz H=>?_
  ·refine cT (bne_eq_false_iff_eq.mpr Bz) [40] [pA P9 2]<|λ_ r=>ld (nL r (bne_eq_false_iff_eq.mpr Bz)) r (Z pH.wh) (h.cell 2 rfl)<|?_;refine cT (bne_eq_false_iff_eq.mpr Bz) [42,43] [pA b1 3,pA b1 3]<|λ_ r=>ld (nL r (bne_eq_false_iff_eq.mpr Bz)) r (Z O.de) ((h.pick 1).cell 3 rfl)<|?_;refine cT (bne_eq_false_iff_eq.mpr Bz) [45] [dm (pH.wh>O.de)]<|oz (bne_eq_false_iff_eq.mpr Bz) (dm (pH.wh>O.de))<|ko [dm (pH.wh>O.de)]<|qI H (λsj H=>?_) λsj H=>?_
   ·refine cg (dT sj) [48,49,50,51,52,53]<|oJ (dT sj) (vB true)<|bS<|cg (rfl:true=true) [56,57,58,59,60,61,62,63,64,65]<|bS<|G<|λ_ r=>fW r (b:=true) rfl<|qq r<|gP<|wr<|tr<|λ_ r=>rX (vB true) rfl r<|?_;replace H:=wL H Cj;cases H;exact⟨rfl,h.se 3 []⟩
   refine cT (dF sj) [48] [pA P9 2]<|vz (dF sj) h 2<|cT (dF sj) [50,51] [pA b1 3,pA b1 5]<|vz (dF sj) (h.pick 1) 5<|cT (dF sj) [53] [dm (pH.wh>O.eP)]<|oz (dF sj) (dm (pH.wh>O.eP))<|ko [dm (pH.wh>O.eP)]<|qI H (λlT H=>?_) λlT H=>?_
   ·refine cg (dT lT) [56,57,58,59,60,61,62,63,64,65]<|oJ (dT lT) (vB true)<|G<|λ_ r=>fW r (b:=true) rfl<|qq r<|gP<|wr<|tr<|λ_ r=>rX (vB true) rfl r<|?_;replace H:=wL H Cj;cases H;exact⟨rfl,h.se 3 []⟩
   refine cT (dF lT) [56,57] [Z ((O.cP.length:Nat):Int),pA P9 1]<|vz (dF lT) h 1<|cT (dF lT) [59,60] [Z (wi ((2:Int)*pH.kT)),pA P9 2]<|vz (dF lT) h 2<|cT (dF lT) [62,63,64,65] [Z (wi ((40:Int)*pH.wh)),Z (wi ((wi ((2:Int)*pH.kT))+(wi ((40:Int)*pH.wh)))),Z (wi ((wi ((wi ((2:Int)*pH.kT))+(wi ((40:Int)*pH.wh))))+40)),dm (((O.cP.length:Nat):Int)<(wi ((wi ((wi ((2:Int)*pH.kT))+(wi ((40:Int)*pH.wh))))+40)))]<|oz (dF lT) (dm (((O.cP.length:Nat):Int)<(wi ((wi ((wi ((2:Int)*pH.kT))+(wi ((40:Int)*pH.wh))))+40))))<|G<|dK H (λsL H=>?_) λsL H=>?_
   ·refine gP<|wr<|tr<|λ_ r=>rX (vB true) rfl r<|?_;replace H:=wL H Cj;cases H;exact⟨rfl,h.se 3 []⟩
   refine fT<|?_;exact λ_ r=>⟨(),fV H,r.fj (h.se 3 [2,0])⟩
  refine cg (bne_iff_ne.mpr Bz) [40,41,42,43,44,45]<|oJ (bne_iff_ne.mpr Bz) (vB true)<|bS<|cg (rfl:true=true) [48,49,50,51,52,53]<|ko da<|cg (rfl:true=true) [56,57,58,59,60,61,62,63,64,65]<|bS<|G<|λ_ r=>fW r (b:=true) rfl<|qq r<|gP<|wr<|tr<|λ_ r=>rX (vB true) rfl r<|?_;replace H:=wL H Cj;cases H;exact⟨rfl,h.se 3 []⟩
 clear h r;rintro _ a w ⟨rfl,j,r,h⟩;replace H:=FV Cj;refine qq r<|gP<|?_;obtain⟨o24,H,J1⟩:=jd1 H;refine λ_ r=>cW (β:=Unit) (λ_ a w=>∃g22:Bool,.inl g22=o24/\∃j,jY 110 (lk [(3,aW x6 r2.length x7),(9,vB g22)] j) a/\Fit z (aD (GC x6 x7 r2::L)) w) ?_ ?_
 ·refine qq r<|gP<|wb<|λ_ r=>dr (β:=Nat) id (λm a w=>∃AH:Bool,∃nU:Int,(fL K r2 pH m AH nU)=some o24/\∃j,jY 110 (lk [(3,aW x6 r2.length x7),(6,pA P9 0),(9,vB AH),(10,Z nU)] j) a/\Fit z (aD (GC x6 x7 r2::Tn P9 pH::L)) w) K ⟨false,0,H,r.fj h⟩<|?_;clear h r H;rintro k1 a w ⟨AH,nU,H,j,r,h⟩;cases k1 with
  | zero=>exact absurd H (by simp[fL])
  | succ k1 =>
   rw[fL]at H;refine qq r<|wq<|aL [U,U,Z ((r2.length:Nat):Int),dm (nU<((r2.length:Nat):Int))]<|G<|dK H (λsX H=>?_) λsX H=>?_
   ·refine fT<|wq<|wb<|ks<|qg H λBk H=>ko da<|ki h Bk<|bS<|zz (Z (J r2 nU.toNat).aG) (h.cy fE (f:=2) (bj Bk) rfl)<|?_;refine G<|wb<|EM H λo31 H afc=>λ_ r=>cW (β:=Unit) (λ_ a w=>∃G2:Bool,G2=o31/\∃j,jY 110 (lk [(3,aW x6 r2.length x7),(6,pA P9 0),(9,vB AH),(10,Z nU),(77,Z (J r2 nU.toNat).aG),(78,vB G2)] j) a/\Fit z (aD (GC x6 x7 r2::Tn P9 pH::L)) w) ?_ ?_
    ·refine qq r<|aL [vB ((J r2 nU.toNat).aG==8),vB ((J r2 nU.toNat).aG==8)]<|G<|dK H (λEP H=>?_) λEP H=>?_
     ·refine fT<|?_;exact λ_ r=>⟨(),((J r2 nU.toNat).aG==8),fV H,r.fj h⟩
     refine aL [vB ((J r2 nU.toNat).aG==9),vB ((J r2 nU.toNat).aG==9)]<|G<|dK H (λCf H=>?_) λCf H=>?_
     ·refine fT<|?_;exact λ_ r=>⟨(),((J r2 nU.toNat).aG==9),fV H,r.fj h⟩
     refine aL [vB ((J r2 nU.toNat).aG==3),vB ((J r2 nU.toNat).aG==3)]<|G<|dK H (λFh H=>?_) λFh H=>?_
     ·refine fT<|?_;exact λ_ r=>⟨(),((J r2 nU.toNat).aG==3),fV H,r.fj h⟩
     refine wl<|ko [vB ((J r2 nU.toNat).aG==11),vB ((J r2 nU.toNat).aG==11)]<|G<|?_;exact λ_ r=>⟨(),((J r2 nU.toNat).aG==11),fV H,r.fj h⟩
    clear h r;rintro _ a w ⟨G2,rfl,j,r,h⟩;replace H:=EK afc;refine qq r<|EN H (λI7 H=>?_) λI7 H=>?_
    ·refine gP<|wr<|br<|br<|tr<|tr<|br<|tr<|λ_ r=>rX (vB false) rfl r<|?_;replace H:=jx1 H J1;cases H;exact⟨rfl,h.se 2 []⟩
    refine aL [vB ((J r2 nU.toNat).aG==6),vB ((J r2 nU.toNat).aG==6)]<|G<|dK H (λMM H=>?_) λMM H=>?_
    ·refine aL da<|ki h Bk<|bS<|zz (Z (J r2 nU.toNat).Frame) (h.cy fE (f:=3) (bj Bk) rfl)<|?_;refine ko [vB ((J r2 nU.toNat).Frame==0)]<|G<|dK H (λK2 H=>?_) λK2 H=>?_
     ·refine mJ [(dJ x6,nU.toNat*6+5,[Z (J r2 nU.toNat).V]),(P9,0,[Z pH.V])] [2,3,5] 9 h (λh=>⟨⟨h.cy fE (f:=5) (bj Bk) rfl,bR⟩,⟨(h.pick 1).cell 0 rfl,bR⟩,bR⟩) λw h hd =>mg hd 7 [(0,91,aW x6 r2.length x7),(1,92,Z nU)]<|nr hd 6 2 rfl (mR x6 nU 6) (λw=>uI 47 rfl h Bk)<|mg hd 4 [(3,94,uQ x6 nU 6 5),(5,96,pA P9 0)]<|eI hd 0 3 4 rfl<|eI hd 1 2 6 rfl<|mg hd 0 [(7,98,vB ((J r2 nU.toNat).V==pH.V)),(8,9,vB ((J r2 nU.toNat).V==pH.V))]<|mM<|bn<|bn<|tn<|wl<|ko [U,Z (wi (nU+1)),Z (wi (nU+1))]<|G<|?_;exact λ_ r=>⟨_,⟨((J r2 nU.toNat).V==pH.V),(wi (nU+1)),H,r.fj h⟩,ie _⟩
     refine wk<|bn<|bn<|tn<|wl<|ko [U,Z (wi (nU+1)),Z (wi (nU+1))]<|G<|?_;exact λ_ r=>⟨_,⟨AH,(wi (nU+1)),H,r.fj h⟩,ie _⟩
    refine wk<|bn<|bn<|tn<|wl<|ko [U,Z (wi (nU+1)),Z (wi (nU+1))]<|G<|?_;exact λ_ r=>⟨_,⟨AH,(wi (nU+1)),H,r.fj h⟩,ie _⟩
   refine wx<|te<|te<|bh<|tn<|?_;exact λ_ r=>⟨(),AH,fV H,r.fj (h.se 2 [0])⟩
 clear h r;rintro _ a w ⟨g22,rfl,j,r,h⟩;replace H:=jk1 J1;refine qq r<|aL da<|qI H (λFJ H=>?_) λFJ H=>?_
 ·refine qg H λJ0 H=>cT (FJ) [101,102,103,104] [aW x6 r2.length x7,aW x6 r2.length x7,Z ((r2.length:Nat):Int),Z (wi (((r2.length:Nat):Int)-1))]<|λ_ r=>CK (nL r (FJ)) r (pA (dJ x6) ((wi (((r2.length:Nat):Int)-1)).toNat*6)) (uI 47 rfl h J0)<|?_;refine cT (FJ) [106] [pA (dJ x6) ((wi (((r2.length:Nat):Int)-1)).toNat*6+2)]<|λ_ r=>ld (nL r (FJ)) r (Z (J r2 (wi (((r2.length:Nat):Int)-1)).toNat).aG) (h.cy fE (f:=2) (bj J0) rfl)<|?_;refine cT (FJ) [108] [vB ((J r2 (wi (((r2.length:Nat):Int)-1)).toNat).aG==10)]<|oJ (FJ) (vB ((J r2 (wi (((r2.length:Nat):Int)-1)).toNat).aG==10))<|ko [vB ((J r2 (wi (((r2.length:Nat):Int)-1)).toNat).aG==10)]<|bY<|?_;cases H;exact fU (h.se 1 [])
 refine cg (bF FJ) [101,102,103,104,105,106,107,108]<|oz (bF FJ) (vB false)<|bS<|bY<|?_;cases H;exact fU (h.se 1 [])
end
open Go SL GX
section
variable {K:Nat}
theorem JI(x:Int):wi x=(if 9223372036854775808<=x%18446744073709551616 then x%18446744073709551616-18446744073709551616 else x%18446744073709551616):=by
 show IntKind.i64.wrap x=_;unfold IntKind.wrap;simp[IntKind.bits,IntKind.signed]
abbrev u9(x:Int):Prop:=-9223372036854775808<=x/\x<=9223372036854775807
theorem HM(x:Int):u9 (wi x):=by rw[JI];unfold u9;split<;>omega
theorem xC{x:Int}(h:u9 x):wi x=x:=by rw[JI];unfold u9 at h;split<;>omega
theorem adk{a b:Int}(h:a%18446744073709551616=b%18446744073709551616):wi a=wi b:=by rw[JI,JI,h]
def fb(f:Bool->Bool->Bool):Nat->Int->Int->Int
 | 0,_,_=>0
 | n+1,a,b=>(if f (decide (a%2=1)) (decide (b%2=1))then 1 else 0)+2*fb f n (a/2) (b/2)
theorem Wn(x:Int):((x.tmod (2:Int)) != 0)=decide (x%2=1):=by
 rw[MZ];by_cases h:x%2=1
 ·rw[uT h];by_cases h0:0<=x∨(2:Int)∣x
  ·rw[bg h0,h];rfl
  ·rw[cQ h0,h];rfl
 ·rw[Il h];have h2:x%2=0:=by omega
  rw[bg (.inr (Int.dvd_of_emod_eq_zero h2)),h2];rfl
theorem RL{x:Int}(h:u9 x):(if x<0 then(if(x.tmod (2:Int))=0 then wi (x.tdiv (2:Int))else wi ((wi (x.tdiv (2:Int)))-1))else wi (x.tdiv (2:Int)))=x/2:=by
 unfold u9 at h;have e:=Int.tdiv_eq_ediv (a:=x) (b:=2);have e2:=MZ (a:=x) (b:=2);by_cases h0:x<0
 ·rw[bg h0];by_cases h2:(2:Int)∣x
  ·rw[bg (.inr h2)]at e e2;have:=Int.emod_eq_zero_of_dvd h2;rw[bg (by rw[e2,this];rfl),e,Int.add_zero,xC (by unfold u9;omega)]
  ·rw[ez]at e e2;have:x%2=1:=by have:=λh=>h2 (Int.dvd_of_emod_eq_zero h);omega
   have e3:x.tdiv 2=x/2+1:=by rw[e];rfl
   rw[cQ (by rw[e2,this];decide),e3,xC (x:=_+_) (by unfold u9;omega),xC (by unfold u9;omega)];omega
 ·rw[cQ h0];rw[bg (.inl I)]at e;rw[e,Int.add_zero,xC (by unfold u9;omega)]
theorem Qc{x:Int}(h:u9 x):u9 (x/2):=by unfold u9 at h⊢;omega
theorem abp(n:Nat)(a:Int):a%2 ^ (n+1)=2*(a/2%2 ^ n)+a%2:=by
 have p:(0:Int)<2 ^ n:=Int.pow_pos gB;have q:=EW (a/2) (b:=2 ^ n) I;have q2:=GQ (a/2) p;have e:=MX (a/2) (2 ^ n);have e0:=MX a 2;have h:a=(2*(a/2%2 ^ n)+a%2)+2 ^ (n+1)*(a/2/2 ^ n):=by
  rw[Int.pow_succ,GO (2 ^ n) 2,Int.mul_assoc];omega
 have r1:(2*(a/2%2 ^ n)+a%2)%2 ^ (n+1)=2*(a/2%2 ^ n)+a%2:=Int.emod_eq_of_lt I (by rw[Int.pow_succ];omega)
 calc a%2 ^ (n+1)=((2*(a/2%2 ^ n)+a%2)+2 ^ (n+1)*(a/2/2 ^ n))%2 ^ (n+1):=by rw[<-h]
  _=_:=by rw[Int.add_mul_emod_self_left,r1]
theorem RN(n:Nat)(a:Int):(a%2 ^ (n+1)).toNat=2*(a/2%2 ^ n).toNat+(a%2).toNat:=by
 have h:=abp n a;have p:(0:Int)<2 ^ n:=Int.pow_pos gB;have q:=EW (a/2) (b:=2 ^ n) I;omega
theorem MD(f:Bool->Bool->Bool)(o:Nat->Nat->Nat)(h0:o 0 0=0)(hs:∀u v x y,x<2->y<2->o (2*u+x) (2*v+y)=2*o u v+(if f (decide (x=1)) (decide (y=1))=true then 1 else 0)):∀(n:Nat) (a b:Int),fb f n a b=((o (a%2 ^ n).toNat (b%2 ^ n).toNat:Nat):Int)
 | 0,a,b=>by
  have e:∀x:Int,(x%2 ^ 0).toNat=0:=λx=>by simp[Int.emod_one]
  rw[e,e,h0];rfl
 | n+1,a,b=>by
  rw[fb,MD f o h0 hs n,RN n a,RN n b,hs _ _ _ _ I I];have k:∀x:Int,decide ((x%2).toNat=1)=decide (x%2=1):=λx=>by simp only[decide_eq_decide];omega
  rw[k,k];split<;>omega
theorem tC(u x:Nat)(hx:x<2):(2*u+x)/2=u/\(2*u+x)%2=x:=by omega
theorem abq(a b:Int):wi (fb (λp q=>p&&q) 64 a b)=iu a b:=by
 rw[MD _ (· &&& ·) gB (λu v x y hx hy=>by
  have e:=Ii ((2*u+x) &&& (2*v+y)) 2;have e1:((2*u+x) &&& (2*v+y))%2=x &&& y:=by
   have:=Nat.and_mod_two_pow (a:=2*u+x) (b:=2*v+y) (n:=1);rw[Nat.pow_one,(tC u x hx).2,(tC v y hy).2]at this;exact this
  rw[Nat.and_div_two,(tC u x hx).1,(tC v y hy).1,e1]at e;rw[<-e];rcases(show x=0∨x=1 by omega)with rfl | rfl<;>rcases(show y=0∨y=1 by omega)with rfl | rfl<;>rfl)]
 unfold iu;rw[BitVec.toNat_and,Iq,Iq];rfl
theorem adl(a b:Int):wi (fb (λp q=>p||q) 64 a b)=O2 a b:=by
 rw[MD _ (· ||| ·) gB (λu v x y hx hy=>by
  have e:=Ii ((2*u+x) ||| (2*v+y)) 2;have e1:((2*u+x) ||| (2*v+y))%2=x ||| y:=by
   have:=Nat.or_mod_two_pow (a:=2*u+x) (b:=2*v+y) (n:=1);rw[Nat.pow_one,(tC u x hx).2,(tC v y hy).2]at this;exact this
  rw[Nat.or_div_two,(tC u x hx).1,(tC v y hy).1,e1]at e;rw[<-e];rcases(show x=0∨x=1 by omega)with rfl | rfl<;>rcases(show y=0∨y=1 by omega)with rfl | rfl<;>rfl)]
 unfold O2;rw[BitVec.toNat_or,Iq,Iq];rfl
theorem abr(a b:Int):wi (fb (λp q=>p != q) 64 a b)=O5 a b:=by
 rw[MD _ (· ^^^ ·) gB (λu v x y hx hy=>by
  have e:=Ii ((2*u+x) ^^^ (2*v+y)) 2;have e1:((2*u+x) ^^^ (2*v+y))%2=x ^^^ y:=by
   have:=Nat.xor_mod_two_pow (a:=2*u+x) (b:=2*v+y) (n:=1);rw[Nat.pow_one,(tC u x hx).2,(tC v y hy).2]at this;exact this
  rw[Nat.xor_div_two,(tC u x hx).1,(tC v y hy).1,e1]at e;rw[<-e];rcases(show x=0∨x=1 by omega)with rfl | rfl<;>rcases(show y=0∨y=1 by omega)with rfl | rfl<;>rfl)]
 unfold O5;rw[BitVec.toNat_xor,Iq,Iq];rfl
theorem Wo(y:Int):iu y 63=y%64:=by
 unfold iu;rw[BitVec.toNat_and,Iq,show(BitVec.ofInt 64 63).toNat=2 ^ 6-1 from rfl,Nat.and_two_pow_sub_one_eq_mod];have e:((2 ^ 64:Nat):Int)=18446744073709551616:=by decide
 rw[e];show wi _=_;rw[xC I];omega
theorem Z6(z:Int) :∃c,wi z=z+18446744073709551616*c:=by
 rw[JI];split
 ·exact⟨-(z/18446744073709551616)-1,I⟩
 ·exact⟨-(z/18446744073709551616),I⟩
theorem Z7(b t:Int):wi (b+18446744073709551616*t)=wi b:=adk (Int.add_mul_emod_self_left b _ t)
theorem Qd(z f b:Int):wi (b+wi z*f)=wi (b+z*f):=by
 obtain⟨c,hc⟩:=Z6 z;rw[hc,Int.add_mul,Int.mul_assoc,<-Int.add_assoc,Z7]
theorem adm(z b:Int):wi (wi z+b)=wi (z+b):=by
 obtain⟨c,hc⟩:=Z6 z;rw[hc,show z+18446744073709551616*c+b=z+b+18446744073709551616*c by omega,Z7]
def bf(p2 p3 x y:Bool):Bool:=if x&&y then p2 else if x==y then false else p3
theorem Wp{p2 p3:Bool}:∀(n k j:Nat) (a b c e:Int),j+n=64->n<k->u9 a->u9 b->u9 c->lA K p2 p3 k a b c e (j:Int)=some (wi (c+e*fb (bf p2 p3) n a b))
 | n,k,j,a,b,c,e,hj,hk,ha,hb,hc=>by
  obtain⟨k,rfl⟩ :∃m,k=m+1:=⟨k-1,I⟩;rw[lA];cases n with
  | zero=>rw[ez,fb,Int.mul_zero,Int.add_zero,xC hc]
  | succ n =>
   have hh:∀x,u9 x->kU x=some (x/2):=λx hx=>by
    rw[<-RL hx];unfold kU;split
    ·split<;>rfl
    ·rfl
   rw[rD];unfold tB;rw[Wn,Wn,ax,ax,hh a ha,hh b hb];have key:(if decide (a%2=1)=true then(if decide (b%2=1)=true then(if p2=true then some (wi (c+e))else(if decide (a%2=1)=decide (b%2=1)then some c else(if p3=true then some (wi (c+e))else some c)))else(if decide (a%2=1)=decide (b%2=1)then some c else(if p3=true then some (wi (c+e))else some c)))else(if decide (a%2=1)=decide (b%2=1)then some c else(if p3=true then some (wi (c+e))else some c))) =
    some (if bf p2 p3 (decide (a%2=1)) (decide (b%2=1))=true then wi (c+e)else c):=by
    generalize decide (a%2=1)=x;generalize decide (b%2=1)=y;cases x<;>cases y<;>cases p2<;>cases p3<;>rfl
   rw[key,ax,ax,ax,show wi ((j:Int)+1)=((j+1:Nat):Int) by rw[xC (by unfold u9;omega)];omega];rw[Wp n k (j+1) _ _ _ _ I I (Qc ha) (Qc hb) (by split;exact HM _;exact hc),fb,Qd]
   congr 1
   split
   ·rw[adm];congr 1;rw[Int.mul_add,<-Int.mul_assoc,GO e 2,Int.two_mul];omega
   ·congr 1;rw[Int.zero_add,<-Int.mul_assoc,GO e 2,Int.two_mul]
theorem ME{p2 p3:Bool}{a b:Int}(hK:100<K)(ha:u9 a)(hb:u9 b):jG K a b p2 p3=some (wi (fb (bf p2 p3) 64 a b)):=by
 unfold jG;have:=Wp (K:=K) (p2:=p2) (p3:=p3) 64 K 0 a b 0 1 I I ha hb (by unfold u9;omega);rw[qz]at this;rw[this,Int.zero_add,Int.one_mul]
theorem RP:∀(n k j s:Nat) (g:Int),j+n=s->n<k->s<=64->u9 g->gY K (s:Int) true k g (j:Int)=some (wi (g*2 ^ n))
 | n,k,j,s,g,hj,hk,hs,hg=>by
  obtain⟨k,rfl⟩ :∃m,k=m+1:=⟨k-1,I⟩;rw[gY];cases n with
  | zero=>rw[ez,Int.pow_zero,Int.mul_one,xC hg]
  | succ n =>
   rw[rD,bg rfl,show wi ((j:Int)+1)=((j+1:Nat):Int) by rw[xC (by unfold u9;omega)];omega,RP n k (j+1) s _ I I hs (HM _)];have:=Qd (g+g) (2 ^ n) 0;rw[Int.zero_add,Int.zero_add]at this;rw[this];congr 2;rw[Int.pow_succ,GO (2 ^ n) 2,<-Int.mul_assoc];congr 1;omega
theorem RQ:∀(n k j s:Nat) (g:Int),j+n=s->n<k->s<=64->u9 g->gY K (s:Int) false k g (j:Int)=some (g/2 ^ n)
 | n,k,j,s,g,hj,hk,hs,hg=>by
  obtain⟨k,rfl⟩ :∃m,k=m+1:=⟨k-1,I⟩;have hh:∀x,u9 x->kU x=some (x/2):=λx hx=>by
   rw[<-RL hx];unfold kU;split
   ·split<;>rfl
   ·rfl
  rw[gY];cases n with
  | zero=>rw[ez,Int.pow_zero,Int.ediv_one]
  | succ n =>
   rw[rD,cQ gB,hh g hg,ax,show wi ((j:Int)+1)=((j+1:Nat):Int) by rw[xC (by unfold u9;omega)];omega,RQ n k (j+1) s _ I I hs (Qc hg)]
   congr 1
   rw[Int.ediv_ediv_of_nonneg gB,Int.pow_succ,GO]
theorem OD(y:Int):lF y=some (y%64):=by
 unfold lF;have e:=MZ (a:=y) (b:=64);by_cases h:0<=y∨(64:Int)∣y
 ·rw[bg h]at e;rw[ez];congr 1;omega
 ·rw[cQ h]at e;have e:y.tmod 64=y%64-64:=e;have:y%64≠0:=λh'=>h (.inr (Int.dvd_of_emod_eq_zero h'));rw[rD,xC (by unfold u9;omega)];congr 1;omega
theorem Wq{x:Int}(h0:0<=x)(h1:x<64):IntKind.u64.wrap x=x:=by
 simp only[IntKind.wrap,IntKind.min,IntKind.max,IntKind.signed,IntKind.bits];simp;omega
theorem Qe{op x y:Int}(h0:0<=op)(h1:op<16)(hx:u9 x)(hy:u9 y)(hK:100<K):rB K op x y=sw op x y:=by
 unfold rB sw AU;rw[ez,ez,bg h0,ax,bg (uT h1)];have tr:∀b,iI b=mD b:=λb=>rfl;have key:sH K op x y=u5 op x y:=by
  unfold sH u5;rcases(show op=0∨op=1∨op=2∨op=3∨op=4∨op=5∨op=6∨op=7∨op=8∨op=9∨op=10∨op=11∨op=12∨op=13∨op=14∨op=15 by omega)with rfl | rfl | rfl | rfl | rfl | rfl | rfl | rfl | rfl | rfl | rfl | rfl | rfl | rfl | rfl | rfl
  ·rfl
  ·rfl
  ·rfl
  ·simp only[cQ (show ¬((3:Int)=0) by decide),cQ (show ¬((3:Int)=1) by decide),cQ (show ¬((3:Int)=2) by decide),if_true];unfold pS oL;by_cases e0:y=0
   ·rw[bg e0,bg e0];rfl
   ·rw[cQ e0,cQ e0];by_cases e1:y=-1
    ·rw[bg e1,bg e1];rfl
    ·rw[cQ e1,cQ e1,bg e0,bg e0];rfl
  ·simp only[cQ (show ¬((4:Int)=0) by decide),cQ (show ¬((4:Int)=1) by decide),cQ (show ¬((4:Int)=2) by decide),cQ (show ¬((4:Int)=3) by decide),if_true];unfold pS oL;by_cases e0:y=0
   ·rw[bg e0,bg e0,ax,fQ,Int.zero_mul,show wi 0=0 from rfl,Int.sub_zero,xC hx]
   ·rw[cQ e0,cQ e0];by_cases e1:y=-1
    ·rw[bg e1,bg e1,ax,fQ];subst e1
     congr 1
     unfold u9 at hx;by_cases hm:x=-9223372036854775808
     ·subst hm;rfl
     ·rw[xC (x:=0-x) (by unfold u9;omega),xC (x:=(0-x)*-1) (by unfold u9;omega),xC (by unfold u9;omega)];omega
    ·rw[cQ e1,cQ e1,bg e0,bg e0,ax,fQ]
     congr 1
     have e2:x.tmod y+y*x.tdiv y=x:=Int.tmod_add_mul_tdiv x y;have hq:u9 (x.tdiv y):=by
      clear e2;unfold u9 at hx⊢;by_cases y1:y=1
      ·rw[y1,Int.tdiv_one];exact hx
      have h4:=Int.natAbs_tdiv x y;have h2:2<=y.natAbs:=by omega
      have h5:x.natAbs/y.natAbs<=x.natAbs/2:=Nat.div_le_div_left h2 gB;have h6:x.natAbs<=9223372036854775808:=by omega
      generalize x.tdiv y=q at h4⊢;have h7:q.natAbs<=4611686018427387904:=ET (Nat.le_of_eq h4) (ET h5 I);omega
     have hm:u9 (x.tmod y):=by
      unfold u9 at hx hy⊢;have h4:=Int.natAbs_tmod x y;have h6:=Nat.mod_lt x.natAbs (show 0<y.natAbs by omega);have h7:y.natAbs<=9223372036854775808:=by omega
      generalize x.tmod y=q at h4⊢;omega
     rw[xC hq,show x-wi (x.tdiv y*y)=x+wi (x.tdiv y*y)*(-1) by omega,Qd,show x+x.tdiv y*y*(-1)=x.tmod y by rw[GO (x.tdiv y) y];omega,xC hm]
  ·show dX (jG K x y true false) _=some (iu x y);rw[ME hK hx hy,ax,<-abq];congr 3;funext a b;cases a<;>cases b<;>rfl
  ·show dX (jG K x y true true) _=some (O2 x y);rw[ME hK hx hy,ax,<-adl];congr 3;funext a b;cases a<;>cases b<;>rfl
  ·show dX (jG K x y false true) _=some (O5 x y);rw[ME hK hx hy,ax,<-abr];congr 3;funext a b;cases a<;>cases b<;>rfl
  ·show dX (lF y) (λr=>dX (lG K x r true) _)=some (Sb x (IntKind.u64.wrap (iu y 63)));obtain⟨s,hs⟩ :∃s:Nat,y%64=s:=⟨(y%64).toNat,I⟩;rw[OD,ax,Wo,Wq I I,hs];unfold lG Sb;have:=RP (K:=K) s K 0 s x I I I hx;rw[qz]at this;rw[this,ax,di,zo I]
  ·show dX (lF y) (λr=>dX (lG K x r false) _)=some (Np x (IntKind.u64.wrap (iu y 63)));obtain⟨s,hs⟩ :∃s:Nat,y%64=s:=⟨(y%64).toNat,I⟩;rw[OD,ax,Wo,Wq I I,hs];unfold lG Np;have:=RQ (K:=K) s K 0 s x I I I hx;rw[qz]at this;rw[this,ax,di,zo I,Int.fdiv_eq_ediv_of_nonneg _ (Int.le_of_lt (Int.pow_pos gB))]
  ·show dX (if x<y then some x else some y) _=some (if y<x then y else x);by_cases h:x<y
   ·rw[bg h,ez];rfl
   ·rw[cQ h];by_cases h':y<x
    ·rw[bg h'];rfl
    ·rw[cQ h',show y=x by omega];rfl
  ·show dX (if x>y then some x else some y) _=some (if y>x then y else x);by_cases h:x>y
   ·rw[bg h,ez];rfl
   ·rw[cQ h];by_cases h':y>x
    ·rw[bg h'];rfl
    ·rw[cQ h',show y=x by omega];rfl
  ·show dX (dX (iI (decide (x<y))) _) _=dX (mD (decide (x<y))) _;rw[tr];cases h:mD (decide (x<y))<;>rfl
  ·show dX (dX (iI (decide (x<=y))) _) _=dX (mD (decide (x<=y))) _;rw[tr];cases h:mD (decide (x<=y))<;>rfl
  ·show dX (dX (iI (x==y)) _) _=dX (mD (x==y)) _;rw[tr];cases h:mD (x==y)<;>rfl
  ·show dX (dX (iI (x != y)) _) _=dX (mD (x != y)) _;rw[tr];cases h:mD (x != y)<;>rfl
 rw[key]
theorem adn{op x y:Int}(h0:0<=op)(h1:op<16)(hx:u9 x)(hy:u9 y):u9 (VD op x y):=by
 have e:=Jv h0 h1 x y;unfold sw AU at e;rw[bg h0,ax,bg (uT h1)]at e;have tr:∀b v,mD b=some v->u9 v:=λb v h=>by cases b<;>cases h<;>exact⟨gB,gB⟩
 have ob:∀{o:Option Int} {v:Int},dX o (λr=>some r)=some v->o=some v:=λ{o v} h=>by cases o<;>simp[dX]at h⊢;exact h
 generalize hv:VD op x y=v at e⊢;have e:u5 op x y=some v:=by
  cases h:u5 op x y with
  | none=>rw[h]at e;cases e
  | some u=>rw[h,ax]at e;cases e;rfl
 unfold u5 at e;rcases(show op=0∨op=1∨op=2∨op=3∨op=4∨op=5∨op=6∨op=7∨op=8∨op=9∨op=10∨op=11∨op=12∨op=13∨op=14∨op=15 by omega)with rfl | rfl | rfl | rfl | rfl | rfl | rfl | rfl | rfl | rfl | rfl | rfl | rfl | rfl | rfl | rfl
 ·cases e;exact HM _
 ·cases e;exact HM _
 ·cases e;exact HM _
 ·have e:uE (oL x y) (λr5 r6=>some r5)=some v:=e;unfold oL at e;by_cases e0:y=0
  ·rw[bg e0]at e;cases e;exact⟨gB,gB⟩
  ·rw[cQ e0]at e;by_cases e1:y=-1
   ·rw[bg e1]at e;cases e;exact HM _
   ·rw[cQ e1,bg e0]at e;cases e;exact HM _
 ·have e:uE (oL x y) (λr5 r6=>some r6)=some v:=e;unfold oL at e;by_cases e0:y=0
  ·rw[bg e0]at e;cases e;exact hx
  ·rw[cQ e0]at e;by_cases e1:y=-1
   ·rw[bg e1]at e;cases e;exact⟨gB,gB⟩
   ·rw[cQ e1,bg e0]at e;cases e;unfold u9 at hx hy⊢;have h4:=Int.natAbs_tmod x y;have h6:=Nat.mod_lt x.natAbs (show 0<y.natAbs by omega);have h7:y.natAbs<=9223372036854775808:=by omega
    generalize x.tmod y=q at h4⊢;omega
 ·cases e;exact HM _
 ·cases e;exact HM _
 ·cases e;exact HM _
 ·cases e;exact HM _
 ·have e:some (Np x (IntKind.u64.wrap (iu y 63)))=some v:=e;cases e;unfold Np;have p:(0:Int)<2 ^ (min (IntKind.u64.wrap (iu y 63)).toNat 64):=Int.pow_pos gB;rw[Int.fdiv_eq_ediv_of_nonneg _ (Int.le_of_lt p)];generalize (2:Int) ^ (min (IntKind.u64.wrap (iu y 63)).toNat 64)=q at p;unfold u9 at hx⊢;have a1:=MX x q;have a2:=EW x (b:=q) I;have a3:=GQ x p;by_cases hz:0<=x
  ·have:=Int.ediv_le_self q hz;have:=Int.ediv_nonneg hz (Int.le_of_lt p);omega
  ·have h1:x/q<0:=Int.ediv_neg_of_neg_of_pos I p;have h2:x<=x/q:=by
    have:q*(x/q)<=1*(x/q):=Int.mul_le_mul_of_nonpos_right I I;rcases Int.lt_or_le (x/q) x with h | h
    ·exfalso
     have:(x/q)*q<=(x/q)*1:=Int.mul_le_mul_of_nonpos_left I I;have h4:x/q+1<=x:=by omega
     have h5:x<(x/q+1)*q:=by rw[Int.add_mul,Int.one_mul,GO (x/q) q];omega
     have h6:(x/q+1)*q<=(x/q+1)*1:=Int.mul_le_mul_of_nonpos_left I I;omega
    ·exact h
   omega
 ·have e:some (if y<x then y else x)=some v:=e;cases e;split
  ·exact hy
  ·exact hx
 ·have e:some (if y>x then y else x)=some v:=e;cases e;split
  ·exact hy
  ·exact hx
 ·exact tr _ _ (ob e)
 ·exact tr _ _ (ob e)
 ·exact tr _ _ (ob e)
 ·exact tr _ _ (ob e)
end
end Mo
end
section
namespace Am
def EI(C:jv)(g a:Nat):List Nat:=
 match C.code g a with
 | .jump t=>[t]
 | .branch _ t=>[a+1,t]
 | .ret _=>[]
 | _=>[a+1]
def Qf(x:Ins)(c st:Nat):Nat:=
 match x with
 | .spawn s _ _=>if s=c then 2 else st
 | .sync=>if st=2 then 4 else st
 | _=>st
structure OE(C:jv) where
 slots:Nat->Nat
 R:Nat->Nat->Nat->Nat->Prop
 r0:∀g,g<C.Re->∀c,c<slots g->R g 0 c 1
 rn:∀g a c st,g<C.Re->a<C.len g->c<slots g->R g a c st->∀n∈EI C g a,R g n c (Qf (C.code g a) c st)
 sp:∀g a s f c,g<C.Re->a<C.len g->C.code g a= .spawn s f c->s<slots g/\¬R g a s 2
 ld:∀g a x s,g<C.Re->a<C.len g->C.code g a= .load x s->s<slots g/\¬R g a s 1/\¬R g a s 2
 rt:∀g a x,g<C.Re->a<C.len g->C.code g a= .ret x->∀c,c<slots g->¬R g a c 2
structure SL(C:jv)(φ:OE C)(s:St)(σ:Nat->Nat->Nat):Prop where
 a:∀f,f<s.nf->live (s.loc f)=true->∀c,c<φ.slots (s.fr f).fn->φ.R (s.fr f).fn (s.fr f).J c (σ f c)
 b:∀f,f<s.nf->s.loc f≠.waiting->∀k∈s.bD f,(s.fr k).slot<φ.slots (s.fr f).fn/\σ f (s.fr k).slot=2
 k:∀i c,i<C.N->s.pc i= .fork c->(s.fr c).slot<φ.slots (s.fr (s.fr c).par).fn/\σ (s.fr c).par (s.fr c).slot=2
 u:∀f,∀k∈s.bD f,∀k'∈s.bD f,(s.fr k).slot=(s.fr k').slot->k=k'
 v:∀i c,i<C.N->s.pc i= .fork c->∀k∈s.bD (s.fr c).par,(s.fr k).slot≠(s.fr c).slot
section
variable {C:jv}{φ:OE C}{s:St}{i:Nat}{σ:Nat->Nat->Nat}
theorem SL.of{s':St}(h:SL C φ s σ)(h1:s'.fr=s.fr)(h2:s'.nf=s.nf)(hl:∀f,live (s'.loc f)=true->live (s.loc f)=true)
 (hw:∀f,s'.loc f≠.waiting->s.loc f≠.waiting∨s'.bD f=[]) (hk:∀f,∀k∈s'.bD f,k∈s.bD f) (hp:∀i c,s'.pc i= .fork c->s.pc i= .fork c):SL C φ s' σ:=by
 obtain⟨a,b,k,u,v⟩:=h;refine⟨?_,?_,?_,?_,?_⟩
 ·intro f hf hlf;rw[h1];exact a f (h2▸ hf) (hl f hlf)
 ·intro f hf hn x hx;rw[h1];rcases hw f hn with e | e
  ·exact b f (h2▸ hf) e x (hk f x hx)
  ·rw[e]at hx;cases hx
 ·intro i c hi hc;rw[h1];exact k i c hi (hp i c hc)
 ·intro f x hx y hy;rw[h1];exact u f x (hk f x hx) y (hk f y hy)
 ·intro i c hi hc x hx;rw[h1]at hx⊢;exact v i c hi (hp i c hc) x (hk _ x hx)
theorem SL.Z8{s':St}{p:Pc}(h:SL C φ s σ)(h1:s'.fr=s.fr)(h2:s'.nf=s.nf)(h3:s'.loc=s.loc)(h4:s'.bD=s.bD)(hp:s'.pc=ck s.pc i p)(hf:∀c,p≠.fork c):SL C φ s' σ:=
 h.of h1 h2 (by rw[h3];exact λ_ x=>x) (by rw[h3];exact λ_ x=>.inl x) (by rw[h4];exact λ_ _ x=>x) (by
  intro j c hj;rw[hp,cG]at hj;split at hj
  ·exact absurd hj (hf c)
  ·exact hj)
theorem SL.put{s':St}{p:Pc}{f:Nat}{l:Loc}(h:SL C φ s σ)(h1:s'.fr=s.fr)(h2:s'.nf=s.nf)(h3:s'.loc=ck s.loc f l)(h4:s'.bD=s.bD)(hp:s'.pc=ck s.pc i p)(hf:∀c,p≠.fork c)
 (hl:live l=true->live (s.loc f)=true) (hw:s.loc f≠.waiting∨s.bD f=[]):SL C φ s' σ:=
 h.of h1 h2 (λg=>by
  rw[h3,cG];split
  ·next e=>subst e;exact hl
  ·exact id) (λg=>by
  rw[h3,cG,h4];split
  ·next e=>subst e;exact λ_=>hw
  ·exact λx=>.inl x) (by rw[h4];exact λ_ _ x=>x) (by
  intro j c hj;rw[hp,cG]at hj;split at hj
  ·exact absurd hj (hf c)
  ·exact hj)
def RR(x:Fr):Nat×Nat×Nat:=(x.fn,x.slot,x.par)
theorem SL.tail{s':St}{σ':Nat->Nat->Nat}(h:SL C φ s σ)(h1:∀f,RR (s'.fr f)=RR (s.fr f))(h2:s'.nf=s.nf)
 (hw:∀f,s'.loc f≠.waiting->(s.loc f≠.waiting/\∀c,σ f c=2->σ' f c=2)∨s'.bD f=[]) (hk:∀f,∀k∈s'.bD f,k∈s.bD f) (hp:∀i c,i<C.N->s'.pc i= .fork c->s.pc i= .fork c/\∀x,σ (s.fr c).par x=2->σ' (s.fr c).par x=2)
 (ha:∀f,f<s'.nf->live (s'.loc f)=true->∀c,c<φ.slots (s'.fr f).fn->φ.R (s'.fr f).fn (s'.fr f).J c (σ' f c)):SL C φ s' σ':=by
 have fn_:∀g,(s'.fr g).fn=(s.fr g).fn:=λg=>nR (·.1) (h1 g);have aW:∀g,(s'.fr g).slot=(s.fr g).slot:=λg=>nR (·.2.1) (h1 g);have pr_:∀g,(s'.fr g).par=(s.fr g).par:=λg=>nR (·.2.2) (h1 g);refine⟨ha,?_,?_,?_,?_⟩
 ·intro f hf hn x hx;rw[fn_,aW];rcases hw f hn with e | e
  ·have:=h.b f (h2▸ hf) e.1 x (hk f x hx);exact⟨this.1,e.2 _ this.2⟩
  ·rw[e]at hx;cases hx
 ·intro i c hi hc;rw[pr_,fn_,aW];have:=h.k i c hi (hp i c hi hc).1;exact⟨this.1,(hp i c hi hc).2 _ this.2⟩
 ·intro f x hx y hy;rw[aW,aW];exact h.u f x (hk f x hx) y (hk f y hy)
 ·intro i c hi hc x hx;rw[pr_]at hx;rw[aW,aW];exact h.v i c hi (hp i c hi hc).1 x (hk _ x hx)
theorem zJ{f:Nat}{y:Fr}(hy:RR y=RR (s.fr f))(g:Nat):RR (ck s.fr f y g)=RR (s.fr g):=by
 rw[cG];split
 ·next e=>rw[e,hy]
 ·rfl
theorem SL.data{s':St}{f:Nat}{y:Fr}(h:SL C φ s σ)(hr:FR C s)(hf:(view s).FI C.N C.F)(hi:i<C.N)(hh:s.hold i=some f)
 (h1:s'.fr=ck s.fr f y) (h2:s'.nf=s.nf) (h3:s'.loc=s.loc) (h4:s'.bD=s.bD) (h5:∀i c,s'.pc i= .fork c->s.pc i= .fork c) (hy:RR y=RR (s.fr f))
 (hn:y.J∈EI C (s.fr f).fn (s.fr f).J) (ha:∀c st,Qf (C.code (s.fr f).fn (s.fr f).J) c st=st):SL C φ s' σ:=by
 obtain⟨hl,hlt⟩:=ou hf hi hh;obtain⟨b1,b2,b3⟩:=hr f hlt;refine h.tail (λg=>by rw[h1];exact zJ hy g) h2 (λg hg=>.inl ⟨h3▸ hg,λ_ e=>e⟩) (λg k hk=>h4▸ hk) (λi c _ hc=>⟨h5 i c hc,λ_ e=>e⟩) (λg hg PR c hc => ?_);rw[h3]at PR;have hfn:(s'.fr g).fn=(s.fr g).fn:=by have:=nR (·.1) (zJ (s:=s) hy g);rw[h1];exact this
 rw[hfn]at hc⊢;by_cases e:g=f
 ·subst e;rw[h1,aC];have:=φ.rn _ _ c _ b1 (b3 hl) hc (h.a g hlt hl c hc) _ hn
  rwa [ha]at this
 ·rw[h1,aA e];exact h.a g (h2▸ hg) PR c hc
theorem SL.sync{s':St}{f:Nat}{y:Fr}{l:Loc}(h:SL C φ s σ)(hr:FR C s)(hf:(view s).FI C.N C.F)(hi:i<C.N)(hh:s.hold i=some f)(hp:s.pc i= .run)
 (hc:C.code (s.fr f).fn (s.fr f).J= .sync) (h1:s'.fr=ck s.fr f y) (h2:s'.nf=s.nf) (h3:s'.loc=ck s.loc f l) (hl:l= .waiting∨s.bD f=[]) (h4:s'.bD=s.bD) (h5:∀j c,s'.pc j= .fork c->j≠i/\s.pc j= .fork c)
 (hy:RR y=RR (s.fr f)) (hn:y.J=(s.fr f).J+1):SL C φ s' (ck σ f (λc=>if σ f c=2 then 4 else σ f c)):=by
 obtain⟨hl',hlt⟩:=ou hf hi hh;obtain⟨b1,b2,b3⟩:=hr f hlt;refine h.tail (λg=>by rw[h1];exact zJ hy g) h2 (λg hg => ?_) (λg k hk=>h4▸ hk) (λj c hj hc=>⟨(h5 j c hc).2,λx hx => ?_⟩) (λg hg PR c Gf => ?_)
 ·rw[h3,cG]at hg;by_cases e:g=f
  ·subst e;rw[bg rfl]at hg;rcases hl with e | e
   ·exact absurd e hg
   ·exact .inr (by rw[h4];exact e)
  ·rw[cQ e]at hg;exact .inl ⟨hg,λc e'=>by rw[aA e];exact e'⟩
 ·have q:=(hf.fk j c hj (by show sig (s.pc j)=_;rw[(h5 j c hc).2];rfl)).2.2.1;have hne:(s.fr c).par≠f:=λe=>(h5 j c hc).1 (AZ hf hj hi q (by show s.hold i=some (s.fr c).par;rw[e];exact hh));rw[aA hne];exact hx
 ·have hfn:(s'.fr g).fn=(s.fr g).fn:=by have:=nR (·.1) (zJ (s:=s) hy g);rw[h1];exact this
  rw[hfn]at Gf⊢;by_cases e:g=f
  ·subst e;rw[h1,aC,aC,hn];have:=φ.rn _ _ c _ b1 (b3 hl') Gf (h.a g hlt hl' c Gf) ((s.fr g).J+1) (by unfold EI;rw[hc];exact List.mem_singleton.2 rfl)
   rwa [hc]at this
  ·rw[h1,aA e,aA e];rw[h3,aA e]at PR;exact h.a g (h2▸ hg) PR c Gf
theorem SL.spawn{s':St}{f:Nat}{y c0:Fr}{sl g0 c:Nat}(h:SL C φ s σ)(hr:FR C s)(hf:(view s).FI C.N C.F)(hi:i<C.N)(hh:s.hold i=some f)(hp:s.pc i= .run)
 (hc:C.code (s.fr f).fn (s.fr f).J= .spawn sl g0 c) (Mc:g0<C.Re) (h1:s'.fr=ck (ck s.fr f y) s.nf c0) (h2:s'.nf=s.nf+1) (h3:s'.loc=ck s.loc s.nf (.bW i)) (h4:s'.bD=s.bD) (h5:s'.pc=ck s.pc i (.fork s.nf))
 (hy:RR y=RR (s.fr f)) (hn:y.J=(s.fr f).J+1) (hc0:c0.fn=g0/\c0.slot=sl/\c0.par=f/\c0.J=0):SL C φ s' (ck (ck σ f (ck (σ f) sl 2)) s.nf (λ_=>1)):=by
 obtain⟨hl',hlt⟩:=ou hf hi hh;obtain⟨b1,b2,b3⟩:=hr f hlt;obtain⟨s1,s2⟩:=φ.sp _ _ _ _ _ b1 (b3 hl') hc;have hfr:∀g,g<s.nf->RR (s'.fr g)=RR (s.fr g):=λg hg=>by rw[h1,aA I];exact zJ hy g
 have W9:s'.fr s.nf=c0:=by rw[h1,aC]
 have fn_:∀g,g<s.nf->(s'.fr g).fn=(s.fr g).fn:=λg hg=>nR (·.1) (hfr g hg);have aW:∀g,g<s.nf->(s'.fr g).slot=(s.fr g).slot:=λg hg=>nR (·.2.1) (hfr g hg);have pr_:∀g,g<s.nf->(s'.fr g).par=(s.fr g).par:=λg hg=>nR (·.2.2) (hfr g hg);have kl:∀p,∀k∈s.bD p,k<s.nf/\p<s.nf:=λp k hk=>by
  have a:=hf.kd p k hk;have b:k<s.nf:=by
   rcases BZ k s.nf with h | h
   ·exact h
   ·exact absurd (hf.free k h) a.2.2.2
  exact⟨b,a.2.1▸ hf.pr k b⟩
 have hσ:∀g,g<s.nf->∀c,σ g c=2->ck (ck σ f (ck (σ f) sl 2)) s.nf (λ_=>1) g c=2:=λg hg c e=>by
  rw[aA I,cG];split
  ·next e' =>
   subst e';rw[cG];split
   ·rfl
   ·exact e
  ·exact e
 have afd:σ f sl≠2:=λe=>s2 (e▸ h.a f hlt hl' sl s1);have hlf:s.loc f≠.waiting:=by rcases hf.hold i f hi hh with a | a<;>(have:=a.2;change s.loc f=_ at this;rw[this];simp)
 have ff:∀j c,s'.pc j= .fork c->(j=i/\c=s.nf)∨(j≠i/\s.pc j= .fork c):=λj c hj=>by
  rw[h5,cG]at hj;split at hj
  ·next e=>cases hj;exact .inl ⟨e,rfl⟩
  ·next e=>exact .inr ⟨e,hj⟩
 have fkl:∀j c,j<C.N->s.pc j= .fork c->c<s.nf:=λj c hj hc=>by
  have a:=(hf.fk j c hj (by show sig (s.pc j)=_;rw[hc];rfl)).2.1;rcases BZ c s.nf with h | h
  ·exact h
  ·have:=hf.free c h;rw[this]at a;cases a
 refine⟨?_,?_,?_,?_,?_⟩
 ·intro g hg PR c Gf;by_cases e:g=s.nf
  ·subst e;rw[W9]at Gf⊢;rw[aC,hc0.1,hc0.2.2.2];exact φ.r0 _ Mc c (hc0.1▸ Gf)
  ·have Iz:g<s.nf:=by omega
   rw[fn_ g Iz]at Gf⊢;rw[h3,aA e]at PR;rw[aA e];by_cases e2:g=f
   ·subst e2;rw[h1,aA e,aC,aC,hn];have:=φ.rn _ _ c _ b1 (b3 hl') Gf (h.a g hlt hl' c Gf) ((s.fr g).J+1) (by unfold EI;rw[hc];exact List.mem_singleton.2 rfl);rw[hc]at this;simp only[Qf]at this;rw[cG];simp only[eq_comm (a:=c)];exact this
   ·rw[h1,aA e,aA e2,aA e2];exact h.a g Iz PR c Gf
 ·intro g hg hn x hx;rw[h4]at hx;obtain⟨kx,kg⟩:=kl g x hx;rw[fn_ g kg,aW x kx];rw[h3,aA I]at hn;have:=h.b g kg hn x hx;exact⟨this.1,hσ g kg _ this.2⟩
 ·intro j c hj Gf;rcases ff j c Gf with ⟨rfl,rfl⟩ | ⟨e,e'⟩
  ·rw[W9,hc0.2.1,hc0.2.2.1,fn_ f hlt];refine⟨s1,?_⟩;rw[aA I,aC,aC]
  ·have c':=fkl j c hj e';have c'':=hf.pr c c';rw[pr_ c c',aW c c',fn_ (s.fr c).par c''];have:=h.k j c hj e';exact⟨this.1,hσ _ c'' _ this.2⟩
 ·intro g x hx y' hy';rw[h4]at hx hy';rw[aW x (kl g x hx).1,aW y' (kl g y' hy').1];exact h.u g x hx y' hy'
 ·intro j c hj Gf x hx;rw[h4]at hx;rcases ff j c Gf with ⟨rfl,rfl⟩ | ⟨e,e'⟩
  ·rw[W9,hc0.2.2.1]at hx;rw[W9,hc0.2.1,aW x (kl f x hx).1];intro e;have:=(h.b f hlt hlf x hx).2;rw[e]at this;exact afd this
  ·have c':=fkl j c hj e';rw[pr_ c c']at hx;rw[aW c c',aW x (kl _ x hx).1];exact h.v j c hj e' x hx
theorem SL.JJ(h:SL C φ s σ)(hr:FR C s)(hf:(view s).FI C.N C.F)(hi:i<C.N){f a:Nat}(hh:s.hold i=some f)(hc:C.code (s.fr f).fn (s.fr f).J= .ret a):s.bD f=[]:=by
 obtain⟨hl',hlt⟩:=ou hf hi hh;obtain⟨b1,b2,b3⟩:=hr f hlt;have hlf:s.loc f≠.waiting:=by rcases hf.hold i f hi hh with a | a<;>(have:=a.2;change s.loc f=_ at this;rw[this];simp)
 match hk:s.bD f with
 | []=>rfl
 | k::l =>
  obtain⟨x1,x2⟩:=h.b f hlt hlf k (by rw[hk];simp);exact absurd (x2▸ h.a f hlt hl' _ x1) (φ.rt _ _ _ b1 (b3 hl') hc _ x1)
end
theorem RS{α β:Type}[DecidableEq α](f:α->β)(a:α)(x y:β):ck (ck f a x) a y=ck f a y:=by
 funext z;simp only[cG];split<;>rfl
section
variable {C:jv}{φ:OE C}{s:St}{i:Nat}{σ:Nat->Nat->Nat}
theorem Tz(hf:(view s).FI C.N C.F)(hi:i<C.N){f:Nat}(hh:s.hold i=some f)(hp:s.pc i= .run)(hn:¬0<s.mem (.join f)-1):s.bD f=[]:=by
 have a:=hf.hold i f hi hh;have hg:(view s).g i= .run:=by show sig (s.pc i)=_;rw[hp];rfl
 rcases a with a | a
 ·rw[hg]at a;cases a.1
 ·have z:=hf.jn f (ou hf hi hh).2;rw[a.2]at z;have z:s.mem (.join f)=1+((s.bD f).length:Int):=z;exact GM I
theorem SL.instr(hC:C.OK)(h:SL C φ s σ)(hr:FR C s)(hf:(view s).FI C.N C.F)(hi:i<C.N)(hp:s.pc i= .run) :∃σ',SL C φ (instr C s i).s σ':=by
 obtain⟨f,hh⟩:=ry hf hi (by rw[hp];rfl);obtain⟨hl,hn⟩:=ou hf hi hh;obtain⟨a1,a2,a3⟩:=hr f hn;have a3:=a3 hl;have ok:=hC.ins _ a1 _ a3;have hw:s.loc f≠.waiting:=by rcases hf.hold i f hi hh with a | a<;>(have:=a.2;change s.loc f=_ at this;rw[this];simp)
 have nf:∀j c,ck s.pc i .run j= .fork c->s.pc j= .fork c:=λj c e=>by
  rw[cG]at e;split at e
  ·cases e
  ·exact e
 unfold Oj at ok;unfold Am.instr;simp only[hh,pG];split<;>rename_i hc<;>rw[hc]at ok<;>simp only at ok
 ·exact⟨σ,h.data hr hf hi hh rfl rfl rfl rfl (λ_ _ e=>e) rfl (by unfold EI;rw[hc];exact List.mem_singleton.2 rfl) (λc st=>by rw[hc];rfl)⟩
 ·exact⟨σ,h.data hr hf hi hh rfl rfl rfl rfl (λ_ _ e=>e) rfl (by unfold EI;rw[hc];exact List.mem_singleton.2 rfl) (λc st=>by rw[hc];rfl)⟩
 ·exact⟨σ,h.data hr hf hi hh rfl rfl rfl rfl (λ_ _ e=>e) rfl (by unfold EI;rw[hc];exact List.mem_singleton.2 rfl) (λc st=>by rw[hc];rfl)⟩
 ·exact⟨σ,h.data hr hf hi hh rfl rfl rfl rfl (λ_ _ e=>e) rfl (by unfold EI;rw[hc];exact List.mem_singleton.2 rfl) (λc st=>by rw[hc];rfl)⟩
 ·refine⟨σ,h.data hr hf hi hh rfl rfl rfl rfl (λ_ _ e=>e) (by split<;>rfl) ?_ (λc st=>by rw[hc];rfl)⟩;rename_i b_;have e:EI C (s.fr f).fn (s.fr f).J=[(s.fr f).J+1,b_]:=by unfold EI;rw[hc]
  rw[e];split
  ·exact MW _ (List.mem_singleton.2 rfl)
  ·exact List.mem_cons.2 (.inl rfl)
 ·exact⟨σ,h.data hr hf hi hh rfl rfl rfl rfl (λ_ _ e=>e) rfl (by unfold EI;rw[hc];exact List.mem_singleton.2 rfl) (λc st=>by rw[hc];rfl)⟩
 ·exact⟨σ,h.data hr hf hi hh rfl rfl rfl rfl (λ_ _ e=>e) rfl (by unfold EI;rw[hc];exact List.mem_singleton.2 rfl) (λc st=>by rw[hc];rfl)⟩
 ·rename_i sl g c;split
  ·refine⟨ck σ f (ck (σ f) sl 2),h.tail (λk=>zJ (s:=s) (f:=f) (y:={s.fr f with J:=(s.fr f).J+1}) rfl k) rfl (λk hk=>.inl ⟨hk,λc' e => ?_⟩) (λ_ _ e=>e) (λj c' hj e => ?_) (λk hk hlk c' Gf => ?_)⟩
   ·rw[cG];split
    ·next e' =>
      subst e';rw[cG];split
      ·rfl
      ·exact e
    ·exact e
   ·have e:ck s.pc i .full j= .fork c':=e;rw[cG]at e;split at e
    ·cases e
    ·refine⟨e,λx hx => ?_⟩;rw[cG];split
     ·next e' =>
       rw[cG];split
       ·rfl
       ·exact e'▸ hx
     ·exact hx
   ·have hfn:(ck s.fr f {s.fr f with J:=(s.fr f).J+1} k).fn=(s.fr k).fn:=nR (·.1) (zJ (s:=s) (f:=f) (y:={s.fr f with J:=(s.fr f).J+1}) rfl k);show φ.R (ck s.fr f {s.fr f with J:=(s.fr f).J+1} k).fn (ck s.fr f {s.fr f with J:=(s.fr f).J+1} k).J c' _;have M9:c'<φ.slots (ck s.fr f {s.fr f with J:=(s.fr f).J+1} k).fn:=Gf;clear Gf;rw[hfn]at M9⊢;by_cases e:k=f
    ·subst e;rw[aC,aC];have:=φ.rn _ _ c' _ a1 a3 M9 (h.a k hn hl c' M9) ((s.fr k).J+1) (by unfold EI;rw[hc];exact List.mem_singleton.2 rfl);rw[hc]at this;simp only[Qf]at this;rw[cG];simp only[eq_comm (a:=c')];exact this
    ·rw[aA e,aA e];exact h.a k hk hlk c' M9
  ·refine⟨_,h.spawn (y:={s.fr f with J:=(s.fr f).J+1,bD:=(s.fr f).bD+1}) (c0:=kR C (s.fr f) f sl g c) hr hf hi hh hp hc ok.2.1 ?_ rfl rfl rfl rfl rfl rfl ⟨rfl,rfl,rfl,rfl⟩⟩;show ck (ck (ck s.fr f _) f _) s.nf _=_;rw[RS]
 ·split
  ·exact⟨_,h.sync (l:=.waiting) hr hf hi hh hp hc rfl rfl rfl (.inl rfl) rfl (λj c e=>by
    have e:ck s.pc i .Ae j= .fork c:=e;rw[cG]at e;split at e
    ·cases e
    ·next hne=>exact⟨hne,e⟩) rfl rfl⟩
  ·rename_i hk;exact⟨_,h.sync (l:=.uy i) hr hf hi hh hp hc rfl rfl rfl (.inr (Tz hf hi hh hp hk)) rfl (λj c e=>by
    have e:ck s.pc i .nB j= .fork c:=e;rw[cG]at e;split at e
    ·cases e
    ·next hne=>exact⟨hne,e⟩) rfl rfl⟩
 ·rename_i a;have hk:=h.JJ hr hf hi hh hc;have fin:∀(p:Pc),(∀c,p≠.fork c)->∀(s':St),s'.fr=ck s.fr f {s.fr f with J:=(s.fr f).J+1}->s'.nf=s.nf->s'.loc=ck s.loc f (.fin i)->s'.bD=s.bD->s'.pc=ck s.pc i p->SL C φ s' σ:=by
   intro p hp s' e1 e2 e3 e4 e5;refine h.tail (λk=>by rw[e1];exact zJ (s:=s) (f:=f) (y:={s.fr f with J:=(s.fr f).J+1}) rfl k) e2 (λk hk' => ?_) (λk x hx=>e4▸ hx) (λj c hj e => ?_) (λk hk' hlk c' Gf => ?_)
   ·by_cases e:k=f
    ·subst e;exact .inr (by rw[e4];exact hk)
    ·rw[e3,aA e]at hk';exact .inl ⟨hk',λ_ e=>e⟩
   ·rw[e5,cG]at e;split at e
    ·exact absurd e (hp c)
    ·exact⟨e,λ_ e=>e⟩
   ·have ek:k≠f:=λe=>by rw[e,e3,aC]at hlk;cases hlk
    rw[e1,aA ek]at Gf⊢;rw[e3,aA ek]at hlk;exact h.a k (e2▸ hk') hlk c' Gf
  split
  ·next e0=>subst e0;exact⟨σ,fin .done (λc e=>by cases e) _ rfl rfl rfl rfl rfl⟩
  ·exact⟨σ,fin (.out (s.fr f).par f) (λc e=>by cases e) _ rfl rfl rfl rfl rfl⟩
theorem SL.aH(hC:C.OK)(h:SL C φ s σ)(hr:FR C s)(hf:(view s).FI C.N C.F)(hd:DT C s)(hi:i<C.N)(d:Int) :∃σ',SL C φ (aH C s i d).s σ':=by
 cases hp:s.pc i with
 | run=>unfold Am.aH;rw[hp];exact SL.instr hC h hr hf hi hp
 | fork c =>
  obtain⟨f,hh⟩:=ry hf hi (by rw[hp];rfl);obtain⟨hl,hn⟩:=ou hf hi hh;have hg:(view s).g i= .fork c:=by show sig (s.pc i)=_;rw[hp];rfl
  have fk:=hf.fk i c hi hg;have ep:(s.fr c).par=f:=Option.some.inj (fk.2.2.1.symm.trans hh);unfold Am.aH;rw[hp];simp only[hh,pG];refine⟨σ,?_⟩;have kf:∀g k,k∈ck s.bD f (c::s.bD f) g->(g=f/\k=c)∨k∈s.bD g:=λg k e=>by
   rw[cG]at e;split at e
   ·next e' =>
     rcases List.mem_cons.1 e with e | e
     ·exact .inl ⟨e',e⟩
     ·exact .inr (e'▸ e)
   ·exact .inr e
  have pf:∀j x,ck s.pc i (.ya c) j= .fork x->j≠i/\s.pc j= .fork x:=λj x e=>by
   rw[cG]at e;split at e
   ·cases e
   ·next e'=>exact⟨e',e⟩
  have h2:=h.k i c hi hp;have h3:=h.v i c hi hp;rw[ep]at h2 h3;refine⟨h.a,?_,?_,?_,?_⟩
  ·intro g hg hw k hk;rcases kf g k hk with ⟨rfl,rfl⟩ | e
   ·exact h2
   ·exact h.b g hg hw k e
  ·intro j x hj e;exact h.k j x hj (pf j x e).2
  ·intro g k hk k' hk' e;rcases kf g k hk with ⟨e1,rfl⟩ | e1
   ·rcases kf g k' hk' with ⟨_,rfl⟩ | e2
    ·rfl
    ·subst e1;exact absurd e.symm (h3 k' e2)
   ·rcases kf g k' hk' with ⟨e3,rfl⟩ | e2
    ·subst e3;exact absurd e (h3 k e1)
    ·exact h.u g k e1 k' e2 e
  ·intro j x hj e k hk;obtain⟨n1,n2⟩:=pf j x e;rcases kf _ k hk with ⟨e1,rfl⟩ | e1
   ·exfalso
    have q:=(hf.fk j x hj (by show sig (s.pc j)=_;rw[n2];rfl)).2.2.1;have q:s.hold j=some (s.fr x).par:=q;have e1:(s.fr x).par=f:=e1;rw[e1]at q;exact n1 (AZ hf hj hi q hh)
   ·exact h.v j x hj n2 k e1
 | start x =>
  unfold Am.aH;rw[hp];simp only;exact⟨σ,h.Z8 rfl rfl rfl rfl rfl (λc e=>by cases e)⟩
 | nB =>
  obtain⟨f,hh⟩:=ry hf hi (by rw[hp];rfl);unfold Am.aH;rw[hp];simp only[hh,pG];have hg:(view s).g i= .one:=by show sig (s.pc i)=_;rw[hp];rfl
  refine⟨σ,h.put rfl rfl rfl rfl rfl (λc e=>by cases e) (λ_=>(ou hf hi hh).1) (.inl ?_)⟩;rcases hf.hold i f hi hh with a | a<;>(have:=a.2;change s.loc f=_ at this;rw[this];simp)
 | out p c =>
  have hg:(view s).g i= .out p c:=by show sig (s.pc i)=_;rw[hp];rfl
  unfold Am.aH;rw[hp];simp only;have hc:=(hf.out i p c hi hg).2.1;have hc:s.loc c= .fin i:=hc;have pf:∀(q:Pc),(∀x,q≠.fork x)->∀j x,ck s.pc i q j= .fork x->s.pc j= .fork x:=λq hq j x e=>by
   rw[cG]at e;split at e
   ·exact absurd e (hq x)
   ·exact e
  have ke:∀g,∀k∈ck s.bD p ((s.bD p).erase c) g,k∈s.bD g:=λg k hk=>by
   rw[cG]at hk;split at hk
   ·next e=>subst e;exact List.mem_of_mem_erase hk
   ·exact hk
  split
  ·rename_i hn;obtain⟨hw,hk,hne⟩:=hf.jt hi hg hn;have hw:s.loc p= .waiting:=hw;have hk:s.bD p=[c]:=hk;refine⟨σ,h.of rfl rfl (λg hg => ?_) (λg hg => ?_) ke (pf _ (λx e=>by cases e))⟩
   ·have hg:live (ck (ck s.loc c .gone) p (.qJ i) g)=true:=hg;rw[cG]at hg;split at hg
    ·next e=>subst e;rw[hw];rfl
    ·rw[cG]at hg;split at hg
     ·cases hg
     ·exact hg
   ·by_cases e:g=p
    ·subst e;right;show ck s.bD g _ g=[];rw[aC,hk];simp
    ·have hg:ck (ck s.loc c .gone) p (.qJ i) g≠.waiting:=hg;rw[aA e,cG]at hg;split at hg
     ·next e=>left;rw[e,hc];simp
     ·exact .inl hg
  ·refine⟨σ,h.of rfl rfl (λg hg => ?_) (λg hg => ?_) ke (pf _ (λx e=>by cases e))⟩
   ·have hg:live (ck s.loc c .gone g)=true:=hg;rw[cG]at hg;split at hg
    ·cases hg
    ·exact hg
   ·have hg:ck s.loc c .gone g≠.waiting:=hg;rw[cG]at hg;split at hg
    ·next e=>left;rw[e,hc];simp
    ·exact .inl hg
 | take p c =>
  have hg:(view s).g i= .take p c:=by show sig (s.pc i)=_;rw[hp];rfl
  unfold Am.aH;rw[hp];simp only;have e:s.loc p= .qJ i:=hf.tk i p c hi hg;exact⟨σ,h.put rfl rfl rfl rfl rfl (λc e=>by cases e) (λ_=>by rw[e];rfl) (.inl (by rw[e];simp))⟩
 | nC c b =>
  have hg:(view s).g i= .push c:=by show sig (s.pc i)=_;rw[hp];rfl
  have e:s.loc c= .bW i:=(hf.ps i c hi hg).2.1;unfold Am.aH;rw[hp];simp only;exact⟨σ,h.put rfl rfl rfl rfl rfl (λc e=>by cases e) (λ_=>by rw[e];rfl) (.inl (by rw[e];simp))⟩
 | zi b =>
  have P:=(hd.1 i hi).ph;unfold rJ at P;rw[hp]at P;simp only at P;unfold Am.aH;rw[hp];simp only;split
  ·rename_i hlt;have hne:s.q i≠[]:=by
    intro e;simp only[St.L,St.T,e,zp]at P;omega
   have hm:(s.q i).getLastD 0∈s.q i:=by
    rw[MY,List.getLast?_eq_some_getLast hne];exact List.getLast_mem hne
   have e:s.loc ((s.q i).getLastD 0)= .Of i:=(hf.q i _ hi hm).2;exact⟨σ,h.put rfl rfl rfl rfl rfl (λc e=>by cases e) (λ_=>by rw[e];rfl) (.inl (by rw[e];simp))⟩
  ·split<;>exact⟨σ,h.Z8 rfl rfl rfl rfl rfl (λc e=>by cases e)⟩
 | nD b t cc =>
  have P:=(hd.1 i hi).ph;unfold rJ at P;rw[hp]at P;simp only at P;unfold Am.aH;rw[hp];simp only;split
  ·rename_i hlt;obtain⟨x,hx,he⟩:=(P.1.2.2.2.1 hlt).2.2;rw[<-P.2]at he;rw[he];have e:s.loc x= .pop i:=(hf.pop i x hi hx).2;refine⟨σ,h.put (f:=x) (l:=.held i) (p:=.start (-1)) rfl rfl (by simp only[got,St.put,St.oq,St.to,St.holds,di]) rfl rfl (λc e=>by cases e) (λ_=>by rw[e];rfl) (.inl (by rw[e];simp))⟩
  ·exact⟨σ,h.Z8 rfl rfl rfl rfl rfl (λc e=>by cases e)⟩
 | qH b t x =>
  have P:=(hd.1 i hi).ph;unfold rJ at P;rw[hp]at P;simp only at P;unfold Am.aH;rw[hp];simp only;split
  ·rename_i ht;have hq:=(P.2.2.2.2.1 ht).1;have e:s.loc x.toNat= .Of i:=(hf.q i _ hi (by show x.toNat∈s.q i;rw[hq];simp)).2;exact⟨σ,h.put rfl rfl rfl rfl rfl (λc e=>by cases e) (λ_=>by rw[e];rfl) (.inl (by rw[e];simp))⟩
  ·exact⟨σ,h.Z8 rfl rfl rfl rfl rfl (λc e=>by cases e)⟩
 | oP t x Bi =>
  have P:=(hd.1 i hi).ph;unfold rJ at P;rw[hp]at P;simp only at P;unfold Am.aH;rw[hp];simp only;split
  ·rename_i hw;have e:s.loc x.toNat= .pop i:=(hf.pop i _ hi (P.2.2.2 hw).1).2;exact⟨σ,h.put (f:=x.toNat) (l:=.held i) (p:=.start (-1)) rfl rfl rfl rfl rfl (λc e=>by cases e) (λ_=>by rw[e];rfl) (.inl (by rw[e];simp))⟩
  ·refine⟨σ,h.Z8 (p:=if C.N=1 then .flag else .lS) rfl rfl rfl rfl rfl (λc e => ?_)⟩;split at e<;>cases e
 | qm v t x =>
  have HT:=hd.2 i hi;unfold Th at HT;rw[hp]at HT;simp only at HT;unfold Am.aH;rw[hp];simp only;split
  ·rename_i ht;obtain⟨y,l,hq,hx⟩:=HT.2.2.2 ht.symm;have e:s.loc x.toNat= .Of v:=(hf.q v _ HT.1 (by show x.toNat∈s.q v;rw[hq,hx];simp)).2;exact⟨σ,h.put (f:=x.toNat) (l:=.held i) (p:=.start v) rfl rfl rfl rfl rfl (λc e=>by cases e) (λ_=>by rw[e];rfl) (.inl (by rw[e];simp))⟩
  ·exact⟨σ,h.Z8 rfl rfl rfl rfl rfl (λc e=>by cases e)⟩
 | halted=>unfold Am.aH;rw[hp];exact⟨σ,h⟩
 | full=>unfold Am.aH;rw[hp];exact⟨σ,h⟩
 | parked =>
  unfold Am.aH;rw[hp];simp only;split
  ·exact⟨σ,h⟩
  ·refine⟨σ,h.Z8 (p:=if C.N=1 then .flag else .lS) rfl rfl rfl rfl rfl (λc e => ?_)⟩;split at e<;>cases e
 | _ =>
  unfold Am.aH;rw[hp];simp only[n8,looking,C8,AW]
  repeat' split
  all_goals exact⟨σ,h.Z8 rfl rfl rfl rfl rfl (λc e=>by first | (cases e;done) | (split at e<;>cases e;done) | (split at e<;>(try split at e)<;>cases e;done))⟩
end
structure TS where
 J:Nat
 bu:Nat->Int
 sl:Nat->Int
 bD:Nat
def FF(C:jv)(g:Nat)(pd:Int)(x:TS):Option TS:=
 match C.code g x.J with
 | .const a k=>some {x with J:=x.J+1,bu:=ck x.bu a k}
 | .move a b=>some {x with J:=x.J+1,bu:=ck x.bu a (x.bu b)}
 | .arith op a b c=>some {x with J:=x.J+1,bu:=ck x.bu a (C.ap op (x.bu b) (x.bu c))}
 | .jump a=>some {x with J:=a}
 | .branch a b=>some {x with J:=if x.bu a≠0 then b else x.J+1}
 | .mN a=>some {x with J:=x.J+1,bu:=ck x.bu a pd}
 | .load a s=>some {x with J:=x.J+1,bu:=ck x.bu a (x.sl s)}
 | .sync=>some {x with J:=x.J+1}
 | .spawn _ _ _=>none
 | .ret _=>none
def Xa(a:Nat->Int):TS:=⟨0,a,λ_=>0,0⟩
def arg(C:jv)(x:Nat->Int)(g c:Nat):Nat->Int:=λr=>if r<C.params g then x (c+r)else 0
inductive Pre(C:jv):Nat->Int->Nat->TS->TS->Nat->Nat->Prop
 | nil (g:Nat) (pd:Int) (d:Nat) (x:TS):Pre C g pd d x x 0 0
 | FF {g:Nat} {pd:Int} {d:Nat} {x y z:TS} {n t:Nat} (h:Pre C g pd d x y n t) (e:FF C g pd y=some z):Pre C g pd d x z (n+1) t
 | spawn {g:Nat} {pd:Int} {d:Nat} {x y z:TS} {n t s f c n1 t1 a:Nat} (h:Pre C g pd d x y n t) (e:C.code g y.J= .spawn s f c) (hd:d<4096)
  (h1:Pre C f (C.pd pd y.bD) (d+1) (Xa (arg C y.bu f c)) z n1 t1) (e1:C.code f z.J= .ret a) :
  Pre C g pd d x {y with J:=y.J+1,sl:=ck y.sl s (z.bu a),bD:=y.bD+1} (n+1+(n1+1)) (t+(t1+1))
structure Lh where
 fn:Nat
 mN:Int
 dp:Nat
 a0:Nat->Int
def Dn(C:jv)(D:Lh)(r:Int×Nat×Nat):Prop:=∃z a n t,Pre C D.fn D.mN D.dp (Xa D.a0) z n t/\C.code D.fn z.J= .ret a/\r=(z.bu a,n+1,t+1)
structure SG where
 pn:Nat->Nat->Option Nat
 ds:Nat->Lh
 wk:Nat->Nat
 tk:Nat->Nat
def TA(p:Nat->Option Nat)(m:Nat->Int)(vs:Nat->Int×Nat×Nat)(x:Nat):Int:=match p x with
 | some c=>(vs c).1
 | none=>m x
def wn(p:Nat->Option Nat)(vs:Nat->Int×Nat×Nat)(x:Nat):Nat:=match p x with
 | some c=>(vs c).2.1
 | none=>0
def tn(p:Nat->Option Nat)(vs:Nat->Int×Nat×Nat)(x:Nat):Nat:=match p x with
 | some c=>(vs c).2.2
 | none=>0
def KA(s:St)(f:Nat):Nat->Int:=λx=>s.mem (.slot f x)
def xQ(C:jv)(s:St)(f:Nat):Prop:=∀i,i<C.N->s.pc i= .full->s.hold i≠some f
def AF(C:jv)(s:St)(γ:SG)(f:Nat):Prop:=∀vs:Nat->Int×Nat×Nat,(∀x c,γ.pn f x=some c->Dn C (γ.ds c) (vs c))->
 Pre C (γ.ds f).fn (γ.ds f).mN (γ.ds f).dp (Xa (γ.ds f).a0) ⟨(s.fr f).J,(s.fr f).bu,TA (γ.pn f) (KA s f) vs,(s.fr f).bD⟩ (γ.wk f+fA (wn (γ.pn f) vs) 8) (γ.tk f+fA (tn (γ.pn f) vs) 8)
structure SI(C:jv)(D0:Lh)(s:St)(γ:SG)(g:Nat):Prop where
 A:∀f,f<s.nf->live (s.loc f)=true->xQ C s f->AF C s γ f
 D:∀f,f<s.nf->(γ.ds f).fn=(s.fr f).fn/\(γ.ds f).mN=(s.fr f).mN/\(γ.ds f).dp<=f+1
 d0:γ.ds 0=D0
 pn:∀f x c,γ.pn f x=some c->c≠0/\c<s.nf/\(s.fr c).par=f/\(s.fr c).slot=x/\live (s.loc c)=true
 np:∀c,c≠0->c<s.nf->live (s.loc c)=true->γ.pn (s.fr c).par (s.fr c).slot=some c
 z:∀f,s.nf<=f->(∀x,s.mem (.slot f x)=0)/\γ.wk f=0/\γ.tk f=0/\∀x,γ.pn f x=none
 w:fA γ.wk s.nf<=g
theorem tG{f:Nat->Nat}:∀{n:Nat},(∀j,j<n->f j=0)->fA f n=0
 | 0,_=>rfl
 | n+1,h=>by show fA f n+f n=0;rw[tG (λj hj=>h j I),h n I]
theorem MF{f:Nat->Nat}{i:Nat}:∀{n:Nat},i<n->f i<=fA f n
 | 0,h=>by omega
 | n+1,h=>by
  show f i<=fA f n+f n;by_cases e:i=n
  ·subst e;omega
  ·have:=MF (f:=f) (i:=i) (n:=n) I;omega
section
variable {C:jv}{φ:OE C}{s:St}{i:Nat}{σ:Nat->Nat->Nat}{D0:Lh}{γ:SG}{g:Nat}
theorem SI.of{s':St}(h:SI C D0 s γ g)(h1:s'.fr=s.fr)(h2:s'.nf=s.nf)(hm:∀f x,s'.mem (.slot f x)=s.mem (.slot f x))(hl:∀f,live (s'.loc f)=live (s.loc f))
 (hp:∀j,s.pc j= .full->s'.pc j= .full/\s'.hold j=s.hold j):SI C D0 s' γ (g+1):=by
 refine⟨λf hf hlf hn => ?_,by rw[h1,h2];exact h.D,h.d0,λf x c e=>by rw[h1,h2,hl];exact h.pn f x c e,λc h0 hc hlc=>by rw[h1];exact h.np c h0 (h2▸ hc) (by rw[<-hl];exact hlc),λf hf => ?_,by rw[h2];have:=h.w;omega⟩
 ·have:=h.A f (h2▸ hf) (by rw[<-hl];exact hlf) (λj hj e=>by rw[<-(hp j e).2];exact hn j hj (hp j e).1);unfold AF at this⊢;rw[h1,show KA s' f=KA s f from funext (hm f)];exact this
 ·obtain⟨a,b⟩:=h.z f (h2▸ hf);exact⟨λx=>by rw[hm];exact a x,b⟩
theorem Z9(h:SI C D0 s γ g)(sl:SL C φ s σ)(hf:(view s).FI C.N C.F){f x c:Nat}(hw:s.loc f≠.waiting)(e:γ.pn f x=some c):σ f x=2:=by
 obtain⟨c0,cn,cp,cs,cl⟩:=h.pn f x c e;have hg:s.loc c≠.gone:=λe=>by rw[e]at cl;cases cl
 have pf:f<s.nf:=by rw[<-cp];exact hf.pr c cn
 rcases hf.un c c0 cn hg with u | u
 ·have:=(sl.b f pf hw c (by rw[<-cp];exact u)).2;rwa [cs]at this
 ·rw[Jr]at u;have e':(view s).loc c=s.loc c:=rfl;rw[e']at u;split at u
  ·next j hj =>
   have hpc:s.pc j= .fork c:=by
    have:=u.2;change sig (s.pc j)= .fork c at this;cases hpj:s.pc j<;>rw[hpj]at this<;>simp only[sig]at this<;>first | (cases this;rfl) | cases this
   have:=(sl.k j c u.1 hpc).2;rwa [cp,cs]at this
  ·exact u.elim
theorem Be{s':St}(hp:∀j,s.pc j= .full->s'.pc j= .full/\s'.hold j=s.hold j){f:Nat}(h:xQ C s' f):xQ C s f:=
 λj hj e=>by rw[<-(hp j e).2];exact h j hj (hp j e).1
theorem SI.data{s':St}{f:Nat}{y:Fr}(h:SI C D0 s γ g)(hn:f<s.nf)(hl:live (s.loc f)=true)(h1:s'.fr=ck s.fr f y)(h2:s'.nf=s.nf)(hm:∀f x,s'.mem (.slot f x)=s.mem (.slot f x))(hlv:∀f,live (s'.loc f)=live (s.loc f))
 (hp:∀j,s.pc j= .full->s'.pc j= .full/\s'.hold j=s.hold j) (hy:y.fn=(s.fr f).fn/\y.mN=(s.fr f).mN/\y.par=(s.fr f).par/\y.slot=(s.fr f).slot)
 (hs:∀vs,FF C (s.fr f).fn (s.fr f).mN ⟨(s.fr f).J,(s.fr f).bu,TA (γ.pn f) (KA s f) vs,(s.fr f).bD⟩=some ⟨y.J,y.bu,TA (γ.pn f) (KA s f) vs,y.bD⟩) :
 SI C D0 s' {γ with wk:=ck γ.wk f (γ.wk f+1)} (g+1):=by
 have hk:∀k,(s'.fr k).fn=(s.fr k).fn/\(s'.fr k).mN=(s.fr k).mN/\(s'.fr k).par=(s.fr k).par/\(s'.fr k).slot=(s.fr k).slot:=λk=>by
  rw[h1,cG];split
  ·next e=>subst e;exact hy
  ·exact⟨rfl,rfl,rfl,rfl⟩
 refine⟨λk hk' hlk hnk => ?_,λk hk' => ?_,h.d0,λk x c e => ?_,λc h0 hc hlc => ?_,λk hk' => ?_,?_⟩
 ·have hA:=h.A k (h2▸ hk') (by rw[<-hlv];exact hlk) (Be hp hnk);intro vs hv;have hA:=hA vs hv;have T9:KA s' k=KA s k:=funext (hm k);show Pre C (γ.ds k).fn _ _ _ _ (ck γ.wk f (γ.wk f+1) k+_) _;rw[T9,h1];by_cases e:k=f
  ·subst e;rw[aC,aC];have hd:=h.D k hn;have:=Pre.FF hA (by rw[hd.1,hd.2.1];exact hs vs)
   rwa [Nat.add_right_comm]at this
  ·rw[aA e,aA e];exact hA
 ·rw[(hk k).1,(hk k).2.1];exact h.D k (h2▸ hk')
 ·rw[(hk c).2.2.1,(hk c).2.2.2,h2,hlv];exact h.pn k x c e
 ·rw[(hk c).2.2.1,(hk c).2.2.2];exact h.np c h0 (h2▸ hc) (by rw[<-hlv];exact hlc)
 ·obtain⟨a,b,c,d⟩:=h.z k (h2▸ hk');exact⟨λx=>by rw[hm];exact a x,by show ck γ.wk f _ k=0;rw[aA (by have:s.nf<=k:=h2▸ hk';omega)];exact b,c,d⟩
 ·rw[h2,nJ (f:=γ.wk) (i:=f) (k:=1) hn (λj hj=>aA hj) (aC _ _ _)];have:=h.w;omega
theorem pn8(h:SI C D0 s γ g)(hr:FR C s){f x c:Nat}(e:γ.pn f x=some c):x<8:=by
 obtain⟨_,cn,_,cs,_⟩:=h.pn f x c e;rw[<-cs];exact(hr c cn).2.1
theorem SI.spawn{s':St}{f:Nat}{y c0:Fr}{sl g0 c:Nat}(h:SI C D0 s γ g)(hs:SL C φ s σ)(hr:FR C s)(hf:(view s).FI C.N C.F)(hi:i<C.N)(hh:s.hold i=some f)(hp:s.pc i= .run)
 (hc:C.code (s.fr f).fn (s.fr f).J= .spawn sl g0 c) (h48:s.nf<4096) (h1:s'.fr=ck (ck s.fr f y) s.nf c0) (h2:s'.nf=s.nf+1) (h3:s'.loc=ck s.loc s.nf (.bW i)) (h4:∀f x,s'.mem (.slot f x)=s.mem (.slot f x))
 (h5:∀j,s.pc j= .full->s'.pc j= .full/\s'.hold j=s.hold j) (hy:y={s.fr f with J:=(s.fr f).J+1,bD:=(s.fr f).bD+1}) (hc0:c0=kR C (s.fr f) f sl g0 c) (h8:sl<8) :
 SI C D0 s' {pn:=ck γ.pn f (ck (γ.pn f) sl (some s.nf)),ds:=ck γ.ds s.nf ⟨g0,C.pd (s.fr f).mN (s.fr f).bD,(γ.ds f).dp+1,arg C (s.fr f).bu g0 c⟩,wk:=ck γ.wk f (γ.wk f+1),tk:=γ.tk} (g+1):=by
 obtain⟨hl,hlt⟩:=ou hf hi hh;have hne:f≠s.nf:=by omega
 obtain⟨b1,b2,b3⟩:=hr f hlt;have hw:s.loc f≠.waiting:=by rcases hf.hold i f hi hh with a | a<;>(have:=a.2;change s.loc f=_ at this;rw[this];simp)
 have Ti:γ.pn f sl=none:=by
  cases e:γ.pn f sl with
  | none=>rfl
  | some k=>exact absurd ((Z9 h hs hf hw e)▸ hs.a f hlt hl sl (φ.sp _ _ _ _ _ b1 (b3 hl) hc).1) (φ.sp _ _ _ _ _ b1 (b3 hl) hc).2
 have hk:∀k,k<s.nf->(s'.fr k).fn=(s.fr k).fn/\(s'.fr k).mN=(s.fr k).mN/\(s'.fr k).par=(s.fr k).par/\(s'.fr k).slot=(s.fr k).slot:=λk hk=>by
  rw[h1,aA I,cG];split
  ·next e=>subst e;subst hy;exact⟨rfl,rfl,rfl,rfl⟩
  ·exact⟨rfl,rfl,rfl,rfl⟩
 have W9:s'.fr s.nf=c0:=by rw[h1,aC]
 have hlk:∀k,k≠s.nf->s'.loc k=s.loc k:=λk hk=>by rw[h3,aA hk]
 have T9:∀k,KA s' k=KA s k:=λk=>funext (h4 k);have hD:=h.D f hlt;have dsn:∀k,k≠s.nf->ck γ.ds s.nf ⟨g0,C.pd (s.fr f).mN (s.fr f).bD,(γ.ds f).dp+1,arg C (s.fr f).bu g0 c⟩ k=γ.ds k:=λk hk=>aA hk;have ado:∀k x q,γ.pn k x=some q->q≠s.nf:=λk x q e=>by have:=(h.pn k x q e).2.1;omega
 refine⟨λk hk' Wr hnk => ?_,λk hk' => ?_,?_,λk x q e => ?_,λq q0 hq hlq => ?_,λk hk' => ?_,?_⟩
 ·intro vs hv;simp only at hv⊢;by_cases e:k=s.nf
  ·subst e;obtain⟨z1,z2,z3,z4⟩:=h.z s.nf (gQ _);have pz:ck γ.pn f (ck (γ.pn f) sl (some s.nf)) s.nf=γ.pn s.nf:=aA (Ne.symm hne);rw[aC,pz,W9,aA (Ne.symm hne),z2,z3,T9,tG (λj _=>by unfold wn;rw[z4]),tG (λj _=>by unfold tn;rw[z4])];have e1:TA (γ.pn s.nf) (KA s s.nf) vs=λ_=>0:=funext λx=>by unfold TA;rw[z4];exact z1 x
   rw[e1,hc0];exact Pre.nil _ _ _ _
  ·have hk2:k<s.nf:=by rw[h2]at hk';omega
   have hA:=h.A k hk2 (by rw[<-hlk k e];exact Wr) (Be h5 hnk);rw[dsn k e,T9];by_cases e2:k=f
   ·subst e2;rw[aC]at hv⊢;have hfr:s'.fr k=y:=by rw[h1,aA e,aC]
    rw[hfr,aC];have hA:=hA vs (λx q hq=>by
     have:=hv x q (by rw[aA (λe=>by subst e;rw[Ti]at hq;cases hq)];exact hq)
     rwa [dsn q (ado _ _ _ hq)]at this)
    have TF:=hv sl s.nf (by rw[aC]);rw[aC]at TF;obtain⟨z,a,n1,t1,Y,p2,p3⟩:=TF;have ed:=h.D k hlt;have:=Pre.spawn hA (by rw[ed.1];exact hc) (by have:=ed.2.2;omega) (z:=z) (n1:=n1) (t1:=t1) (a:=a) (by rw[ed.2.1];exact Y) p2;have f1:TA (ck (γ.pn k) sl (some s.nf)) (KA s k) vs=ck (TA (γ.pn k) (KA s k) vs) sl (z.bu a):=funext λx=>by
     unfold TA;by_cases ex:x=sl
     ·subst ex;rw[aC,aC];simp only[p3]
     ·rw[aA ex,aA ex]
    have s1:fA (wn (ck (γ.pn k) sl (some s.nf)) vs) 8=fA (wn (γ.pn k) vs) 8+(n1+1):=nJ h8 (λj hj=>by unfold wn;rw[aA hj]) (by unfold wn;rw[aC,Ti];simp only[p3];omega);have s2:fA (tn (ck (γ.pn k) sl (some s.nf)) vs) 8=fA (tn (γ.pn k) vs) 8+(t1+1):=nJ h8 (λj hj=>by unfold tn;rw[aA hj]) (by unfold tn;rw[aC,Ti];simp only[p3];omega);rw[f1,s1,s2,hy];rw[show γ.wk k+1+(fA (wn (γ.pn k) vs) 8+(n1+1))=γ.wk k+fA (wn (γ.pn k) vs) 8+1+(n1+1) by omega,show γ.tk k+(fA (tn (γ.pn k) vs) 8+(t1+1))=γ.tk k+fA (tn (γ.pn k) vs) 8+(t1+1) by omega];exact this
   ·rw[aA e2]at hv⊢;have hfr:s'.fr k=s.fr k:=by rw[h1,aA e,aA e2]
    rw[hfr,aA e2];exact hA vs (λx q hq=>by have:=hv x q hq;rwa [dsn q (ado _ _ _ hq)]at this)
 ·show(ck γ.ds s.nf _ k).fn=_/\(ck γ.ds s.nf _ k).mN=_/\(ck γ.ds s.nf _ k).dp<=_;by_cases e:k=s.nf
  ·subst e;rw[aC,W9,hc0];exact⟨rfl,rfl,by show(γ.ds f).dp+1<=_;have:=hD.2.2;omega⟩
  ·have hk2:k<s.nf:=by rw[h2]at hk';omega
   rw[dsn k e,(hk k hk2).1,(hk k hk2).2.1];exact h.D k hk2
 ·show ck γ.ds s.nf _ 0=D0;rw[dsn 0 I];exact h.d0
 ·have e:ck γ.pn f (ck (γ.pn f) sl (some s.nf)) k x=some q:=e;have old:γ.pn k x=some q->q≠0/\q<s'.nf/\(s'.fr q).par=k/\(s'.fr q).slot=x/\live (s'.loc q)=true:=λe=>by
   obtain⟨a,b,c,d,e⟩:=h.pn k x q e;exact⟨a,I,by rw[(hk q b).2.2.1];exact c,by rw[(hk q b).2.2.2];exact d,by rw[hlk q I];exact e⟩
  by_cases e1:k=f
  ·subst e1;rw[aC]at e;by_cases e2:x=sl
   ·subst e2;rw[aC]at e;cases e;exact⟨I,I,by rw[W9,hc0];rfl,by rw[W9,hc0];rfl,by rw[h3,aC];rfl⟩
   ·rw[aA e2]at e;exact old e
  ·rw[aA e1]at e;exact old e
 ·show ck γ.pn f (ck (γ.pn f) sl (some s.nf)) _ _=some q;by_cases e:q=s.nf
  ·subst e;rw[W9,hc0];show ck γ.pn f (ck (γ.pn f) sl (some s.nf)) f sl=_;rw[aC,aC]
  ·have hq2:q<s.nf:=by rw[h2]at hq;omega
   rw[(hk q hq2).2.2.1,(hk q hq2).2.2.2];have:=h.np q q0 hq2 (by rw[<-hlk q e];exact hlq);rw[cG];split
   ·next e1 =>
    rw[cG];split
    ·next e2=>rw[e1,e2,Ti]at this;cases this
    ·rw[<-e1];exact this
   ·exact this
 ·obtain⟨a,b,c',d⟩:=h.z k I;refine⟨λx=>by rw[h4];exact a x,by show ck γ.wk f _ k=0;rw[aA I];exact b,c',λx => ?_⟩;show ck γ.pn f _ k x=none;rw[aA I];exact d x
 ·rw[h2];show fA (ck γ.wk f (γ.wk f+1)) s.nf+ck γ.wk f (γ.wk f+1) s.nf<=g+1;rw[nJ (f:=γ.wk) (i:=f) (k:=1) hlt (λj hj=>aA hj) (aC _ _ _),aA (Ne.symm hne),(h.z s.nf (gQ _)).2.1];have:=h.w;omega
theorem SI.done(h:SI C D0 s γ g){f a:Nat}(hn:f<s.nf)(hl:live (s.loc f)=true)(JA:xQ C s f)(hk:∀x,γ.pn f x=none)(hc:C.code (s.fr f).fn (s.fr f).J= .ret a):Dn C (γ.ds f) ((s.fr f).bu a,γ.wk f+1,γ.tk f+1):=by
 have:=h.A f hn hl JA (λ_=>(0,0,0)) (λx c e=>by rw[hk]at e;cases e);rw[tG (λj _=>by unfold wn;rw[hk]),tG (λj _=>by unfold tn;rw[hk])]at this;exact⟨_,a,_,_,this,by rw[(h.D f hn).1];exact hc,rfl⟩
theorem Li(h:SI C D0 s γ g)(hf:(view s).FI C.N C.F){f:Nat}(hk:s.bD f=[])(hl:∀j c,j<C.N->s.pc j= .fork c->(s.fr c).par≠f)(x:Nat):γ.pn f x=none:=by
 cases e:γ.pn f x with
 | none=>rfl
 | some c =>
  exfalso
  obtain⟨c0,cn,cp,cs,cl⟩:=h.pn f x c e;have hg:s.loc c≠.gone:=λe=>by rw[e]at cl;cases cl
  rcases hf.un c c0 cn hg with u | u
  ·have u:c∈s.bD (s.fr c).par:=u;rw[cp,hk]at u;cases u
  ·rw[Jr]at u;have e':(view s).loc c=s.loc c:=rfl;rw[e']at u;split at u
   ·next j hj =>
    have hpc:s.pc j= .fork c:=by
     have:=u.2;change sig (s.pc j)= .fork c at this;cases hpj:s.pc j<;>rw[hpj]at this<;>simp only[sig]at this<;>first | (cases this;rfl) | cases this
    exact hl j c u.1 hpc cp
   ·exact u.elim
theorem SI.ret{s':St}{f a:Nat}{y:Fr}(h:SI C D0 s γ g)(hr:FR C s)(hf:(view s).FI C.N C.F)(hn:f<s.nf)(h0:f≠0)(hl:live (s.loc f)=true)(JA:xQ C s f)(hk:∀x,γ.pn f x=none)
 (hc:C.code (s.fr f).fn (s.fr f).J= .ret a) (h1:s'.fr=ck s.fr f y) (h2:s'.nf=s.nf) (h3:s'.loc=ck s.loc f (.fin i)) (h4:∀k x,s'.mem (.slot k x)=if k=(s.fr f).par/\x=(s.fr f).slot then(s.fr f).bu a else s.mem (.slot k x))
 (h5:∀j,s.pc j= .full->s'.pc j= .full/\s'.hold j=s.hold j) (hy:y={s.fr f with J:=(s.fr f).J+1}) :
 SI C D0 s' {pn:=ck γ.pn (s.fr f).par (ck (γ.pn (s.fr f).par) (s.fr f).slot none),ds:=γ.ds,wk:=ck (ck γ.wk (s.fr f).par (γ.wk (s.fr f).par+(γ.wk f+1))) f 0,tk:=ck (ck γ.tk (s.fr f).par (γ.tk (s.fr f).par+(γ.tk f+1))) f 0} (g+1):=by
 have hpf:=h.np f h0 hn hl;have hdn:=h.done hn hl JA hk hc;generalize hp:(s.fr f).par=p at *;generalize hx:(s.fr f).slot=x0 at *;have Ti:p<s.nf:=by rw[<-hp];exact hf.pr f hn
 have hne:p≠f:=λe=>by rw[e,hk]at hpf;cases hpf
 have h8:x0<8:=by rw[<-hx];exact(hr f hn).2.1
 have hfr:∀k,(s'.fr k).fn=(s.fr k).fn/\(s'.fr k).mN=(s.fr k).mN/\(s'.fr k).par=(s.fr k).par/\(s'.fr k).slot=(s.fr k).slot:=λk=>by
  rw[h1,cG];split
  ·next e=>subst e;subst hy;exact⟨rfl,rfl,rfl,rfl⟩
  ·exact⟨rfl,rfl,rfl,rfl⟩
 have hlv:∀k,k≠f->s'.loc k=s.loc k:=λk e=>by rw[h3,aA e]
 have Zq:live (s'.loc f)=false:=by rw[h3,aC];rfl
 have pnq:∀k x c,ck γ.pn p (ck (γ.pn p) x0 none) k x=some c->γ.pn k x=some c/\¬(k=p/\x=x0):=λk x c e=>by
  rw[cG]at e;split at e
  ·next e1 =>
   subst e1;rw[cG]at e;split at e
   ·cases e
   ·next e2=>exact⟨e,λe'=>e2 e'.2⟩
  ·next e1=>exact⟨e,λe'=>e1 e'.1⟩
 have nf_:∀k x c,γ.pn k x=some c->¬(k=p/\x=x0)->c≠f:=λk x c e hxx e'=>by
  obtain⟨_,_,a,b,_⟩:=h.pn k x c e;exact hxx ⟨by rw[<-a,e',hp],by rw[<-b,e',hx]⟩
 refine⟨λk hk' Wr hnk => ?_,λk hk' => ?_,h.d0,λk x c e => ?_,λq q0 hq hlq => ?_,λk hk' => ?_,?_⟩
 ·have ekf:k≠f:=λe=>by rw[e,Zq]at Wr;cases Wr
  have hA:=h.A k (h2▸ hk') (by rw[<-hlv k ekf];exact Wr) (Be h5 hnk);intro vs hv;simp only at hv⊢;have hfk:s'.fr k=s.fr k:=by rw[h1,aA ekf]
  rw[hfk,aA ekf,aA ekf];by_cases e:k=p
  ·subst e;rw[aC]at hv⊢;rw[aC,aC];have hA:=hA (ck vs f ((s.fr f).bu a,γ.wk f+1,γ.tk f+1)) (λx q hq=>by
    by_cases e:x=x0
    ·subst e;rw[hpf]at hq;cases hq;rw[aC];exact hdn
    ·have:=nf_ k x q hq (λe'=>e e'.2);rw[aA this];exact hv x q (by rw[aA e];exact hq))
   have vq:∀x q,x≠x0->γ.pn k x=some q->ck vs f ((s.fr f).bu a,γ.wk f+1,γ.tk f+1) q=vs q:=λx q e hq=>aA (nf_ k x q hq (λe'=>e e'.2));have f1:TA (ck (γ.pn k) x0 none) (KA s' k) vs=TA (γ.pn k) (KA s k) (ck vs f ((s.fr f).bu a,γ.wk f+1,γ.tk f+1)):=funext λx=>by
    unfold TA KA;by_cases e:x=x0
    ·subst e;rw[aC,hpf,h4,bg ⟨rfl,rfl⟩];simp only[aC]
    ·rw[aA e,h4,cQ (λe'=>e e'.2)];cases hq:γ.pn k x with
     | none=>rfl
     | some q=>simp only;rw[vq x q e hq]
   have s1:fA (wn (γ.pn k) (ck vs f ((s.fr f).bu a,γ.wk f+1,γ.tk f+1))) 8=fA (wn (ck (γ.pn k) x0 none) vs) 8+(γ.wk f+1):=nJ h8 (λj hj=>by
    unfold wn;rw[aA hj];cases hq:γ.pn k j with
    | none=>rfl
    | some q=>simp only;rw[vq j q hj hq]) (by unfold wn;rw[aC,hpf];simp only[aC];omega)
   have s2:fA (tn (γ.pn k) (ck vs f ((s.fr f).bu a,γ.wk f+1,γ.tk f+1))) 8=fA (tn (ck (γ.pn k) x0 none) vs) 8+(γ.tk f+1):=nJ h8 (λj hj=>by
    unfold tn;rw[aA hj];cases hq:γ.pn k j with
    | none=>rfl
    | some q=>simp only;rw[vq j q hj hq]) (by unfold tn;rw[aC,hpf];simp only[aC];omega)
   rw[s1,s2,<-f1]at hA;rw[show γ.wk k+(γ.wk f+1)+fA (wn (ck (γ.pn k) x0 none) vs) 8=γ.wk k+(fA (wn (ck (γ.pn k) x0 none) vs) 8+(γ.wk f+1)) by omega,show γ.tk k+(γ.tk f+1)+fA (tn (ck (γ.pn k) x0 none) vs) 8=γ.tk k+(fA (tn (ck (γ.pn k) x0 none) vs) 8+(γ.tk f+1)) by omega];exact hA
  ·rw[aA e]at hv⊢;rw[aA e,aA e];have hA:=hA vs hv;have:KA s' k=KA s k:=funext λx=>by unfold KA;rw[h4,cQ (λe'=>e e'.1)]
   rw[this];exact hA
 ·rw[(hfr k).1,(hfr k).2.1];exact h.D k (h2▸ hk')
 ·obtain⟨e1,e2⟩:=pnq k x c e;have:=nf_ k x c e1 e2;rw[(hfr c).2.2.1,(hfr c).2.2.2,h2,hlv c this];exact h.pn k x c e1
 ·have eqf:q≠f:=λe=>by rw[e,Zq]at hlq;cases hlq
  have:=h.np q q0 (h2▸ hq) (by rw[<-hlv q eqf];exact hlq);rw[(hfr q).2.2.1,(hfr q).2.2.2];show ck γ.pn p (ck (γ.pn p) x0 none) _ _=some q;rw[cG];split
  ·next e1 =>
   rw[cG];split
   ·next e2=>rw[e1,e2,hpf]at this;exact absurd (Option.some.inj this).symm eqf
   ·rw[<-e1];exact this
  ·exact this
 ·have hk2:s.nf<=k:=h2▸ hk';obtain⟨a',b,c',d⟩:=h.z k hk2;refine⟨λx=>by rw[h4,cQ (λe=>I)];exact a' x,?_,?_,λx => ?_⟩
  ·show ck (ck γ.wk p _) f 0 k=0;rw[aA I,aA I];exact b
  ·show ck (ck γ.tk p _) f 0 k=0;rw[aA I,aA I];exact c'
  ·show ck γ.pn p _ k x=none;rw[aA I];exact d x
 ·rw[h2];show fA (ck (ck γ.wk p (γ.wk p+(γ.wk f+1))) f 0) s.nf<=g+1;have a1:=nJ (f:=ck (ck γ.wk p (γ.wk p+(γ.wk f+1))) f 0) (g:=ck γ.wk p (γ.wk p+(γ.wk f+1))) (i:=f) (k:=γ.wk f) hn (λj hj=>(aA hj).symm) (by rw[aA (Ne.symm hne),aC];omega);have a2:=nJ (f:=γ.wk) (g:=ck γ.wk p (γ.wk p+(γ.wk f+1))) (i:=p) (k:=γ.wk f+1) Ti (λj hj=>aA hj) (aC _ _ _);have:=h.w;omega
end
section
variable {C:jv}{φ:OE C}{s:St}{i:Nat}{σ:Nat->Nat->Nat}{D0:Lh}{γ:SG}{g:Nat}
theorem tS{s':St}{p:Pc}(hi:s.pc i≠.full)(h1:s'.pc=ck s.pc i p)(h2:s'.hold=s.hold∨∃x,s'.hold=ck s.hold i x):∀j,s.pc j= .full->s'.pc j= .full/\s'.hold j=s.hold j:=λj hj=>by
 have e:j≠i:=λe=>hi (e▸ hj);refine⟨by rw[h1,aA e,hj],?_⟩;rcases h2 with h2 | ⟨x,h2⟩
 ·rw[h2]
 ·rw[h2,aA e]
theorem zK{f:Nat}{l:Loc}(h:live l=live (s.loc f))(k:Nat):live (ck s.loc f l k)=live (s.loc k):=by
 rw[cG];split
 ·next e=>subst e;exact h
 ·rfl
def Rt(C:jv)(D0:Lh)(g:Nat)(o:Option Ev):Prop:=∀e,o=some e->e.kind=6->e.az=0->∃n t,Dn C D0 (e.v,n,t)/\n<=g+1
theorem SI.TB{s':St}{f:Nat}{y:Fr}(h:SI C D0 s γ g)(hi:i<C.N)(hp':s.pc i≠.full)(hh:s'.hold i=some f)(hp:s'.pc i= .full)(h1:s'.fr=ck s.fr f y)(h2:s'.nf=s.nf)(hm:∀f x,s'.mem (.slot f x)=s.mem (.slot f x))(h3:s'.loc=s.loc)
 (h5:∀j,s.pc j= .full->s'.pc j= .full/\s'.hold j=s.hold j) (hy:y.fn=(s.fr f).fn/\y.mN=(s.fr f).mN/\y.par=(s.fr f).par/\y.slot=(s.fr f).slot):SI C D0 s' γ (g+1):=by
 have hk:∀k,(s'.fr k).fn=(s.fr k).fn/\(s'.fr k).mN=(s.fr k).mN/\(s'.fr k).par=(s.fr k).par/\(s'.fr k).slot=(s.fr k).slot:=λk=>by
  rw[h1,cG];split
  ·next e=>subst e;exact hy
  ·exact⟨rfl,rfl,rfl,rfl⟩
 refine⟨λk hk' hlk hnk => ?_,λk hk' => ?_,h.d0,λk x c e => ?_,λc h0 hc hlc => ?_,λk hk' => ?_,by rw[h2];have:=h.w;omega⟩
 ·have ekf:k≠f:=λe=>hnk i hi hp (e▸ hh);have hA:=h.A k (h2▸ hk') (by rw[<-h3];exact hlk) (Be h5 hnk);intro vs hv;rw[h1,aA ekf,show KA s' k=KA s k from funext (hm k)];exact hA vs hv
 ·rw[(hk k).1,(hk k).2.1];exact h.D k (h2▸ hk')
 ·rw[(hk c).2.2.1,(hk c).2.2.2,h2,h3];exact h.pn k x c e
 ·rw[(hk c).2.2.1,(hk c).2.2.2];exact h.np c h0 (h2▸ hc) (by rw[<-h3];exact hlc)
 ·obtain⟨a,b⟩:=h.z k (h2▸ hk');exact⟨λx=>by rw[hm];exact a x,b⟩
end
end Am
end
section
namespace Mo
open Go SL GX
section
variable {K:Nat}{p:aE}{N F f m:Nat}
structure TR(x:Am.TS)(d me:Int)(T:dR):Prop where
 pt:T.At=(x.J:Int)
 rg:∀r,r<16->GX.J T.s7 r=x.bu r
 sg:∀s,s<8->GX.J T.ny s=x.sl s
 kd:T.Kids=(x.bD:Int)
 me_:T.Me=me
 dp:T.iP=d
structure SIn(x:Am.TS):Prop where
 r:∀r,r<16->u9 (x.bu r)
 s:∀s,s<8->u9 (x.sl s)
theorem Dx(hv:Valid p)(JP:Zr p){g a:Nat}(hg:g<p.ah.length)(ha:a<(GX.J p.ah g).ai.length) :
 let c:=GX.J (GX.J p.ah g).ai a
 nv (GX.J p.ah g) c=true/\wV p (GX.J p.ah g) c=true/\u9 c.K/\(GX.J p.ah g).dh<=16/\(GX.J p.ah g).bQ<=8/\
 (c.aG=0∨c.aG=1∨c.aG=2∨c.aG=3∨c.aG=4∨c.aG=5∨c.aG=6∨c.aG=7∨c.aG=8∨c.aG=9)/\(c.aG≠3->c.aG≠9->a+1<(GX.J p.ah g).ai.length):=by
 have hs:=hv.HZ g hg;have hc:=hv.code g hg;have hk:=(Code.snd hs hc).kind (a:Int) I I;rw[di]at hk;refine⟨(hc.ins a ha).1,(hc.ins a ha).2,(JP.c _ (tR hg) _ (tR ha)).2.2.2,hs.r16,hs.s8,I,λh3 h9=>VE hc hs ha h3 h9⟩
theorem abt(hv:Valid p)(JP:Zr p){g:Nat}(hg:g<p.ah.length){x y:Am.TS}{pd:Int}(hx:x.J<(GX.J p.ah g).ai.length)(h:Am.FF (cfg p N F f m) g pd x=some y)(i:SIn x)(hpd:u9 pd) :
 y.J<(GX.J p.ah g).ai.length/\SIn y:=by
 obtain⟨a1,a2,a3,a4,a5,hk,hl⟩:=Dx hv JP hg hx;have h:(match mZ (GX.J (GX.J p.ah g).ai x.J)with
  | .const a k=>some {x with J:=x.J+1,bu:=Am.ck x.bu a k}
  | .move a b=>some {x with J:=x.J+1,bu:=Am.ck x.bu a (x.bu b)}
  | .arith op a b c=>some {x with J:=x.J+1,bu:=Am.ck x.bu a (VD op (x.bu b) (x.bu c))}
  | .jump a=>some {x with J:=a}
  | .branch a b=>some {x with J:=if x.bu a≠0 then b else x.J+1}
  | .mN a=>some {x with J:=x.J+1,bu:=Am.ck x.bu a pd}
  | .load a s=>some {x with J:=x.J+1,bu:=Am.ck x.bu a (x.sl s)}
  | .sync=>some {x with J:=x.J+1}
  | .spawn _ _ _=>none
  | .ret _=>none)=some y:=h
 generalize GX.J (GX.J p.ah g).ai x.J=c at *;have up:∀(a:Nat) (v:Int),u9 v->SIn {x with J:=x.J+1,bu:=Am.ck x.bu a v}:=λa v hv=>⟨λr hr=>by
  show u9 (Am.ck x.bu a v r);rw[Am.cG];split
  ·exact hv
  ·exact i.r r hr,i.s⟩
 unfold nv at a1;unfold mZ at h;rcases hk with k | k | k | k | k | k | k | k | k | k<;>simp[k,uJ]at a1 h hl
 ·subst h;exact⟨hl,up _ _ a3⟩
 ·subst h;exact⟨hl,up _ _ (i.r _ I)⟩
 ·subst h;exact⟨hl,up _ _ (adn I I (i.r _ I) (i.r _ I))⟩
 ·subst h;exact⟨by show c.A.toNat<_;omega,i.r,i.s⟩
 ·subst h;refine⟨?_,i.r,i.s⟩;show(if x.bu c.A.toNat=0 then x.J+1 else c.B.toNat)<_;split<;>omega
 ·subst h;exact⟨hl,i.r,i.s⟩
 ·subst h;exact⟨hl,up _ _ (i.s _ I)⟩
 ·subst h;exact⟨hl,up _ _ hpd⟩
theorem Ws(hv:Valid p)(JP:Zr p)(hK:100<K){g:Nat}(hg:g<p.ah.length){x y:Am.TS}{pd d me:Int}{T:dR}{S:bH}
 (hx:x.J<(GX.J p.ah g).ai.length) (h:Am.FF (cfg p N F f m) g pd x=some y) (h6:¬(GX.J (GX.J p.ah g).ai x.J).aG=6)
 (t:TR {x with J:=x.J+1} d me T) (i:SIn x) (hme:0<=me) (hm:me<S.bL.length) (hp:(GX.J S.bL me.toNat).FM=pd) :
 ∃T',lN K S p.ah T (GX.J (GX.J p.ah g).ai x.J)=some T'/\TR y d me T':=by
 obtain⟨a1,a2,a3,a4,a5,hk,hl⟩:=Dx hv JP hg hx;have h:(match mZ (GX.J (GX.J p.ah g).ai x.J)with
  | .const a k=>some {x with J:=x.J+1,bu:=Am.ck x.bu a k}
  | .move a b=>some {x with J:=x.J+1,bu:=Am.ck x.bu a (x.bu b)}
  | .arith op a b c=>some {x with J:=x.J+1,bu:=Am.ck x.bu a (VD op (x.bu b) (x.bu c))}
  | .jump a=>some {x with J:=a}
  | .branch a b=>some {x with J:=if x.bu a≠0 then b else x.J+1}
  | .mN a=>some {x with J:=x.J+1,bu:=Am.ck x.bu a pd}
  | .load a s=>some {x with J:=x.J+1,bu:=Am.ck x.bu a (x.sl s)}
  | .sync=>some {x with J:=x.J+1}
  | .spawn _ _ _=>none
  | .ret _=>none)=some y:=h
 generalize GX.J (GX.J p.ah g).ai x.J=c at *;have up:∀(a:Nat) (v:Int),TR {x with J:=x.J+1,bu:=Am.ck x.bu a v} d me {T with s7:=mL 16 T.s7 a v}:=λa v=>⟨t.pt,λr hr=>by
  show GX.J (mL 16 T.s7 a v) r=Am.ck x.bu a v r;rw[Ib hr,Am.cG,t.rg r hr],t.sg,t.kd,t.me_,t.dp⟩
 have rg:∀r,r<16->GX.J T.s7 r=x.bu r:=t.rg;have sg:∀s,s<8->GX.J T.ny s=x.sl s:=t.sg;unfold nv at a1;unfold mZ at h;unfold lN;rcases hk with k | k | k | k | k | k | k | k | k | k
 ·simp[k,uJ]at a1 h;rw[bg k,bg ⟨I,I⟩];subst h;exact⟨_,rfl,up _ _⟩
 ·simp[k,uJ]at a1 h;rw[ez,bg k,bg ⟨I,I⟩,bg ⟨I,I⟩,rg _ I];subst h;exact⟨_,rfl,up _ _⟩
 ·simp[k,uJ]at a1 h;have e:=Qe (K:=K) (op:=c.K) (x:=x.bu c.B.toNat) (y:=x.bu c.C.toNat) I I (i.r _ I) (i.r _ I) hK;rw[Jv I I]at e;rw[ez,ez,bg k,bg ⟨I,I⟩,bg ⟨I,I⟩,rg _ I,rg _ I,e,fQ,bg ⟨I,I⟩];subst h;exact⟨_,rfl,up _ _⟩
 ·simp[k,uJ]at a1 h;rw[ez,ez,ez,ez,ez,bg k];subst h;exact⟨_,rfl,by show c.A=(c.A.toNat:Int);omega,t.rg,t.sg,t.kd,t.me_,t.dp⟩
 ·simp[k,uJ]at a1 h;rw[ez,ez,ez,ez,ez,ez,bg k,bg ⟨I,I⟩,rg _ I];subst h;by_cases e:x.bu c.A.toNat=0
  ·rw[bg e];exact⟨_,rfl,by show T.At=((if x.bu c.A.toNat=0 then x.J+1 else c.B.toNat:Nat):Int);rw[bg e];exact t.pt,t.rg,t.sg,t.kd,t.me_,t.dp⟩
  ·rw[cQ e];exact⟨_,rfl,by show c.B=((if x.bu c.A.toNat=0 then x.J+1 else c.B.toNat:Nat):Int);rw[cQ e];omega,t.rg,t.sg,t.kd,t.me_,t.dp⟩
 ·simp[k]at h
 ·exact absurd k h6
 ·simp[k,uJ]at a1 h;rw[ez,ez,ez,bg k,bg ⟨I,I⟩,bg ⟨I,I⟩,sg _ I];subst h;exact⟨_,rfl,up _ _⟩
 ·simp[k,uJ]at a1 h;rw[ez,ez,ez,ez,bg k,bg ⟨by rw[t.me_];exact hme,by rw[t.me_];exact hm⟩,bg ⟨I,I⟩,show(GX.J S.bL T.Me.toNat).FM=pd by rw[t.me_];exact hp];subst h;exact⟨_,rfl,up _ _⟩
 ·simp[k]at h
theorem Wt{args:List Int}(hn:args.length<=16):∀(e k g:Nat) (l:List Int),g+e=args.length->e<k->(∀r,r<16->GX.J l r=if r<g then GX.J args r else 0)->
 ∃l',ik K args k l (g:Int)=some l'/\∀r,r<16->GX.J l' r=if r<args.length then GX.J args r else 0
 | e,k,g,l,he,hk,hl=>by
  obtain⟨k,rfl⟩ :∃n,k=n+1:=⟨k-1,I⟩;rw[ik];by_cases hg:g<args.length
  ·obtain⟨e,rfl⟩ :∃n,e=n+1:=⟨e-1,I⟩;rw[rD,bg ⟨I,I⟩,bg ⟨I,I⟩,di,Cl I];exact Wt hn e k (g+1) _ I I (λr hr=>by
    rw[Ib hr,hl r hr];by_cases e:r=g
    ·subst e;rw[bg rfl,rD]
    ·rw[cQ e];by_cases e':r<g
     ·rw[bg e',rD]
     ·rw[cQ e',ez])
  ·rw[ez];have:g=args.length:=by omega
   subst this;exact⟨l,rfl,hl⟩
theorem Wu{nd:fm}{T:dR}{x:Am.TS}{B C n g0:Nat}(hgf:nd.Func=(g0:Int))(hB:(GX.J (GX.J p.ah g0).ai T.At.toNat).B=(B:Int))(hBl:B<p.ah.length)(hC:n=0∨(GX.J (GX.J p.ah g0).ai T.At.toNat).C=(C:Int))(hP:(GX.J p.ah B).aS=(n:Int))(h16:n=0∨C+n<=16)(hn:n<=16)(hr:∀r,r<16->GX.J T.s7 r=x.bu r) :
 ∀(e k g:Nat) (l:List Int),g+e=n->e<k->l.length=g->(∀r,r<g->GX.J l r=x.bu (C+r))->
 ∃l',iq K p.ah nd T k l (g:Int)=some l'/\l'.length=n/\∀r,r<n->GX.J l' r=x.bu (C+r)
 | e,k,g,l,he,hk,hl,hh=>by
  obtain⟨k,rfl⟩ :∃n,k=n+1:=⟨k-1,I⟩;rw[iq,hgf,di,hB,bg ⟨I,I⟩,di,hP];by_cases hg:g<n
  ·obtain⟨e,rfl⟩ :∃n,e=n+1:=⟨e-1,I⟩;have hC':(GX.J (GX.J p.ah g0).ai T.At.toNat).C=(C:Int):=by rcases hC with h | h;omega;exact h
   have afU:C+n<=16:=by rcases h16 with h | h;omega;exact h
   have ew:wi ((C:Int)+(g:Int))=((C+g:Nat):Int):=by rw[fh I];omega
   rw[rD,hC',ew,bg ⟨I,I⟩,rD,di,hr _ I,Cl I];exact Wu hgf hB hBl hC hP h16 hn hr e k (g+1) _ I I (by simp[hl]) (λr G7=>by
    by_cases e:r=g
    ·subst e;have:GX.J (l++[x.bu (C+r)]) r=x.bu (C+r):=by
      unfold GX.J;rw[List.getD_eq_getElem?_getD,List.getElem?_append_right I,hl,Io];rfl
     exact this
    ·have:GX.J (l++[x.bu (C+g)]) r=GX.J l r:=by
      unfold GX.J;rw[List.getD_eq_getElem?_getD,List.getD_eq_getElem?_getD,List.getElem?_append_left I]
     rw[this];exact hh r I)
  ·rw[ez];exact⟨l,rfl,I,λr G7=>hh r I⟩
structure SO(S S':bH)(n t:Nat):Prop where
 er:S'.xd=0
 lf:S'.Left=S.Left-n
 nn:S'.bL.length=S.bL.length+t
 pd:∀i,i<S.bL.length->(GX.J S'.bL i).FM=(GX.J S.bL i).FM
structure SG0(S:bH)(n:Nat):Prop where
 er:S.xd=0
 lf:(n:Int)<=S.Left
 l2:S.Left<=4194304
 nn:(S.bL.length:Int)+S.Left<=9000000
def Bf(S:bH)(me:Nat):bH:={S with Left:=wi (S.Left-1),bL:=S.bL.set me ({GX.J S.bL me with kT:=wi ((GX.J S.bL me).kT+1)})}
theorem Wv{S:bH}{me n:Nat}(h:SG0 S (n+1))(hm:me<S.bL.length):SO S (Bf S me) 1 0/\SG0 (Bf S me) n/\(Bf S me).bL.length=S.bL.length:=by
 have e1:=h.lf;have e2:=h.l2;have e3:=h.nn;have el:(Bf S me).Left=S.Left-1:=fh I;have en:(Bf S me).bL.length=S.bL.length:=by show(S.bL.set _ _).length=_;rw[gU]
 refine⟨⟨h.er,by rw[el];rfl,by rw[en];rfl,λi hi => ?_⟩,⟨h.er,by rw[el];omega,by rw[el];omega,by rw[el,en];omega⟩,en⟩;show(GX.J (S.bL.set me _) i).FM=_;rw[rL hm];split
 ·next e=>subst e;rfl
 ·rfl
theorem Qg{C:Am.jv}{g:Nat}{pd:Int}{d:Nat}{x y:Am.TS}{n t:Nat}(h:Am.Pre C g pd d x y n t):t<=n/\y.bD<=x.bD+n:=by
 induction h with
 | nil=>exact⟨gQ _,gQ _⟩
 | FF h e ih =>
  refine⟨I,?_⟩;rename_i y z _ _;have:z.bD=y.bD:=by
   unfold Am.FF at e;split at e<;>first | (cases e;rfl) | cases e
  omega
 | spawn h e hd h1 e1 ih UI=>exact⟨I,by show _+1<=_;omega⟩
end
section
variable {K:Nat}{p:aE}{N F f m:Nat}
theorem Ww(hv:Valid p)(JP:Zr p){g:Nat}(hg:g<p.ah.length){x:Am.TS}{pd:Int}(hx:x.J<(GX.J p.ah g).ai.length)(h5:¬(GX.J (GX.J p.ah g).ai x.J).aG=5)(h9:¬(GX.J (GX.J p.ah g).ai x.J).aG=9) :∃y,Am.FF (cfg p N F f m) g pd x=some y:=by
 obtain⟨a1,a2,a3,a4,a5,kk,a7⟩:=Dx hv JP hg hx;show∃y,(match mZ (GX.J (GX.J p.ah g).ai x.J)with
  | .const a k=>some {x with J:=x.J+1,bu:=Am.ck x.bu a k}
  | .move a b=>some {x with J:=x.J+1,bu:=Am.ck x.bu a (x.bu b)}
  | .arith op a b c=>some {x with J:=x.J+1,bu:=Am.ck x.bu a (VD op (x.bu b) (x.bu c))}
  | .jump a=>some {x with J:=a}
  | .branch a b=>some {x with J:=if x.bu a≠0 then b else x.J+1}
  | .mN a=>some {x with J:=x.J+1,bu:=Am.ck x.bu a pd}
  | .load a s=>some {x with J:=x.J+1,bu:=Am.ck x.bu a (x.sl s)}
  | .sync=>some {x with J:=x.J+1}
  | .spawn _ _ _=>none
  | .ret _=>none)=some y
 unfold mZ;rcases kk with k | k | k | k | k | k | k | k | k | k<;>first | exact absurd k h5 | exact absurd k h9 | exact⟨_,by simp[k];rfl⟩
theorem RT{nd:fm}{R:bH->List aB->fm->List Int->Int->Option (Int×Int×bH)}{k:Nat}{S:bH}{T:dR}(h:¬S.xd=0)(hk:0<k){P:Int->bH->Prop} :∃v c S',eG K p.ah nd R k S T=some (v,c,S')/\(S'.xd=0->P v S'):=by
 obtain⟨k,rfl⟩ :∃m,k=m+1:=⟨k-1,I⟩;rw[eG,cQ h];exact⟨_,_,_,rfl,λe=>absurd e h⟩
def SC(p:aE)(N F f m g:Nat)(pd:Int)(d:Nat)(x0:Am.TS)(n0 t0:Nat)(S:bH)(v:Int)(S':bH):Prop:=∃z a n t,Am.Pre (cfg p N F f m) g pd d x0 z (n0+n) (t0+t)/\mZ (GX.J (GX.J p.ah g).ai z.J)= .ret a/\v=z.bu a/\u9 (z.bu a)/\S'.Left=S.Left-((n+1:Nat):Int)/\((n+1:Nat):Int)<=S.Left/\S'.bL.length=S.bL.length+t/\∀i,i<S.bL.length->(GX.J S'.bL i).FM=(GX.J S.bL i).FM
def adp(K:Nat)(p:aE)(N F f m D:Nat):Prop:=
 ∀(g:Nat) (pd:Int) (d:Nat) (a0:Nat->Int) (nd:fm) (S:bH) (args:List Int),g<p.ah.length->nd.Func=(g:Int)->nd.FM=pd->u9 pd->args.length<=16->(∀r,r<16->(if r<args.length then GX.J args r else 0)=a0 r)->(∀r,r<16->u9 (a0 r))->
   SG0 S 0->(S.bL.length:Int)+1+S.Left<=9000000->d<=4096->4096<d+D->∃v KB S',fK K D S p.ah nd args (d:Int)=some (v,KB,S')/\(S'.xd=0->∃z a n t,Am.Pre (cfg p N F f m) g pd d (Am.Xa a0) z n t/\mZ (GX.J (GX.J p.ah g).ai z.J)= .ret a/\v=z.bu a/\u9 (z.bu a)/\S'.Left=S.Left-((n+1:Nat):Int)/\((n+1:Nat):Int)<=S.Left/\S'.bL.length=S.bL.length+(t+1)/\∀i,i<S.bL.length->(GX.J S'.bL i).FM=(GX.J S.bL i).FM)
theorem Wx(hv:Valid p)(JP:Zr p)(hK:4200000<K){D:Nat}(hT:adp K p N F f m D){g:Nat}{pd:Int}{d me:Nat}{nd:fm}{x0:Am.TS}(hg:g<p.ah.length)(hf:nd.Func=(g:Int))(hp:u9 pd)(hd:d<=4096)(hdD:4096<d+(D+1))(hx0:x0.bD=0) :
 ∀(k:Nat) (S:bH) (T:dR) (x:Am.TS) (n0 t0:Nat),Am.Pre (cfg p N F f m) g pd d x0 x n0 t0->x.J<(GX.J p.ah g).ai.length->SIn x->TR x (d:Int) (me:Int) T->SG0 S 0->(n0:Int)+S.Left<=4194304->me<S.bL.length->(GX.J S.bL me).FM=pd->S.Left+1<(k:Int)->
 ∃v KB S',eG K p.ah nd (fK K D) k S T=some (v,KB,S')/\(S'.xd=0->SC p N F f m g pd d x0 n0 t0 S v S')
 | 0,_,_,_,_,_,_,_,_,_,agc,_,_,_,hk=>by have:=agc.lf;omega
 | k+1,S,T,x,n0,t0,P,hx,hi,tr,agc,hb,hm,hpd,hk=>by
  have ih:=Wx (me:=me) (nd:=nd) hv JP hK hT hg hf hp hd hdD hx0 k;have afA:=(hv.HZ g hg).J4;have afV:=(Qg P).2;obtain⟨a1,a2,a3,a4,a5,kk,a7⟩:=Dx hv JP hg hx;have g1:=agc.lf;obtain⟨Me,iP,s7,ny,At,ey,End,Kids⟩:=T;have q1:At=(x.J:Int):=tr.pt;have q2:Me=((me:Nat):Int):=tr.me_;have q3:iP=(d:Int):=tr.dp;have q4:Kids=(x.bD:Int):=tr.kd;subst q1 q2 q3 q4;rw[eG,bg agc.er,hf];simp only[di];by_cases hl:S.Left=0
  ·rw[bg hl];exact⟨_,_,_,rfl,λe=>absurd e (by show ¬(62:Int)=0;decide)⟩
  rw[cQ hl,bg ⟨I,I⟩,bg ⟨I,I⟩,bg ⟨I,I⟩];have G1:SG0 S (0+1):=⟨agc.er,I,agc.l2,agc.nn⟩;obtain⟨w1,w2,w3⟩:=Wv G1 hm;have hp1:(GX.J (Bf S me).bL me).FM=pd:=by rw[w1.pd me hm,hpd]
  have wl:(Bf S me).Left=S.Left-1:=fh (by have:=agc.l2;omega);have more:∀(y:Am.TS) (T':dR),Am.FF (cfg p N F f m) g pd x=some y->TR y (d:Int) (me:Int) T'->∃v KB S',eG K p.ah nd (fK K D) k (Bf S me) T'=some (v,KB,S')/\(S'.xd=0->SC p N F f m g pd d x0 n0 t0 S v S'):=λy T' hs ht=>by
   obtain⟨c1,c2⟩:=abt hv JP hg hx hs hi hp;obtain⟨v,KB,S',q,hq⟩:=ih (Bf S me) T' y (n0+1) t0 (Am.Pre.FF P hs) c1 c2 ht w2 (by rw[wl];omega) I hp1 (by rw[wl];omega);refine⟨v,KB,S',q,λhe => ?_⟩;obtain⟨z,a,n,t,b1,b2,b3,b4,b5,b6,b7,b8⟩:=hq he;exact⟨z,a,n+1,t,by rw[show n0+(n+1)=n0+1+n by omega];exact b1,b2,b3,b4,by rw[b5,wl];omega,by rw[wl]at b6;omega,by rw[b7,w3],λi hi=>by rw[b8 i I,w1.pd i hi]⟩
  by_cases k5:(GX.J (GX.J p.ah g).ai x.J).aG=5
  ·rw[bg k5];by_cases hd':(d:Int)>=4096
   ·rw[bg hd'];exact RT (by show ¬(63:Int)=0;decide) I
   ·rw[cQ hd'];have hin:mZ (GX.J (GX.J p.ah g).ai x.J)= .spawn (GX.J (GX.J p.ah g).ai x.J).A.toNat (GX.J (GX.J p.ah g).ai x.J).B.toNat (GX.J (GX.J p.ah g).ai x.J).C.toNat:=by
     unfold mZ;simp[k5]
    unfold nv at a1;unfold wV at a2;simp[k5,uJ]at a1 a2;obtain⟨⟨B0,B1⟩,a2⟩:=a2;have hsf:=hv.HZ (GX.J (GX.J p.ah g).ai x.J).B.toNat I;obtain⟨Q,hQ⟩ :∃Q:Nat,(GX.J p.ah (GX.J (GX.J p.ah g).ai x.J).B.toNat).aS=(Q:Int):=⟨(GX.J p.ah (GX.J (GX.J p.ah g).ai x.J).B.toNat).aS.toNat,by have:=hsf.O;omega⟩;have hQ8:=hsf.p8;rw[hQ]at a2;obtain⟨l,l1,l2,l3⟩:=Wu (K:=K) (p:=p) (nd:=nd) (T:=⟨(me:Int),(d:Int),s7,ny,(x.J:Int),ey,End,(x.bD:Int)⟩) (x:=x) (B:=(GX.J (GX.J p.ah g).ai x.J).B.toNat) (C:=(GX.J (GX.J p.ah g).ai x.J).C.toNat) (n:=Q) hf (by show(GX.J (GX.J p.ah g).ai ((x.J:Int)).toNat).B=_;rw[di];omega) I (by show _∨(GX.J (GX.J p.ah g).ai ((x.J:Int)).toNat).C=_;rw[di];omega) hQ I I tr.rg Q K 0 [] I I rfl (λr hr=>I);have l1:iq K p.ah nd ⟨(me:Int),(d:Int),s7,ny,(x.J:Int),ey,End,(x.bD:Int)⟩ K [] 0=some l:=l1;have MB:(cfg p N F f m).params (GX.J (GX.J p.ah g).ai x.J).B.toNat=Q:=by show(GX.J p.ah _).aS.toNat=Q;omega
    have afe:∀r,r<16->(if r<l.length then GX.J l r else 0)=Am.arg (cfg p N F f m) x.bu (GX.J (GX.J p.ah g).ai x.J).B.toNat (GX.J (GX.J p.ah g).ai x.J).C.toNat r:=λr hr=>by
     unfold Am.arg;rw[MB,l2];split
     ·next hh=>rw[l3 r hh]
     ·rfl
    have aff:∀r,r<16->u9 (Am.arg (cfg p N F f m) x.bu (GX.J (GX.J p.ah g).ai x.J).B.toNat (GX.J (GX.J p.ah g).ai x.J).C.toNat r):=λr hr=>by
     unfold Am.arg;rw[MB];split
     ·exact hi.r _ I
     ·unfold u9;omega
    rw[l1,ax,bg ⟨I,by rw[gU];omega⟩];have hp2:vm (GX.J (S.bL.set me ({GX.J S.bL me with kT:=wi ((GX.J S.bL me).kT+1)})) me).FM (x.bD:Int)=some ((cfg p N F f m).pd pd x.bD):=by
     have:(GX.J (S.bL.set me ({GX.J S.bL me with kT:=wi ((GX.J S.bL me).kT+1)})) me).FM=pd:=hp1;rw[this];rfl
    rw[hp2,ax,Cl I];obtain⟨r1,r2,S3,hr,hsn⟩:=hT (GX.J (GX.J p.ah g).ai x.J).B.toNat ((cfg p N F f m).pd pd x.bD) (d+1) _ (⟨(me:Int),(x.bD:Int),(GX.J (GX.J p.ah g).ai x.J).B,0,(cfg p N F f m).pd pd x.bD,0,0⟩:fm) (Bf S me) l I (by show(GX.J (GX.J p.ah g).ai x.J).B=_;omega) rfl (HM _) I afe aff w2 (by rw[wl,w3];have:=agc.nn;omega) I I;have fin:∀af8:Int->Int->bH->Option (Int×Int×bH),(∃v KB S',af8 r1 r2 S3=some (v,KB,S')/\(S'.xd=0->SC p N F f m g pd d x0 n0 t0 S v S'))->∃v KB S',rN (fK K D (Bf S me) p.ah (⟨(me:Int),(x.bD:Int),(GX.J (GX.J p.ah g).ai x.J).B,0,(cfg p N F f m).pd pd x.bD,0,0⟩:fm) l ((d+1:Nat):Int)) af8=some (v,KB,S')/\(S'.xd=0->SC p N F f m g pd d x0 n0 t0 S v S'):=λaf8 h=>by rw[hr,dA];exact h
    refine fin _ ?_;rw[bg ⟨I,I⟩];by_cases h3:S3.xd=0
    ·obtain⟨z1,a9,n1,t1,Y,p2,p3,p4,p5,p6,p7,p8⟩:=hsn h3;have htn:=(Qg Y).1;rw[wl]at p5 p6;have P':=Am.Pre.spawn P (show(cfg p N F f m).code g x.J=_ from hin) I Y p2;obtain⟨v,KB,S',q,hq⟩:=ih S3 ⟨(me:Int),(d:Int),s7,mL 8 ny (GX.J (GX.J p.ah g).ai x.J).A.toNat r1,wi ((x.J:Int)+1),wi (ey+1),(if(wi ((wi (ey+1))+r2))>End then(wi ((wi (ey+1))+r2))else End),wi ((x.bD:Int)+1)⟩ _ _ _ P' (by show x.J+1<_;exact a7 I I) ⟨hi.r,λs' hs'=>by
      show u9 (Am.ck x.sl _ (z1.bu a9) s');rw[Am.cG];split
      ·exact p4
      ·exact hi.s s' hs'⟩ ⟨Cl I,tr.rg,λs' hs'=>by
      show GX.J (mL 8 ny _ _) s'=Am.ck x.sl _ (z1.bu a9) s';rw[Ib hs',Am.cG,p3,tr.sg s' hs'],Cl I,rfl,rfl⟩ ⟨h3,I,by have:=agc.l2;omega,by rw[p7,w3];have:=agc.nn;omega⟩ I (by rw[p7];omega) (by rw[p8 me I,hp1]) I
     refine⟨v,KB,S',q,λhe => ?_⟩;obtain⟨z,a,n,t,b1,b2,b3,b4,b5,b6,b7,b8⟩:=hq he;exact⟨z,a,1+(n1+1)+n,t1+1+t,by rw[show n0+(1+(n1+1)+n)=n0+1+(n1+1)+n by omega,show t0+(t1+1+t)=t0+(t1+1)+t by omega];exact b1,b2,b3,b4,by rw[b5,p5];omega,I,by rw[b7,p7,w3];omega,λi hi'=>by rw[b8 i I,p8 i I,w1.pd i hi']⟩
    ·exact RT h3 I
  ·rw[cQ k5];by_cases k6:(GX.J (GX.J p.ah g).ai x.J).aG=6
   ·rw[bg k6];refine more {x with J:=x.J+1} ⟨(me:Int),(d:Int),s7,ny,wi ((x.J:Int)+1),wi ((if End>ey then End else ey)+1),0,(x.bD:Int)⟩ ?_ ⟨Cl I,tr.rg,tr.sg,tr.kd,rfl,tr.dp⟩;show(match mZ (GX.J (GX.J p.ah g).ai x.J)with
     | .const a k=>some {x with J:=x.J+1,bu:=Am.ck x.bu a k}
     | .move a b=>some {x with J:=x.J+1,bu:=Am.ck x.bu a (x.bu b)}
     | .arith op a b c=>some {x with J:=x.J+1,bu:=Am.ck x.bu a (VD op (x.bu b) (x.bu c))}
     | .jump a=>some {x with J:=a}
     | .branch a b=>some {x with J:=if x.bu a≠0 then b else x.J+1}
     | .mN a=>some {x with J:=x.J+1,bu:=Am.ck x.bu a pd}
     | .load a s=>some {x with J:=x.J+1,bu:=Am.ck x.bu a (x.sl s)}
     | .sync=>some {x with J:=x.J+1}
     | .spawn _ _ _=>none
     | .ret _=>none)=_
    unfold mZ;simp[k6]
   ·rw[cQ k6];by_cases k9:(GX.J (GX.J p.ah g).ai x.J).aG=9
    ·have hA:0<=(GX.J (GX.J p.ah g).ai x.J).A/\(GX.J (GX.J p.ah g).ai x.J).A<16:=by
      unfold nv at a1;simp[k9,uJ]at a1;omega
     rw[bg k9,bg ⟨hA.1,I⟩,bg ⟨I,by rw[gU];omega⟩];have e1:=tr.rg (GX.J (GX.J p.ah g).ai x.J).A.toNat I;have e1:GX.J s7 (GX.J (GX.J p.ah g).ai x.J).A.toNat=x.bu (GX.J (GX.J p.ah g).ai x.J).A.toNat:=e1;refine⟨_,_,_,rfl,λ_=>⟨x,(GX.J (GX.J p.ah g).ai x.J).A.toNat,0,0,P,by unfold mZ;simp[k9],e1,hi.r _ I,?_,I,?_,λi hi' => ?_⟩⟩
     ·show wi (S.Left-1)=_;rw[fh (by have:=agc.l2;omega)];omega
     ·show((S.bL.set _ _).set _ _).length=_;rw[gU,gU];rfl
     ·show(GX.J ((S.bL.set _ _).set _ _) i).FM=_;rw[rL (by rw[gU];omega)];split
      ·next e=>subst e;rfl
      ·rw[rL I];split
       ·next e=>subst e;rfl
       ·rfl
    ·rw[cQ k9];obtain⟨y,hs⟩:=Ww (N:=N) (F:=F) (f:=f) (m:=m) (pd:=pd) hv JP hg hx k5 k9;obtain⟨T',Y,p2⟩:=Ws (T:=⟨(me:Int),(d:Int),s7,ny,wi ((x.J:Int)+1),wi (ey+1),End,(x.bD:Int)⟩) (S:=Bf S me) (me:=(me:Int)) (d:=(d:Int)) (K:=K) hv JP I hg hx hs k6 ⟨Cl I,tr.rg,tr.sg,tr.kd,rfl,tr.dp⟩ hi I I (by rw[di];exact hp1);have fin:∀af8:dR->Option (Int×Int×bH),(∃v KB S',af8 T'=some (v,KB,S')/\(S'.xd=0->SC p N F f m g pd d x0 n0 t0 S v S'))->∃v KB S',dX (lN K (Bf S me) p.ah ⟨(me:Int),(d:Int),s7,ny,wi ((x.J:Int)+1),wi (ey+1),End,(x.bD:Int)⟩ (GX.J (GX.J p.ah g).ai x.J)) af8=some (v,KB,S')/\(S'.xd=0->SC p N F f m g pd d x0 n0 t0 S v S'):=λaf8 h=>by rw[Y,ax];exact h
     exact fin _ (more y T' hs p2)
theorem RU(hv:Valid p)(JP:Zr p)(hK:4200000<K):∀D,adp K p N F f m D
 | 0=>λg pd d a0 nd S args _ _ _ _ _ _ _ _ _ hd h0=>by omega
 | D+1=>λg pd d a0 nd S args hg hf hpd hs ha hr h0 agc Zd hd hD=>by
  have g1:=agc.lf;have g2:=agc.l2;have g3:=agc.nn;obtain⟨l,GS,FQ⟩:=Wt (K:=K) ha args.length K 0 (List.replicate 16 (0:Int)) I I (λr hr=>by
   rw[ez];unfold GX.J;rw[List.getD_eq_getElem?_getD,List.getElem?_replicate];split<;>rfl)
  have Xh:=(hv.HZ g hg).c1;rw[fK]
  dsimp only
  have GS:ik K args K (List.replicate 16 (0:Int)) 0=some l:=GS;rw[GS,ax,bg ⟨I,I⟩];have afg :∃v,(if((args.length:Nat):Int)=0 then some 0 else some (GX.J l 0))=some v:=by split<;>exact⟨_,rfl⟩
  obtain⟨v0,hv0⟩:=afg;rw[hv0,ax,rD];generalize hS1:({S with bL:=S.bL++[{nd with Arg:=v0}],Deep:=if(d:Int)>S.Deep then(d:Int)else S.Deep}:bH)=S1;have n1:S1.bL=S.bL++[{nd with Arg:=v0}]:=by rw[<-hS1]
  have n1l:S1.bL.length=S.bL.length+1:=by rw[n1,jM];rfl
  have n1f:S1.Left=S.Left:=by rw[<-hS1]
  have n1e:S1.xd=0:=by rw[<-hS1];exact agc.er
  have n1p:∀i,i<S.bL.length->GX.J S1.bL i=GX.J S.bL i:=λi hi=>by
   rw[n1];unfold GX.J;rw[List.getD_eq_getElem?_getD,List.getD_eq_getElem?_getD,List.getElem?_append_left hi]
  have n1q:(GX.J S1.bL S.bL.length).FM=pd:=by
   rw[n1];unfold GX.J;rw[List.getD_eq_getElem?_getD,List.getElem?_append_right I,Io];exact hpd
  obtain⟨v,KB,S',q,hq⟩:=Wx hv JP hK (RU hv JP hK D) (me:=S.bL.length) (x0:=Am.Xa a0) hg hf hs hd hD rfl K S1 (⟨((S.bL.length:Nat):Int),(d:Int),l,List.replicate 8 (0:Int),0,0,0,0⟩:dR) (Am.Xa a0) 0 0 (Am.Pre.nil _ _ _ _) (by show 0<_;omega)
   ⟨λr hr=>h0 r hr,λs _=>by show u9 0;unfold u9;omega⟩ ⟨rfl,λr G7=>by rw[FQ r G7,hr r G7];rfl,λs hs=>by
    show GX.J (List.replicate 8 (0:Int)) s=0;unfold GX.J;rw[List.getD_eq_getElem?_getD,List.getElem?_replicate];split<;>rfl,rfl,rfl,rfl⟩ ⟨n1e,by rw[n1f];omega,by rw[n1f];exact g2,by rw[n1f,n1l];omega⟩ (by rw[n1f];omega) I n1q (by rw[n1f];omega)
  refine⟨v,KB,S',q,λhe => ?_⟩;obtain⟨z,a,n,t,b1,b2,b3,b4,b5,b6,b7,b8⟩:=hq he;rw[Bn,Bn]at b1;exact⟨z,a,n,t,b1,b2,b3,b4,by rw[b5,n1f],by rw[<-n1f];exact b6,by rw[b7,n1l];omega,λi hi=>by rw[b8 i I,n1p i hi]⟩
end
section
theorem YT{α:Type}[Inhabited α]{l:List α}{i:Nat}(h:i<l.length):J l i=l[i]:=by
 unfold J;rw[List.getD_eq_getElem?_getD,List.getElem?_eq_getElem h];rfl
theorem YU{p:aE}{N F f m:Nat}(hv:Valid p) :∃φ:Am.OE (cfg p N F f m),True:=by
 have kd:∀g a,g<p.ah.length->a<(J p.ah g).ai.length->(J (J p.ah g).ai a).aG=0∨(J (J p.ah g).ai a).aG=1∨(J (J p.ah g).ai a).aG=2∨(J (J p.ah g).ai a).aG=3∨(J (J p.ah g).ai a).aG=4∨(J (J p.ah g).ai a).aG=5∨(J (J p.ah g).ai a).aG=6∨(J (J p.ah g).ai a).aG=7∨(J (J p.ah g).ai a).aG=8∨(J (J p.ah g).ai a).aG=9:=λg a hg ha=>by
  have hk:=(Code.snd (hv.HZ g hg) (hv.code g hg)).kind (a:Int) I I;rw[di]at hk;omega
 have al:∀g a,g<p.ah.length->a<(J p.ah g).ai.length->nv (J p.ah g) (J (J p.ah g).ai a)=true:=λg a hg ha=>((hv.code g hg).ins a ha).1;refine⟨⟨λg=>(J p.ah g).bQ.toNat,λg a c st=>((a:Int),(st:Int))∈reach (J p.ah g) (c:Int),?_,?_,?_,?_,?_⟩,bR⟩
 ·intro g hg c hc;exact(Je (Code.snd (hv.HZ g hg) (hv.code g hg)) (c:Int)).2.2
 ·intro g a c st hg ha hc hR n hn;change g<p.ah.length at hg;change a<(J p.ah g).ai.length at ha;change c<(J p.ah g).bQ.toNat at hc;obtain⟨ok,cl,_⟩:=Je (Code.snd (hv.HZ g hg) (hv.code g hg)) (c:Int);obtain⟨j,hj,e⟩:=List.getElem_of_mem hR;have ej:J (reach (J p.ah g) (c:Int)) j=((a:Int),(st:Int)):=(YT hj).trans e;have:=cl j hj hj;rw[ej]at this;have hst:(Am.Qf (mZ (J (J p.ah g).ai a)) c st:Int)=Pp (J p.ah g) c a st/\(∀n∈Am.EI (cfg p N F f m) g a,(n:Int)∈nx (J p.ah g) a):=by
   have a1:=al g a hg ha;unfold Pp nx Am.EI;show(Am.Qf (mZ (J (J p.ah g).ai a)) c st:Int)=_/\∀n∈(match mZ (J (J p.ah g).ai a)with | .jump t=>[t] | .branch _ t=>[a+1,t] | .ret _=>[] | _=>[a+1]),_;rw[di];have hk:=kd g a hg ha;unfold nv at a1;generalize J (J p.ah g).ai a=x at *;unfold mZ;rcases hk with k | k | k | k | k | k | k | k | k | k<;>simp[k,uJ,Am.Qf]at a1⊢
   ·omega
   ·omega
   ·obtain⟨a1,a2⟩:=a1;have e:x.A.toNat=c↔x.A=(c:Int):=by omega
    by_cases h:x.A=(c:Int)
    ·rw[bg (e.2 h),bg h];rfl
    ·rw[cQ (λh'=>h (e.1 h')),cQ h]
   ·by_cases h:st=2
    ·rw[bg h,rD];rfl
    ·rw[cQ h,ez]
  rw[<-hst.1]at this;exact this n (hst.2 n hn)
 ·intro g a s f' c hg ha hc;change g<p.ah.length at hg;change a<(J p.ah g).ai.length at ha;have hc:mZ (J (J p.ah g).ai a)= .spawn s f' c:=hc;have a1:=al g a hg ha;have so:=(hv.slot g hg a ha).1;have hk:=kd g a hg ha;unfold nv at a1;generalize J (J p.ah g).ai a=x at *;unfold mZ at hc;rcases hk with k | k | k | k | k | k | k | k | k | k<;>simp[k]at hc
  simp[k,uJ]at a1;have so:=so k;have e:x.A=(s:Int):=by omega
  rw[e]at so;exact⟨by show s<(J p.ah g).bQ.toNat;omega,so⟩
 ·intro g a x0 s hg ha hc;change g<p.ah.length at hg;change a<(J p.ah g).ai.length at ha;have hc:mZ (J (J p.ah g).ai a)= .load x0 s:=hc;have a1:=al g a hg ha;have so:=(hv.slot g hg a ha).2.1;have hk:=kd g a hg ha;unfold nv at a1;generalize J (J p.ah g).ai a=x at *;unfold mZ at hc;rcases hk with k | k | k | k | k | k | k | k | k | k<;>simp[k]at hc
  simp[k,uJ]at a1;have so:=so k;have e:x.B=(s:Int):=by omega
  rw[e]at so;exact⟨by show s<(J p.ah g).bQ.toNat;omega,so.1,so.2⟩
 ·intro g a x0 hg ha hc c Gf;change g<p.ah.length at hg;change a<(J p.ah g).ai.length at ha;have hc:mZ (J (J p.ah g).ai a)= .ret x0:=hc;have so:=(hv.slot g hg a ha).2.2;have hk:=kd g a hg ha;generalize J (J p.ah g).ai a=x at *;unfold mZ at hc;rcases hk with k | k | k | k | k | k | k | k | k | k<;>simp[k]at hc
  exact so k c Gf
end
end Mo
end
end Go.Proofs.YtaiffafelihaaaaGreatDoor

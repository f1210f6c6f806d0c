/- plunderlaw11.WorkerSerial answers true for every input of the bulk that the statement names, and leaves its input alone. Conditions: none. -/
import Derived.Test.YtpikpffbcjpmcaaGreatDoorU2
set_option linter.unusedVariables false
set_option linter.unusedSimpArgs false
set_option linter.unusedSectionVars false
set_option maxRecDepth 100000
set_option maxHeartbeats 4000000
set_option autoImplicit true
set_option relaxedAutoImplicit true
namespace Go.Proofs.YtpikpffbcjpmcaaGreatDoor
open Proofs.Tryz
section
namespace Mo
open Go SL GX
section
variable {K:Nat}
abbrev ar(sz:Int)(c:List Int)(l:List aW)(a:Int)(w:Bool):af:=⟨sz,(c.length:Nat),c,l,a,w⟩
def yU(w:Bool)(l xs:List aW):List aW:=if w then l++xs else l
theorem BC(w:Bool)(l xs ys:List aW):yU w (yU w l xs) ys=yU w l (xs++ys):=by cases w<;>simp[yU]
theorem LC(w:Bool)(l:List aW):yU w l []=l:=by cases w<;>simp[yU]
theorem zI(w:Bool)(l xs:List aW):(yU w l xs).length<=l.length+xs.length:=by cases w<;>simp[yU]
theorem LD{sz:Int}{m:Int}{c:List Int}{l:List aW}{a:Int}{w:Bool}(hl:l.length<=2000000000)(k d x y:Int)(ok:Bool) :
 gz ⟨sz,m,c,l,a,w⟩ k d x y ok=some ⟨sz,m,c,yU w l [⟨a,k,d,x,y,ok⟩],a,w⟩:=by
 unfold gz yU;cases w
 ·rfl
 ·rw[aP rfl,aP (by show(l.length+1)*48<=_;omega)];rfl
theorem LF{sz:Int}{c:List Int}{l:List aW}{a:Int}{w:Bool}(hl:l.length<=2000000000)(hs:sz<=2000000000){n:Int}(h1:1<=n)(hn:(c.length:Int)+n<=sz) :
 fY (ar sz c l a w) n=some (((c.length:Nat):Int),0,ar sz (c++List.replicate n.toNat 0) (yU w l [⟨a,4,(c.length:Nat),n,0,true⟩]) a w):=by
 unfold fY nr qE;rw[jC,ef,eO (by show -9223372036854775808<=sz-(c.length:Nat)/\sz-(c.length:Nat)<=9223372036854775807;omega),cu (by show ¬n>sz-(c.length:Nat);omega),au,aP rfl,eR,
  aP ⟨I,by show(c.length+n.toNat)*8<=_;omega⟩,LD hl,au,eO (by show -9223372036854775808<=((c.length:Nat):Int)+n/\((c.length:Nat):Int)+n<=9223372036854775807;omega)]
 simp only[ar,j6,n7];rw[show((c.length+n.toNat:Nat):Int)=((c.length:Nat):Int)+n by omega]
theorem LG{sz:Int}{c:List Int}{l:List aW}{a:Int}{w:Bool}(hs:sz<=2000000000)(hs0:0<=sz)(hc:c.length<=2000000000){n:Int}(h1:1<=n)(hn:¬(c.length:Int)+n<=sz) :
 fY (ar sz c l a w) n=some (0,22,ar sz c l a w):=by
 unfold fY nr;rw[jC,ef,eO (by show -9223372036854775808<=sz-(c.length:Nat)/\sz-(c.length:Nat)<=9223372036854775807;omega),aP (by show n>sz-(c.length:Nat);omega),au,cu eC]
theorem Va{sz:Int}{c:List Int}{l:List aW}{a:Int}{w:Bool}{d:Int}(h0:0<=d)(h1:d<(c.length:Nat)):iC (ar sz c l a w) d=some false:=by
 unfold iC rK;rw[aP h0,au];simp[h1]
theorem Pe{sz:Int}{c:List Int}{l:List aW}{a:Int}{w:Bool}(hl:l.length<=2000000000){d v:Int}(h0:0<=d)(h1:d<(c.length:Nat)) :
 eB (ar sz c l a w) d v=some (0,ar sz (c.set d.toNat v) (yU w l [⟨a,1,d,v,0,true⟩]) a w):=by
 unfold eB;rw[Va h0 h1,au,cu eC,aP ⟨h0,h1⟩,LD hl,au];simp only[ar,hU]
theorem aat{sz:Int}{c:List Int}{l:List aW}{a:Int}{w:Bool}(hl:l.length<=2000000000){d v:Int}(h0:0<=d)(h1:d<(c.length:Nat)) :
 je (ar sz c l a w) d v=some (wi (J c d.toNat+v),0,ar sz (c.set d.toNat (wi (J c d.toNat+v))) (yU w l [⟨a,3,d,v,wi (J c d.toNat+v),true⟩]) a w):=by
 unfold je;have h2:d.toNat<c.length:=by omega
 rw[Va h0 h1,au,cu eC,aP ⟨h0,h1⟩,aP ⟨h0,by rw[hU];exact h1⟩,LD hl,au,aP ⟨h0,by show d<(((c.set d.toNat _).length:Nat):Int);rw[hU];exact h1⟩];simp only[ar,hU];rw[uX h2]
def q8(sz:Int):List aW->List aW
 | []=>[]
 | x::xs=>if x.aN=4/\x.Addr+x.A>sz then []else x::q8 sz xs
theorem GD{sz:Int}:∀(xs ys:List aW),(∀x∈xs,x.aN≠4)->q8 sz (xs++ys)=xs++q8 sz ys
 | [],ys,_=>rfl
 | x::xs,ys,h=>by
  rw[uq,q8,cu (λe=>h x (by simp) e.1),GD xs ys (λy hy=>h y (Mt _ hy))];rfl
theorem NH{sz:Int}:∀(xs ys:List aW),q8 sz xs=xs->q8 sz (xs++ys)=xs++q8 sz ys
 | [],ys,_=>rfl
 | x::xs,ys,h=>by
  rw[q8]at h;by_cases e:x.aN=4/\x.Addr+x.A>sz
  ·rw[aP e]at h;exact absurd h (by simp)
  ·rw[cu e]at h;rw[uq,q8,cu e,NH xs ys (List.cons.inj h).2];rfl
def LH(a:Int)(i:Nat):Nat->List aW
 | 0=>[]
 | d+1=>⟨a,1,2+10*(i:Int),1,0,true⟩::LH a (i+1) d
theorem NI{a:Int}:∀(d i:Nat),∀x∈LH a i d,x.aN≠4
 | 0,i,x,h=>by simp[LH]at h
 | d+1,i,x,h=>by
  rcases List.mem_cons.1 h with rfl | h
  ·show(1:Int)≠4;decide
  ·exact NI d (i+1) x h
theorem QW{a:Int}:∀(d i:Nat),(LH a i d).length=d
 | 0,i=>rfl
 | d+1,i=>by rw[LH,BG,QW d (i+1)]
def HB(a first:Int):Int->Nat->List aW
 | _,0=>[]
 | J,d+1=>⟨a,4,J,4+first,0,true⟩::⟨a,1,J+2,J+3,0,true⟩::⟨a,1,J+3,first,0,true⟩::HB a first (J+(4+first)) d
theorem QX{a first:Int}:∀(d:Nat) (J:Int),(HB a first J d).length=3*d
 | 0,_=>rfl
 | d+1,_=>by rw[HB,BG,BG,BG,QX d];omega
structure Zi(F first most:Int):Prop where
 f1:1<=F
 f2:F<=4096
 a1:1<=first
 a2:first<=most
 m2:most<=4096
theorem Sn(p:aE)(args:List Int)(n:Int)(l:eP)(hK:3000<K) :∃e:Int,mD K p args n l=some e/\nY K p args n l=some e/\(e=0∨e=110∨e=111∨e=60∨e=61)/\(e=0->Valid p/\(args.length:Int)=(J p.ah 0).aS/\1<=n/\n<=64/\Zi l.cB l.dY l.j0):=by
 obtain⟨x,e1,e2,e3⟩:=US (K:=K) p hK;unfold mD nY;rw[e1,e2,au,au];by_cases hx:x.zO=0
 ·have hv:=e3 hx;have:=hv.n1;have hi:bI (0:Int) p.ah.length:=⟨eC,I⟩;rw[aP hx,aP hx,aP hi,aP hi];by_cases ha:((args.length:Nat):Int)=(J p.ah 0).aS
  ·rw[aP ha,aP ha];unfold rI kZ rJ;by_cases h1:n<1
   ·rw[aP h1,cu (show ¬n>=1 by omega)];exact⟨110,rfl,rfl,by simp,λh=>absurd h eC⟩
   ·rw[cu h1,aP (show n>=1 by omega)];by_cases h2:n>64
    ·rw[aP h2,HI (show ¬n<=64 by omega)];exact⟨110,rfl,rfl,by simp,λh=>absurd h eC⟩
    ·rw[cu h2,tY (show n<=64 by omega),au,aP rfl];by_cases g1:l.cB<1
     ·rw[aP g1,cu (show ¬l.cB>=1 by omega)];exact⟨111,rfl,rfl,by simp,λh=>absurd h eC⟩
     rw[cu g1,aP (show l.cB>=1 by omega)];by_cases g2:l.cB>4096
     ·rw[aP g2,cu (show ¬l.cB<=4096 by omega)];exact⟨111,rfl,rfl,by simp,λh=>absurd h eC⟩
     rw[cu g2,aP (show l.cB<=4096 by omega)];by_cases g3:l.dY<1
     ·rw[aP g3,cu (show ¬(1:Int)<=l.dY by omega)];exact⟨111,rfl,rfl,by simp,λh=>absurd h eC⟩
     rw[cu g3,aP (show(1:Int)<=l.dY by omega)];by_cases g4:l.dY>l.j0
     ·rw[aP g4,cu (show ¬l.dY<=l.j0 by omega)];exact⟨111,rfl,rfl,by simp,λh=>absurd h eC⟩
     rw[cu g4,aP (show l.dY<=l.j0 by omega)];by_cases g5:l.j0>4096
     ·rw[tY g5,HI (show ¬l.j0<=4096 by omega)];exact⟨111,rfl,rfl,by simp,λh=>absurd h eC⟩
     ·rw[HI g5,tY (show l.j0<=4096 by omega)];exact⟨0,rfl,rfl,.inl rfl,λ_=>⟨hv,ha,I,I,⟨I,I,I,I,I⟩⟩⟩
  ·rw[cu ha,cu ha];exact⟨61,rfl,rfl,by simp,λh=>absurd h eC⟩
 ·rw[cu hx,cu hx];exact⟨60,rfl,rfl,by simp,λh=>absurd h eC⟩
structure IX(N F ag1:Nat)(first:Int)(c:List Int):Prop where
 len:c.length=4+10*F+N+N*ag1
 c0:J c 0=0
 c1:J c 1=1
 fr:∀f,f<F->∀r,r<10->J c (2+10*f+r)=if r=0 then 1 else 0
 lot:∀r,r<2+N->J c (2+10*F+r)=0
 dq:∀i,i<N->∀r,r<ag1->J c (4+10*F+N+i*ag1+r)=if r=2 then((4+10*F+N+i*ag1+3:Nat):Int)else if r=3 then first else 0
theorem aau{x y:List Int}(hl:x.length=y.length)(he:∀i,i<x.length->J x i=J y i):x=y:=by
 refine Ms hl λi h1 h2 => ?_;have:=he i h1;unfold J at this;rw[List.getD_eq_getElem?_getD,List.getD_eq_getElem?_getD,List.getElem?_eq_getElem h1,List.getElem?_eq_getElem h2]at this;exact this
theorem IX.eq{N F ag1:Nat}(hW:0<ag1){first:Int}{c c':List Int}(h:IX N F ag1 first c)(h':IX N F ag1 first c'):c=c':=by
 refine aau (by rw[h.len,h'.len]) λx hx => ?_;rw[h.len]at hx;by_cases e0:x=0
 ·subst e0;rw[h.c0,h'.c0]
 by_cases e1:x=1
 ·subst e1;rw[h.c1,h'.c1]
 by_cases e2:x<2+10*F
 ·rw[show x=2+10*((x-2)/10)+(x-2)%10 by omega,h.fr _ I _ I,h'.fr _ I _ I]
 by_cases e3:x<4+10*F+N
 ·rw[show x=2+10*F+(x-(2+10*F)) by omega,h.lot _ I,h'.lot _ I]
 have hd:=Gu (x-(4+10*F+N)) ag1;have hm:=Du (x-(4+10*F+N)) hW;have hi:(x-(4+10*F+N))/ag1<N:=by rw[Nat.div_lt_iff_lt_mul hW];omega
 rw[Nat.mul_comm]at hd;rw[show x=4+10*F+N+(x-(4+10*F+N))/ag1*ag1+(x-(4+10*F+N))%ag1 by omega,h.dq _ hi _ hm,h'.dq _ hi _ hm]
end
section
variable {K:Nat}
theorem CA{l:List Int}{i k:Nat}{x:Int}(h:i<l.length):J (l.set i x) k=if k=i then x else J l k:=rf h
theorem Vb{sz a:Int}{w:Bool}{F:Nat}(hF:F<=4096):∀(d k i:Nat) (c:List Int) (l:List aW),i+d=F->d<k->2+10*F<=c.length->l.length+d<=1000000000->
 ∃c',jQ K (F:Int) 1 k (ar sz c l a w) (i:Int)=some (⟨1,F⟩,0,ar sz c' (yU w l (LH a i d)) a w)/\c'.length=c.length/\(∀f,i<=f->f<F->J c' (2+10*f)=1)/\(∀x,(∀f,i<=f->f<F->x≠2+10*f)->J c' x=J c x)
 | d,k,i,c,l,hd,hk,hc,hl=>by
  obtain⟨k,rfl⟩ :∃m,k=m+1:=⟨k-1,I⟩;rw[jQ];by_cases hi:i<F
  ·obtain⟨d,rfl⟩ :∃m,d=m+1:=⟨d-1,I⟩;unfold gU;rw[p7,eO (x:=(1:Int)+1) I,eO (x:=(i:Int)*10) I,eO I,au,Pe I I I,eR,aP rfl,AX I];have e:((1:Int)+1+(i:Int)*10).toNat=2+10*i:=by omega
   rw[e];have h1:=zI w l [(⟨a,1,1+1+(i:Int)*10,1,0,true⟩:aW)];simp only[HK]at h1;obtain⟨c',r1,r2,r3,r4⟩:=Vb hF d k (i+1) (c.set (2+10*i) 1) (yU w l [⟨a,1,1+1+(i:Int)*10,1,0,true⟩]) I I (by rw[hU];exact hc) I;refine⟨c',?_,by rw[r2,hU],λf h1 h2 => ?_,λx hx => ?_⟩
   ·rw[r1,BC,LH,show(1:Int)+1+(i:Int)*10=2+10*(i:Int) by omega];rfl
   ·by_cases e:f=i
    ·subst e;rw[r4 _ (λg h3 h4=>I),CA I,aP rfl]
    ·exact r3 f I h2
   ·rw[r4 x (λf h3 h4=>hx f I h4),CA I,cu (hx i (jU _) hi)]
  ·rw[ef];obtain rfl:d=0:=by omega
   exact⟨c,by rw[LH,LC],rfl,λf h1 h2=>I,λ_ _=>rfl⟩
def WG(B ag1:Nat)(most:Int)(i:Nat):Nat->List cA
 | 0=>[]
 | d+1=>⟨((B+i*ag1:Nat):Int),most⟩::WG B ag1 most (i+1) d
theorem QY{B ag1:Nat}{most:Int}:∀(d i:Nat),(WG B ag1 most i d).length=d
 | 0,i=>rfl
 | d+1,i=>by rw[WG,BG,QY d (i+1)]
theorem Vc{B ag1:Nat}{most:Int}:∀(d i j:Nat),j<d->J (WG B ag1 most i d) j=⟨((B+(i+j)*ag1:Nat):Int),most⟩
 | d+1,i,0,_=>by rw[WG];rfl
 | d+1,i,j+1,h=>by
  have:=Vc (B:=B) (ag1:=ag1) (most:=most) d (i+1) j I;rw[show i+1+j=i+(j+1) by omega]at this;exact this
theorem afh{sz a:Int}{w:Bool}{mb:eP}(hl:Zi mb.cB mb.dY mb.j0)(hs:sz<=2000000000){c:List Int}{l:List aW}(hc:c.length<=1000000000)(hll:l.length<=1000000000) :
 ((c.length:Int)+(4+mb.dY)<=sz->qu (ar sz c l a w) mb.dY mb.j0=some (⟨((c.length:Nat):Int),mb.j0⟩,0,ar sz (((c++List.replicate (4+mb.dY).toNat 0).set (c.length+2) ((c.length:Nat)+3)).set (c.length+3) mb.dY)
  (yU w l [⟨a,4,(c.length:Nat),4+mb.dY,0,true⟩,⟨a,1,(c.length:Nat)+2,(c.length:Nat)+3,0,true⟩,⟨a,1,(c.length:Nat)+3,mb.dY,0,true⟩]) a w))/\
 (0<=sz->¬(c.length:Int)+(4+mb.dY)<=sz->qu (ar sz c l a w) mb.dY mb.j0=some (⟨0,0⟩,22,ar sz c l a w)):=by
 have h1:=hl.a1;have h2:=hl.a2;have h3:=hl.m2;unfold qu tS;rw[aP h1,aP h2,tY h3,au,aP rfl,eO (x:=(4:Int)+mb.dY) I];refine⟨λhf => ?_,λh0 hf => ?_⟩
 ·have k1:=zI w l [(⟨a,4,(c.length:Nat),4+mb.dY,0,true⟩:aW)];simp only[HK]at k1;rw[LF I hs I hf,dr,aP rfl,eO (x:=((c.length:Nat):Int)+2) I,eO (x:=((c.length:Nat):Int)+3) I,Pe I I (by rw[j6,n7];omega),eR,aP rfl];have k2:=zI w (yU w l [(⟨a,4,(c.length:Nat),4+mb.dY,0,true⟩:aW)]) [(⟨a,1,(c.length:Nat)+2,(c.length:Nat)+3,0,true⟩:aW)];simp only[HK]at k2;rw[Pe I I (by rw[hU,j6,n7];omega),eR,aP rfl,BC,BC,show(((c.length:Nat):Int)+2).toNat=c.length+2 by omega,show(((c.length:Nat):Int)+3).toNat=c.length+3 by omega]
  rfl
 ·rw[LG hs h0 I I hf,dr,cu eC]
theorem acS{sz a:Int}{w:Bool}{mb:eP}(hl:Zi mb.cB mb.dY mb.j0)(hs:sz<=1000000000)(hs0:0<=sz){N B ag1:Nat}(hN:N<=64)(hB:B<=100000)(hW:(ag1:Int)=4+mb.dY){O:ag}{iZ:Int}{rF:bq}{r32:fz}:∀(d k i:Nat) (c:List Int) (l:List aW) (D:List cA),i+d=N->d<k->c.length=B+i*ag1->D.length=i->l.length+3*d<=1000000000->
 (((B+N*ag1:Nat):Int)<=sz->∃c',jR K O (N:Int) mb iZ rF r32 k (ar sz c l a w) D (i:Int)=some (.inl (ar sz c' (yU w l (HB a mb.dY (c.length:Nat) d)) a w,D++WG B ag1 mb.j0 i d))/\q8 sz (HB a mb.dY (c.length:Nat) d)=HB a mb.dY (c.length:Nat) d/\c'.length=B+N*ag1/\(∀x,x<c.length->J c' x=J c x)/\
   (∀j,i<=j->j<N->∀r,r<ag1->J c' (B+j*ag1+r)=if r=2 then((B+j*ag1+3:Nat):Int)else if r=3 then mb.dY else 0))/\
 (¬((B+N*ag1:Nat):Int)<=sz->∃X c',jR K O (N:Int) mb iZ rF r32 k (ar sz c l a w) D (i:Int)=some (.inr (22,X,ar sz c' (yU w l (q8 sz (HB a mb.dY (c.length:Nat) d))) a w))/\(∀ys,q8 sz (HB a mb.dY (c.length:Nat) d++ys)=q8 sz (HB a mb.dY (c.length:Nat) d))∨((B+i*ag1:Nat):Int)>sz/\d=0)
 | d,k,i,c,l,D,hd,hk,hc,hD,hll=>by
  obtain⟨k,rfl⟩ :∃m,k=m+1:=⟨k-1,I⟩;have h1:=hl.a1;have h2:=hl.a2;have h3:=hl.m2;have hiW:i*ag1<=N*ag1:=sH ag1 I;have hNW:N*ag1<=64*4100:=Nat.mul_le_mul hN I;rw[jR];by_cases hi:i<N
  ·obtain⟨d,rfl⟩ :∃m,d=m+1:=⟨d-1,I⟩;have hsW:(i+1)*ag1=i*ag1+ag1:=Gw i ag1;have agH:(i+1)*ag1<=N*ag1:=sH ag1 I;have WH:(((c++List.replicate (4+mb.dY).toNat (0:Int)).set (c.length+2) ((c.length:Nat)+3)).set (c.length+3) mb.dY).length=B+(i+1)*ag1:=by
    rw[hU,hU,j6,n7];omega
   rw[p7];obtain⟨n1,n2⟩:=afh (a:=a) (w:=w) hl (by omega:sz<=2000000000) (c:=c) (l:=l) I I;by_cases hf:(c.length:Int)+(4+mb.dY)<=sz
   ·rw[n1 hf,dr,aP rfl,p7,AX I];have XG:∀ys,q8 sz ((⟨a,4,(c.length:Nat),4+mb.dY,0,true⟩:aW)::(⟨a,1,(c.length:Nat)+2,(c.length:Nat)+3,0,true⟩:aW)::(⟨a,1,(c.length:Nat)+3,mb.dY,0,true⟩:aW)::ys)=(⟨a,4,(c.length:Nat),4+mb.dY,0,true⟩:aW)::(⟨a,1,(c.length:Nat)+2,(c.length:Nat)+3,0,true⟩:aW)::(⟨a,1,(c.length:Nat)+3,mb.dY,0,true⟩:aW)::q8 sz ys:=λys=>by
     rw[q8,cu (λh=>absurd h.2 (by show ¬((c.length:Nat):Int)+(4+mb.dY)>sz;omega)),q8,cu (λh=>absurd h.1 (by show ¬(1:Int)=4;decide)),q8,cu (λh=>absurd h.1 (by show ¬(1:Int)=4;decide))]
    have k1:=zI w l [(⟨a,4,(c.length:Nat),4+mb.dY,0,true⟩:aW),(⟨a,1,(c.length:Nat)+2,(c.length:Nat)+3,0,true⟩:aW),(⟨a,1,(c.length:Nat)+3,mb.dY,0,true⟩:aW)];simp only[BG,yX]at k1;obtain⟨Wr,ZY⟩:=acS hl hs hs0 hN hB hW (O:=O) (iZ:=iZ) (rF:=rF) (r32:=r32) (a:=a) (w:=w) d k (i+1) _ (yU w l [(⟨a,4,(c.length:Nat),4+mb.dY,0,true⟩:aW),(⟨a,1,(c.length:Nat)+2,(c.length:Nat)+3,0,true⟩:aW),(⟨a,1,(c.length:Nat)+3,mb.dY,0,true⟩:aW)]) (D++[⟨((c.length:Nat):Int),mb.j0⟩]) I I WH (by simp[hD]) I;have el:((B+(i+1)*ag1:Nat):Int)=((c.length:Nat):Int)+(4+mb.dY):=by omega
    rw[WH,el]at Wr ZY;refine⟨λhfit => ?_,λhno => ?_⟩
    ·obtain⟨c',r1,r0,r2,r3,r4⟩:=Wr hfit;refine⟨c',?_,?_,r2,λx hx => ?_,λj h5 h6 r h7 => ?_⟩
     ·rw[r1,BC,HB,WG,q9,hc];rfl
     ·rw[HB,XG,r0]
     ·rw[r3 x I,CA (by rw[hU,j6,n7];omega),ef,CA (by rw[j6,n7];omega),ef,tC hx]
     ·by_cases e:j=i
      ·subst e;rw[r3 _ I,<-hc,CA (by rw[hU,j6,n7];omega),CA (by rw[j6,n7];omega),xl I,show c.length+r-c.length=r by omega,EU I];by_cases e2:r=2
       ·subst e2;rw[ef,aP rfl,aP rfl];omega
       ·by_cases e3:r=3
        ·subst e3;rw[aP rfl,ef,aP rfl]
        ·rw[ef,ef,cu e2,cu e3]
      ·exact r4 j I h6 r h7
    ·obtain⟨X,c',⟨r1,r2⟩ | r1⟩:=ZY hno
     ·exact⟨X,c',.inl ⟨by rw[r1,BC,HB,XG];rfl,λys=>by rw[HB,uq,uq,uq,XG,XG,r2 ys]⟩⟩
     ·exfalso;omega
   ·have e2:=n2 hs0 hf;refine⟨λhfit=>by exfalso;omega,λhno => ?_⟩;rw[e2,dr,cu eC];have e3:yU w l (q8 sz (HB a mb.dY (c.length:Nat) (d+1)))=l:=by
     rw[HB,q8,aP ⟨rfl,by show((c.length:Nat):Int)+(4+mb.dY)>sz;omega⟩,LC]
    rw[e3];exact⟨_,c,.inl ⟨rfl,λys=>by rw[HB,uq,q8,q8,aP ⟨rfl,by show((c.length:Nat):Int)+(4+mb.dY)>sz;omega⟩,aP ⟨rfl,by show((c.length:Nat):Int)+(4+mb.dY)>sz;omega⟩]⟩⟩
  ·obtain rfl:d=0:=by omega
   obtain rfl:i=N:=by omega
   rw[ef];refine⟨λhfit=>⟨c,by rw[HB,LC,WG,Bt],rfl,hc,λ_ _=>rfl,λj h5 h6=>I⟩,λhno=>⟨O,c,.inr ⟨I,rfl⟩⟩⟩
def u5(a:Int)(N F:Nat)(first:Int):List aW:=
 [⟨a,4,0,1,0,true⟩,⟨a,4,1,1+10*(F:Int),0,true⟩]++LH a 0 F++(⟨a,4,2+10*(F:Int),2+(N:Int),0,true⟩::HB a first (4+10*F+N:Nat) N++[⟨a,3,1,1,1,true⟩])
theorem Pf{sz a:Int}{w:Bool}{F:Nat}(h1:1<=F)(h2:F<=4096)(hs:sz<=1000000000)(hs0:0<=sz)(hK:5000<K){l:List aW}(hl:l.length<=100) :
 ((2+10*F:Int)<=sz->∃c,pC K (ar sz [0] l a w) (F:Int)=some (⟨1,F⟩,0,ar sz c (yU w l (⟨a,4,1,1+10*(F:Int),0,true⟩::LH a 0 F)) a w)/\c.length=2+10*F/\(∀f,f<F->J c (2+10*f)=1)/\(∀x,x<2+10*F->(∀f,f<F->x≠2+10*f)->J c x=0))/\
 (¬(2+10*F:Int)<=sz->pC K (ar sz [0] l a w) (F:Int)=some (⟨0,0⟩,22,ar sz [0] l a w)):=by
 unfold pC sA;rw[cu (show ¬(F:Int)<1 by omega),cu (show ¬(F:Int)>4096 by omega),eO (x:=(F:Int)*10) I,eO (x:=1+(F:Int)*10) I,au,cu (show ¬1+(F:Int)*10=0 by omega),au];refine⟨λhf => ?_,λhf => ?_⟩
 ·rw[LF I I I (by show((1:Nat):Int)+(1+(F:Int)*10)<=sz;omega),dr,aP rfl];have k1:=zI w l [(⟨a,4,1,1+(F:Int)*10,0,true⟩:aW)];simp only[HK]at k1;obtain⟨c,r1,r2,r3,r4⟩:=Vb (K:=K) (sz:=sz) (a:=a) (w:=w) h2 F K 0 ([0]++List.replicate (1+(F:Int)*10).toNat 0) (yU w l [⟨a,4,1,1+(F:Int)*10,0,true⟩]) I I (by rw[j6,n7];simp;omega) I;rw[pL]at r1;refine⟨c,?_,by rw[r2,j6,n7];simp;omega,λf hf=>r3 f (Et _) hf,λx hx hn => ?_⟩
  ·show jQ K (F:Int) ((1:Nat):Int) K (ar sz ([0]++List.replicate (1+(F:Int)*10).toNat 0) (yU w l [⟨a,4,((1:Nat):Int),1+(F:Int)*10,0,true⟩]) a w) 0=_;rw[show((1:Nat):Int)=1 from rfl,r1,BC,show 1+(F:Int)*10=1+10*(F:Int) by omega];rfl
  ·rw[r4 x (λf _ h=>hn f h)];by_cases e:x=0
   ·subst e;rfl
   ·rw[xl (by simp;omega),EU (by simp;omega)]
 ·rw[LG I hs0 (by simp) I (by show ¬((1:Nat):Int)+(1+(F:Int)*10)<=sz;omega),dr,cu eC]
theorem Vd{sz a:Int}{w:Bool}{N:Nat}(h1:1<=N)(h2:N<=64)(hs:sz<=1000000000)(hs0:0<=sz){c:List Int}(hc:c.length<=100000){l:List aW}(hl:l.length<=100000) :
 ((c.length+2+N:Int)<=sz->rL (ar sz c l a w) (N:Int)=some (⟨(c.length:Nat),N⟩,0,ar sz (c++List.replicate (2+N) 0) (yU w l [⟨a,4,(c.length:Nat),2+(N:Int),0,true⟩]) a w))/\
 (¬(c.length+2+N:Int)<=sz->rL (ar sz c l a w) (N:Int)=some (⟨0,0⟩,22,ar sz c l a w)):=by
 unfold rL nQ;rw[cu (show ¬(N:Int)<1 by omega),cu (show ¬(N:Int)>64 by omega),eO (x:=2+(N:Int)) I,au,cu (show ¬2+(N:Int)=0 by omega),au];refine⟨λhf => ?_,λhf => ?_⟩
 ·rw[LF I I I I,dr,aP rfl,show(2+(N:Int)).toNat=2+N by omega]
 ·rw[LG I hs0 I I I,dr,cu eC]
theorem aav{sz a:Int}{w:Bool}{N F ag1:Nat}{mb:eP}(hl:Zi mb.cB mb.dY mb.j0)(hF:mb.cB=F)(hN1:1<=N)(hN:N<=64)(hW:(ag1:Int)=4+mb.dY)(hs:sz<=1000000000)(hs0:0<=sz)(hK:5000<K){O:ag}(hp:O.dK=[]) :
 (((4+10*F+N+N*ag1:Nat):Int)<=sz->∃c,pD K O (ar sz [] [] a w) (N:Int) mb=some (0,⟨O.code,0,1,F,2+10*(F:Int),N,WG (4+10*F+N) ag1 mb.j0 0 N,O.aK,O.aj,O.value,O.left⟩,ar sz c (yU w [] (u5 a N F mb.dY)) a w)/\q8 sz (u5 a N F mb.dY)=u5 a N F mb.dY/\IX N F ag1 mb.dY c)/\
 (¬((4+10*F+N+N*ag1:Nat):Int)<=sz->∃X c,pD K O (ar sz [] [] a w) (N:Int) mb=some (22,X,ar sz c (yU w [] (q8 sz (u5 a N F mb.dY))) a w)):=by
 have f1:=hl.f1;have f2:=hl.f2;have h1:=hl.a1;have h2:=hl.a2;have h3:=hl.m2;have hNW:N*ag1<=64*4100:=Nat.mul_le_mul hN I;unfold pD;rw[hF];by_cases s1:¬(1:Int)<=sz
 ·rw[LG (c:=[]) I hs0 (by simp) I (by show ¬((0:Nat):Int)+1<=sz;omega),dr,cu eC];refine⟨λh=>by exfalso;omega,λ_ => ?_⟩;have:yU w [] (q8 sz (u5 a N F mb.dY))=[]:=by
   rw[u5,uq,uq,q8,aP ⟨rfl,by show(0:Int)+1>sz;omega⟩,LC]
  rw[this];exact⟨_,[],rfl⟩
 have s1:=Decidable.not_not.1 s1;rw[LF (c:=[]) (by simp) I I (by show((0:Nat):Int)+1<=sz;omega),dr,aP rfl];have k0:=zI w [] [(⟨a,4,(([]:List Int).length:Nat),1,0,true⟩:aW)];simp only[HK,yX]at k0;obtain⟨fr1,fr2⟩:=Pf (K:=K) (sz:=sz) (a:=a) (w:=w) (F:=F) I I hs hs0 hK (l:=yU w [] [(⟨a,4,(([]:List Int).length:Nat),1,0,true⟩:aW)]) (by simp only[yX];omega);have WT:q8 sz (u5 a N F mb.dY)=⟨a,4,0,1,0,true⟩::q8 sz (⟨a,4,1,1+10*(F:Int),0,true⟩::LH a 0 F++(⟨a,4,2+10*(F:Int),2+(N:Int),0,true⟩::HB a mb.dY (4+10*F+N:Nat) N++[⟨a,3,1,1,1,true⟩])):=by
  rw[u5,uq,uq,q8,cu (λh=>absurd h.2 (by show ¬(0:Int)+1>sz;omega))];rfl
 have e0:ar sz ([]++List.replicate (1:Int).toNat 0) (yU w [] [(⟨a,4,(([]:List Int).length:Nat),1,0,true⟩:aW)]) a w=ar sz [0] (yU w [] [(⟨a,4,(([]:List Int).length:Nat),1,0,true⟩:aW)]) a w:=rfl;rw[e0];by_cases s2:¬(2+10*F:Int)<=sz
 ·rw[fr2 s2,dr,cu eC];refine⟨λh=>by exfalso;omega,λ_ => ?_⟩;rw[WT,uq,q8,aP ⟨rfl,by show(1:Int)+(1+10*(F:Int))>sz;omega⟩];exact⟨_,_,rfl⟩
 have s2:=Decidable.not_not.1 s2;obtain⟨c1,q1,q2,q3,q4⟩:=fr1 s2;rw[q1,dr,aP rfl];have ME:q8 sz (u5 a N F mb.dY)=⟨a,4,0,1,0,true⟩::⟨a,4,1,1+10*(F:Int),0,true⟩::(LH a 0 F++q8 sz (⟨a,4,2+10*(F:Int),2+(N:Int),0,true⟩::HB a mb.dY (4+10*F+N:Nat) N++[⟨a,3,1,1,1,true⟩])):=by
  rw[WT,uq,q8,cu (λh=>absurd h.2 (by show ¬(1:Int)+(1+10*(F:Int))>sz;omega)),GD _ _ (NI F 0)]
 have kf:(⟨a,4,1,1+10*(F:Int),0,true⟩::LH a 0 F:List aW).length=F+1:=by rw[BG,QW]
 have k1:=zI w (yU w [] [(⟨a,4,(([]:List Int).length:Nat),1,0,true⟩:aW)]) (⟨a,4,1,1+10*(F:Int),0,true⟩::LH a 0 F);rw[kf]at k1;obtain⟨pk1,pk2⟩:=Vd (sz:=sz) (a:=a) (w:=w) (N:=N) hN1 hN hs hs0 (c:=c1) I (l:=yU w (yU w [] [(⟨a,4,(([]:List Int).length:Nat),1,0,true⟩:aW)]) (⟨a,4,1,1+10*(F:Int),0,true⟩::LH a 0 F)) (by simp only[yX];simp only[yX]at k1;omega);by_cases s3:¬(c1.length+2+N:Int)<=sz
 ·rw[pk2 s3,dr,cu eC];refine⟨λh=>by exfalso;omega,λ_ => ?_⟩;rw[ME,uq,q8,aP ⟨rfl,by show 2+10*(F:Int)+(2+(N:Int))>sz;omega⟩,Bt];rw[BC];exact⟨_,c1,rfl⟩
 have s3:=Decidable.not_not.1 s3;rw[pk1 s3,dr,aP rfl,hp,BC,BC];have WH:(c1++List.replicate (2+N) 0).length=4+10*F+N:=by rw[j6,n7];omega
 have kl:∀X:List aW,X.length<=100000->(yU w [] X).length<=100000:=λX hX=>Fu (zI w [] X) (by simpa using hX);obtain⟨d1,d2⟩:=acS (K:=K) hl hs hs0 hN (B:=4+10*F+N) I hW (O:=O) (iZ:=((([]:List Int).length:Nat):Int)) (rF:=⟨1,F⟩) (r32:=⟨(c1.length:Nat),N⟩) (a:=a) (w:=w) N K 0 (c1++List.replicate (2+N) 0)
  (yU w [] ([(⟨a,4,(([]:List Int).length:Nat),1,0,true⟩:aW)]++(⟨a,4,1,1+10*(F:Int),0,true⟩::LH a 0 F++[⟨a,4,(c1.length:Nat),2+(N:Int),0,true⟩]))) [] I I (by rw[WH];omega) rfl (by
   have:=kl ([(⟨a,4,(([]:List Int).length:Nat),1,0,true⟩:aW)]++(⟨a,4,1,1+10*(F:Int),0,true⟩::LH a 0 F++[⟨a,4,(c1.length:Nat),2+(N:Int),0,true⟩])) (by rw[j6,j6,kf];simp;omega);omega)
 rw[WH]at d1 d2;rw[pL]at d1 d2;have hc3:q8 sz (u5 a N F mb.dY)=⟨a,4,0,1,0,true⟩::⟨a,4,1,1+10*(F:Int),0,true⟩::(LH a 0 F++(⟨a,4,2+10*(F:Int),2+(N:Int),0,true⟩::q8 sz (HB a mb.dY (4+10*F+N:Nat) N++[⟨a,3,1,1,1,true⟩]))):=by
  rw[ME,uq,q8,cu (λh=>absurd h.2 (by show ¬2+10*(F:Int)+(2+(N:Int))>sz;omega))]
 by_cases s4:¬((4+10*F+N+N*ag1:Nat):Int)<=sz
 ·refine⟨λh=>absurd h s4,λ_ => ?_⟩;obtain⟨X,c',⟨r1,r2⟩ | r1⟩:=d2 s4
  ·rw[r1,WY,BC,hc3,r2];refine⟨X,c',?_⟩
   congr 5
   rw[q2];simp only[uq,AD,q9,yX];rw[show((2+10*F:Nat):Int)=2+10*(F:Int) by omega];rfl
  ·exfalso;omega
 have s4:=Decidable.not_not.1 s4;refine⟨λ_ => ?_,λh=>absurd s4 h⟩;obtain⟨c',r1,r0,r2,r3,r4⟩:=d1 s4;have b0:J c' 1=0:=by
  rw[r3 1 I,tC I,q4 1 I (λf _=>I)]
 have kk:∀X:List aW,X.length<=100000->(yU w [] X).length<=100000:=λX hX=>Fu (zI w [] X) (by simpa using hX);have kd:=QX (a:=a) (first:=mb.dY) N (4+10*F+N:Nat);have ea:∀l:List aW,l.length<=100000->(ei (n3 (⟨1,F⟩:bq)) λr75=>tN (dm (ar sz c' l a w) r75) λOv Wy=>tN (ji Ov) λTv Ky=>some (Tv,Wy))=some (4,ar sz (c'.set 1 1) (yU w l [⟨a,3,1,1,1,true⟩]) a w):=λl hl=>by
  unfold n3 k8 qG;simp only[aP (show(1:Int)>=0 by decide),aP (show(F:Int)>=1 by omega),aP (show(F:Int)<=4096 by omega),aP (show(0:Int)>=0 by decide),tY (show(0:Int)<F by omega),au,if_true,cu (show ¬(0:Int)<0 by decide),cu (show ¬(0:Int)>=8 by decide)];unfold dm jW pR
  dsimp only
  rw[cu eC,aP rfl,au,aat I eC I,dr,aP rfl];rw[show(1:Int).toNat=1 from rfl,b0,show wi ((0:Int)+1)=1 from rfl,aP eC,tY (show(1:Int)<=(F:Int) by omega),au,aP rfl]
  rfl
 have ea2:∀(l:List aW),l.length<=100000->∀(f:Int->af->Option (Int×ag×af)),(ei (n3 (⟨1,F⟩:bq)) λr75=>tN (dm (ar sz c' l a w) r75) λOv Wy=>tN (ji Ov) λTv Ky=>f Tv Wy)=f 4 (ar sz (c'.set 1 1) (yU w l [⟨a,3,1,1,1,true⟩]) a w):=λl hl f=>by
  have h:=ea l hl;cases e1:n3 (⟨1,F⟩:bq)with
  | none=>rw[e1]at h;simp[ei]at h
  | some x =>
   rw[e1,au]at h;rw[au];cases e2:dm (ar sz c' l a w) x with
   | none=>rw[e2]at h;simp[tN]at h
   | some y =>
    obtain⟨y1,y2⟩:=y;rw[e2,eR]at h;rw[eR];cases e3:ji y1 with
    | none=>rw[e3]at h;simp[tN]at h
    | some u =>
     obtain⟨u1,u2⟩:=u;rw[e3,eR]at h;rw[eR];have:=Prod.mk.inj (Option.some.inj h);rw[this.1,this.2]
 have hlen:∀X:List aW,X.length<=100000->(yU w (yU w [] X) (HB a mb.dY (4+10*F+N:Nat) N)).length<=200000:=λX hX=>by
  have:=zI w (yU w [] X) (HB a mb.dY (4+10*F+N:Nat) N);have:=kk X hX;omega
 rw[r1,WX,BC,ea2 _ (kk _ (by rw[j6,j6,j6,kf,kd];simp;omega)) (λTv Wy=>if Tv=4 then some (0,_,Wy)else some (22,_,Wy)),aP rfl];have afi:q8 sz (u5 a N F mb.dY)=u5 a N F mb.dY:=by
  rw[hc3];rw[NH _ _ r0,show q8 sz [(⟨a,3,1,1,1,true⟩:aW)]=[⟨a,3,1,1,1,true⟩] by rw[q8,cu (λh=>absurd h.1 (by show ¬(3:Int)=4;decide)),q8],u5];simp only[uq,AD,q9]
 refine⟨c'.set 1 1,?_,afi,?_⟩
 ·rw[BC,q2];refine nV some (B6 rfl (B6 ?_ ?_))
  ·simp only[AD,yX];rw[show((2+10*F:Nat):Int)=2+10*(F:Int) by omega];rfl
  ·have:(([(⟨a,4,(([]:List Int).length:Nat),1,0,true⟩:aW)]++(⟨a,4,1,1+10*(F:Int),0,true⟩::LH a 0 F++[⟨a,4,((2+10*F:Nat):Int),2+(N:Int),0,true⟩]))++HB a mb.dY (4+10*F+N:Nat) N)++[⟨a,3,1,1,1,true⟩]=u5 a N F mb.dY:=by
    rw[u5,show((2+10*F:Nat):Int)=2+10*(F:Int) by omega];simp only[uq,AD,q9,yX];rfl
   rw[this]
 ·have Fy:(c'.set 1 (1:Int)).length=c'.length:=hU;refine⟨by rw[Fy,r2],?_,?_,λf hf r hr => ?_,λr hr => ?_,λi hi r hr => ?_⟩
  ·rw[CA I,cu eC,r3 0 I,tC I,q4 0 I (λf _=>I)]
  ·rw[CA I,aP rfl]
  ·rw[CA I,ef,r3 _ I,tC I];by_cases e:r=0
   ·subst e;rw[aP rfl];exact q3 f hf
   ·rw[cu e,q4 _ I (λg _=>I)]
  ·rw[CA I,ef,r3 _ I,xl I,EU I]
  ·have:=sH ag1 (show i+1<=N by omega);rw[Gw]at this;rw[CA I,ef];exact r4 i (Et _) hi r hr
end
section
variable {K:Nat}
theorem Bg{α:Type}[Inhabited α]{l:List α}{i:Nat}(h:i<l.length):l.drop i=J l i::l.drop (i+1):=by
 rw[Qc h];unfold J;rw[List.getD_eq_getElem?_getD,List.getElem?_eq_getElem h];rfl
theorem Ve{p:aE}(hv:Valid p):∀(d k i:Nat) (l:List aB),i+d=p.ah.length->d<k->l.length=i->iE K p k l (i:Int)=some (l++p.ah.drop i)
 | d,k,i,l,hd,hk,hl=>by
  obtain⟨k,rfl⟩ :∃m,k=m+1:=⟨k-1,I⟩;have:=hv.n32;rw[iE];by_cases hi:i<p.ah.length
  ·obtain⟨d,rfl⟩ :∃m,d=m+1:=⟨d-1,I⟩;have:=(hv.G3 i hi).IE;rw[p7,aP ⟨I,I⟩,cQ,aP (by simp;omega),p7,AX I,AD,Ve hv d k (i+1) _ I I (by simp[hl]),Bg hi,q9];rfl
  ·rw[ef,zR I,Bt]
def afj:bX:=⟨0,0,0,0,0,0,0,0,0,0,0,0,0,false,0,0⟩
def afk:cz:=⟨0,0,0,0,0,0,0,0,0⟩
def afl:cg:=⟨0,0,0,0,0,0,0,0,0,List.replicate 64 ⟨0,0⟩,⟨0,0,0,0,0,0,0,0,0,0,0,0,0,false,0,0⟩⟩
def Pg(i:Int):bH:=⟨i,9,-1,0,0,0,0,0,afj,afk,afl,false⟩
def zJ(i:Nat):Nat->List bH
 | 0=>[]
 | d+1=>Pg i::zJ (i+1) d
theorem Bh:∀(d i:Nat),(zJ i d).length=d
 | 0,i=>rfl
 | d+1,i=>by rw[zJ,BG,Bh d (i+1)]
theorem Ga:∀(d i j:Nat),j<d->J (zJ i d) j=Pg ((i+j:Nat):Int)
 | d+1,i,0,_=>rfl
 | d+1,i,j+1,h=>by
  have:=Ga d (i+1) j I;rw[show i+1+j=i+(j+1) by omega]at this;exact this
theorem NJ{N:Nat}(hN:N<=64):∀(d k i:Nat) (l:List bH),i+d=N->d<k->l.length=i->iF K (N:Int) k l (i:Int)=some (l++zJ i d)
 | d,k,i,l,hd,hk,hl=>by
  obtain⟨k,rfl⟩ :∃m,k=m+1:=⟨k-1,I⟩;rw[iF];by_cases hi:i<N
  ·obtain⟨d,rfl⟩ :∃m,d=m+1:=⟨d-1,I⟩;rw[p7,p7,AX I,NJ hN d k (i+1) _ I I (by simp[hl]),zJ,q9];rfl
  ·rw[ef];obtain rfl:d=0:=by omega
   rw[zJ,Bt]
def Vf:aY:=⟨0,0,0,0,0,0,List.replicate 16 0⟩
def acT(p:aE)(args:List Int)(N F ag1:Nat)(most:Int):ag:=
 { code:=p.ah,result:=0,dL:=1,cW:=F,fH:=2+10*(F:Int),cT:=N,dK:=WG (4+10*F+N) ag1 most 0 N,
   aK:=(List.replicate F Vf).set 0 ⟨0,0,-1,0,0,1,EE 16 args (List.replicate 16 0)⟩,
   aj:=(zJ 0 N).set 0 {Pg 0 with ay:=0,from_:=-1,aI:=0},value:=0,left:=false}
theorem Ph{α:Type}{l:List α}{i:Nat}{x y:α}:(l.set i x).set i y=l.set i y:=by rw[iX]
theorem aaw{sz a:Int}{w:Bool}{p:aE}{args:List Int}{N F ag1:Nat}{mb:eP}(hv:Valid p)(ha:(args.length:Int)=(J p.ah 0).aS)(hl:Zi mb.cB mb.dY mb.j0)(hF:mb.cB=F)(hN1:1<=N)(hN:N<=64)(hW:(ag1:Int)=4+mb.dY)(hs:sz<=1000000000)(hs0:0<=sz)(hK:5000<K)(hr:nY K p args (N:Int) mb=some 0) :
 (((4+10*F+N+N*ag1:Nat):Int)<=sz->∃c,mF K (ar sz [] [] a w) p args (N:Int) mb=some (some (acT p args N F ag1 mb.j0),0,ar sz c (yU w [] (u5 a N F mb.dY)) a w)/\q8 sz (u5 a N F mb.dY)=u5 a N F mb.dY/\IX N F ag1 mb.dY c)/\
 (¬((4+10*F+N+N*ag1:Nat):Int)<=sz->∃c,mF K (ar sz [] [] a w) p args (N:Int) mb=some (none,22,ar sz c (yU w [] (q8 sz (u5 a N F mb.dY))) a w)):=by
 have f1:=hl.f1;have f2:=hl.f2;have hp8:=(hv.G3 0 (by have:=hv.n1;omega)).p8;have Zj:=Ve (K:=K) hv p.ah.length K 0 [] I (by have:=hv.n32;omega) rfl;rw[pL,AD,og]at Zj;unfold mF;rw[hr,au,aP rfl,aP ⟨I,I⟩,Zj,au];obtain⟨l1,l2⟩:=aav (K:=K) (a:=a) (w:=w) hl hF hN1 hN hW hs hs0 hK (O:=(⟨p.ah,0,0,0,0,0,([]:List cA),List.replicate mb.cB.toNat (⟨0,0,0,0,0,0,List.replicate 16 (0:Int)⟩:aY),([]:List bH),0,false⟩:ag)) rfl;refine⟨λhf => ?_,λhf => ?_⟩
 ·obtain⟨c,e1,e2,e3⟩:=l1 hf;have hFt:mb.cB.toNat=F:=by omega
  have hact:=NJ (K:=K) hN N K 0 [] I I rfl;rw[pL,AD]at hact;refine⟨c,?_,e2,e3⟩;rw[e1,dr,aP rfl]
  dsimp only
  rw[hFt,aP ⟨eC,by rw[n7];omega⟩,aP ⟨eC,by rw[hU,n7];omega⟩,p7,hact,au,aP ⟨eC,by rw[Bh];omega⟩];rw[Ph,Ph,Ph,Ga N 0 0 I]
  rfl
 ·obtain⟨X,c,e1⟩:=l2 hf;rw[e1,dr,cu eC];exact⟨c,rfl⟩
end
end Mo
end
section
namespace Am
def cI{α β:Type}[DecidableEq α](f:α->β)(a:α)(v:β):α->β:=λx=>if x=a then v else f x
@[simp] theorem aU{α β:Type}[DecidableEq α](f:α->β)(a:α)(v:β):cI f a v a=v:=by simp[cI]
theorem aM{α β:Type}[DecidableEq α]{f:α->β}{a x:α}{v:β}(h:x≠a):cI f a v x=f x:=by simp[cI,h]
theorem cS{α β:Type}[DecidableEq α](f:α->β)(a x:α)(v:β):cI f a v x=if x=a then v else f x:=rfl
inductive Ins
 | const (a:Nat) (k:Int) | move (a b:Nat) | arith (op:Int) (a b c:Nat) | jump (a:Nat) | branch (a b:Nat)
 | spawn (s f c:Nat) | sync | load (a s:Nat) | lX (a:Nat) | ret (a:Nat)
deriving DecidableEq,Inhabited
structure kY where
 N:Nat
 F:Nat
 first:Nat
 most:Nat
 QZ:Nat
 len:Nat->Nat
 params:Nat->Nat
 bD:Nat->Nat
 code:Nat->Nat->Ins
 ap:Int->Int->Int->Int
 pd:Int->Nat->Int
inductive vN
 | result | next | join (f:Nat) | mark (f:Nat) | slot (f s:Nat) | ve | Gb | flag (i:Nat)
 | top (i:Nat) | bot (i:Nat) | buf (i:Nat) | cap (i g:Nat) | el (i g n:Nat)
deriving DecidableEq
structure Fr where
 fn:Nat
 J:Nat
 par:Nat
 slot:Nat
 bC:Nat
 lX:Int
 bD:Nat->Int
structure Ev where
 kind:Nat
 ay:Int
 x:Int
 v:Int
structure Acc where
 kind:Nat
 a:vN
 x:Int
 y:Int
 ok:Bool
inductive Pc
 | halted | full | start (x:Int) | run | fork (c:Nat) | ru | out (p c:Nat) | take (p c:Nat)
 | done | tell (j:Nat) | zj (j:Nat)
 | DL (c:Nat) | BE (c:Nat) (b:Int) | uJ (c:Nat) (b t:Int) | uK (c:Nat) (b t:Int)
 | grow (c:Nat) (b t cc:Int) | p9 (c:Nat) (b t cc:Int) | nM (c:Nat) (b t cc n:Int)
 | nU (c:Nat) (b t cc n x:Int) | qP (c:Nat) (b t cc:Int) | nN (c:Nat) (b cc:Int) | ry (c:Nat) (b:Int)
 | IY | vG (j:Nat) | xY (j:Nat)
 | E3 | yE (b:Int) | sQ (b:Int) | Eb (b:Int) | rN (t:Int) | wo (b t:Int)
 | sF (b t cc:Int) | uT (b t x:Int) | tc (t x:Int) (BI:Bool)
 | oB | xq (v:Nat) (t:Int) | sR (v:Nat) (t:Int) | rO (v:Nat) (t:Int) (g:Nat)
 | pG (v:Nat) (t:Int) (g:Nat) (cc:Int) | oK (v:Nat) (t x:Int)
 | Gc | flag | sleep | wZ | GF (j:Nat) | E4 (j:Nat) (t:Int) | parked | back (h:Bool) | xZ (h:Bool)
deriving DecidableEq
inductive Loc
 | free | cr (i:Nat) | Ow (i:Nat) | pop (i:Nat) | held (i:Nat) | uL (i:Nat) | waiting | uU (i:Nat) | fin (i:Nat) | gone
deriving DecidableEq
structure St where
 mem:vN->Int
 pc:Nat->Pc
 hold:Nat->Option Nat
 gu:Nat->Nat
 fr:Nat->Fr
 nf:Nat
 cur:Nat->Nat
 base:Nat->Nat->Int
 size:Int
 val:Option Int
 LI:Bool
 loc:Nat->Loc
 q:Nat->List Nat
 pop:Nat->Option Nat
 bC:Nat->List Nat
structure Out where
 s:St
 ev:Option Ev
 acc:Option Acc
def ix(n c:Int):Nat:=(n%c).toNat
def jF(C:kY)(cc:Int):Int:=if 2*cc<=C.most then 2*cc else C.most
def NK(C:kY)(i:Nat):Nat:=(i+1)%C.N
namespace St
def wr(s:St)(a:vN)(v:Int):St:={s with mem:=cI s.mem a v}
def to(s:St)(i:Nat)(p:Pc):St:={s with pc:=cI s.pc i p}
def holds(s:St)(i:Nat)(f:Option Nat):St:={s with hold:=cI s.hold i f}
def put(s:St)(f:Nat)(l:Loc):St:={s with loc:=cI s.loc f l}
def uV(s:St)(i n:Nat):St:={s with gu:=cI s.gu i n}
def lay(s:St)(f:Nat)(x:Fr):St:={s with fr:=cI s.fr f x}
def sq(s:St)(j:Nat)(l:List Nat):St:={s with q:=cI s.q j l}
def n4(s:St)(i:Nat)(x:Option Nat):St:={s with pop:=cI s.pop i x}
def Hf(s:St)(f:Nat)(l:List Nat):St:={s with bC:=cI s.bC f l}
end St
def rh(a:vN)(v:Int):Option Acc:=some ⟨0,a,v,0,true⟩
def uh(a:vN)(v:Int):Option Acc:=some ⟨1,a,v,0,true⟩
def JX(a:vN)(o n:Int)(ok:Bool):Option Acc:=some ⟨2,a,o,n,ok⟩
def Dk(a:vN)(d v:Int):Option Acc:=some ⟨3,a,d,v,true⟩
def aax(a:vN)(n:Int):Option Acc:=some ⟨4,a,n,0,true⟩
def ev(k:Nat)(f x v:Int):Option Ev:=some ⟨k,f,x,v⟩
def oX(s:St)(C:kY)(i j:Nat)(acc:Option Acc):Out:=
 if j=i then⟨s.to i .halted,ev 10 0 0 0,acc⟩else⟨s.to i (.tell j),none,acc⟩
def looking(s:St)(C:kY)(i j:Nat)(acc:Option Acc):Out:=
 if j=i then⟨s.to i .parked,ev 9 0 0 0,acc⟩else⟨s.to i (.GF j),none,acc⟩
def Hg(s:St)(C:kY)(i:Nat):St:=s.to i (if C.N=1 then .flag else .oB)
def Dl(s:St)(C:kY)(i:Nat)(h:Bool)(acc:Option Acc):Out:=
 if h then⟨s.to i .halted,ev 10 0 0 0,acc⟩else⟨Hg (s.uV i 0) C i,none,acc⟩
def got(s:St)(i:Nat)(x:Int)(v:Int):St:=
 ((s.holds i (some x.toNat)).to i (.start v)).put x.toNat (.held i)
def lq(C:kY)(p:Fr)(f:Nat)(sl g c:Nat):Fr:=
 { fn:=g,J:=0,par:=f,slot:=sl,bC:=0,lX:=C.pd p.lX p.bC,bD:=λr=>if r<C.params g then p.bD (c+r)else 0}
def instr(C:kY)(s:St)(i:Nat):Out:=
 let f:=(s.hold i).getD 0
 let x:=s.fr f
 let y:Fr:={x with J:=x.J+1}
 match C.code x.fn x.J with
 | .const a k=>⟨s.lay f {y with bD:=cI x.bD a k},none,none⟩
 | .move a b=>⟨s.lay f {y with bD:=cI x.bD a (x.bD b)},none,none⟩
 | .arith op a b c=>⟨s.lay f {y with bD:=cI x.bD a (C.ap op (x.bD b) (x.bD c))},none,none⟩
 | .jump a=>⟨s.lay f {y with J:=a},none,none⟩
 | .branch a b=>⟨s.lay f (if x.bD a≠0 then {y with J:=b}else y),none,none⟩
 | .lX a=>⟨s.lay f {y with bD:=cI x.bD a x.lX},none,none⟩
 | .load a sl=>⟨s.lay f {y with bD:=cI x.bD a (s.mem (.slot f sl))},none,rh (.slot f sl) (s.mem (.slot f sl))⟩
 | .spawn sl g c =>
  let n:=s.mem .next+1
  let s:=(s.wr .next n).lay f y
  if (C.F:Int)<=n-1 then⟨{s with LI:=true}.to i .full,ev 11 (-1) 0 0,Dk .next 1 n⟩
  else ⟨{((s.lay f {y with bC:=x.bC+1}).lay s.nf (lq C x f sl g c))with nf:=s.nf+1}.put s.nf (.cr i) |>.to i (.fork s.nf),none,Dk .next 1 n⟩
 | .sync =>
  let n:=s.mem (.join f)-1
  let s:=(s.wr (.join f) n).lay f y
  if 0<n then⟨((s.holds i none).to i .E3).put f .waiting,ev 4 f 0 0,Dk (.join f) (-1) n⟩
  else ⟨(s.to i .ru).put f (.uL i),none,Dk (.join f) (-1) n⟩
 | .ret a =>
  let v:=x.bD a
  let s:=s.lay f y
  if f=0 then⟨{(((s.wr .result v).holds i none).to i .done).put 0 (.fin i)with val:=some v},ev 6 0 (-1) v,uh .result v⟩
  else ⟨(((s.wr (.slot x.par x.slot) v).holds i none).to i (.out x.par f)).put f (.fin i),ev 6 f x.par v,uh (.slot x.par x.slot) v⟩
def aJ(C:kY)(s:St)(i:Nat)(d:Int):Out:=
 let f:=(s.hold i).getD 0
 match s.pc i with
 | .halted | .full=>⟨s,none,none⟩
 | .start x=>let v:=s.mem (.mark f)+1;⟨(s.wr (.mark f) v).to i .run,ev 1 f x v,Dk (.mark f) 1 v⟩
 | .run=>instr C s i
 | .fork c=>let v:=s.mem (.join f)+1;⟨((s.wr (.join f) v).Hf f (c::s.bC f)).to i (.DL c),none,Dk (.join f) 1 v⟩
 | .ru=>⟨((s.wr (.join f) 1).to i .run).put f (.held i),ev 5 f 0 0,uh (.join f) 1⟩
 | .out p c =>
  let n:=s.mem (.join p)-1
  let s:=((s.wr (.join p) n).Hf p ((s.bC p).erase c)).put c .gone
  if n=0 then⟨(s.to i (.take p c)).put p (.uU i),none,Dk (.join p) (-1) n⟩else⟨s.to i .E3,none,Dk (.join p) (-1) n⟩
 | .take p c=>⟨(((s.wr (.join p) 1).holds i (some p)).to i .run).put p (.held i),ev 7 p c 0,uh (.join p) 1⟩
 | .done=>oX (s.wr .Gb 1) C i (NK C i) (uh .Gb 1)
 | .tell j=>if s.mem (.flag j)=1 then⟨(s.wr (.flag j) 0).to i (.zj j),none,JX (.flag j) 1 0 true⟩
  else oX s C i (NK C j) (JX (.flag j) 1 0 false)
 | .zj j=>let v:=s.mem .ve-1;oX (s.wr .ve v) C i (NK C j) (Dk .ve (-1) v)
 | .DL c=>⟨s.to i (.BE c (s.mem (.bot i))),none,rh (.bot i) (s.mem (.bot i))⟩
 | .BE c b=>⟨s.to i (.uJ c b (s.mem (.top i))),none,rh (.top i) (s.mem (.top i))⟩
 | .uJ c b t=>⟨s.to i (.uK c b t),none,rh (.buf i) (s.mem (.buf i))⟩
 | .uK c b t =>
  let cc:=s.mem (.cap i (s.cur i))
  let a:=rh (.cap i (s.cur i)) cc
  if b-t<cc then⟨s.to i (.nN c b cc),none,a⟩
  else if(C.most:Int)<=cc then⟨{s with LI:=true}.to i .full,ev 11 c 1 0,a⟩
  else ⟨s.to i (.grow c b t cc),none,a⟩
 | .grow c b t cc =>
  let g:=s.cur i+1
  ⟨{s with base:=cI s.base i (cI (s.base i) g s.size),size:=s.size+1+jF C cc,
            mem:=λa=>match a with | .cap i' g'=>if i'=i/\g'=g then 0 else s.mem a | .el i' g' _=>if i'=i/\g'=g then 0 else s.mem a | _=>s.mem a}.to i (.p9 c b t cc),
   none,aax (.cap i g) (1+jF C cc)⟩
 | .p9 c b t cc=>⟨(s.wr (.cap i (s.cur i+1)) (jF C cc)).to i (.nM c b t cc t),none,uh (.cap i (s.cur i+1)) (jF C cc)⟩
 | .nM c b t cc n=>let x:=s.mem (.el i (s.cur i) (ix n cc));⟨s.to i (.nU c b t cc n x),none,rh (.el i (s.cur i) (ix n cc)) x⟩
 | .nU c b t cc n x =>
  ⟨(s.wr (.el i (s.cur i+1) (ix n (jF C cc))) x).to i (if n+1<b then .nM c b t cc (n+1)else .qP c b t cc),none,uh (.el i (s.cur i+1) (ix n (jF C cc))) x⟩
 | .qP c b t cc =>
  let a:=s.base i (s.cur i+1)
  ⟨{s.wr (.buf i) a with cur:=cI s.cur i (s.cur i+1)}.to i (.nN c b (jF C cc)),none,uh (.buf i) a⟩
 | .nN c b cc=>⟨(s.wr (.el i (s.cur i) (ix b cc)) c).to i (.ry c b),none,uh (.el i (s.cur i) (ix b cc)) c⟩
 | .ry c b=>⟨(((s.wr (.bot i) (b+1)).sq i (s.q i++[c])).put c (.Ow i)).to i .IY,ev 2 c f (s.fr c).lX,uh (.bot i) (b+1)⟩
 | .IY=>let n:=s.mem .ve;⟨s.to i (if 0<n/\1<C.N then .vG (NK C i)else .run),none,rh .ve n⟩
 | .vG j =>
  if s.mem (.flag j)=1 then⟨(s.wr (.flag j) 0).to i (.xY j),none,JX (.flag j) 1 0 true⟩
  else ⟨s.to i (if NK C j=i then .run else .vG (NK C j)),none,JX (.flag j) 1 0 false⟩
 | .xY j=>let v:=s.mem .ve-1;⟨(s.wr .ve v).to i .run,ev 3 f j 0,Dk .ve (-1) v⟩
 | .E3=>⟨s.to i (.yE (s.mem (.bot i)-1)),none,rh (.bot i) (s.mem (.bot i))⟩
 | .yE b=>⟨s.to i (.sQ b),none,rh (.buf i) (s.mem (.buf i))⟩
 | .sQ b=>⟨(s.wr (.bot i) b).to i (.Eb b),none,uh (.bot i) b⟩
 | .Eb b =>
  let t:=s.mem (.top i)
  let a:=rh (.top i) t
  if t<b then
   let x:=(s.q i).getLastD 0
   ⟨(((s.to i (.wo b t)).sq i (s.q i).dropLast).put x (.pop i)).n4 i (some x),none,a⟩
  else if t=b then⟨s.to i (.wo b t),none,a⟩else⟨s.to i (.rN t),none,a⟩
 | .rN t=>⟨Hg ((s.wr (.bot i) t).uV i 0) C i,none,uh (.bot i) t⟩
 | .wo b t=>let cc:=s.mem (.cap i (s.cur i));⟨s.to i (.sF b t cc),none,rh (.cap i (s.cur i)) cc⟩
 | .sF b t cc =>
  let x:=s.mem (.el i (s.cur i) (ix b cc))
  let a:=rh (.el i (s.cur i) (ix b cc)) x
  if t<b then⟨(got s i x (-1)).n4 i none,none,a⟩else⟨s.to i (.uT b t x),none,a⟩
 | .uT b t x =>
  if s.mem (.top i)=t then⟨((((s.wr (.top i) (t+1)).to i (.tc t x true)).sq i []).put x.toNat (.pop i)).n4 i (some x.toNat),none,JX (.top i) t (t+1) true⟩
  else ⟨s.to i (.tc t x false),none,JX (.top i) t (t+1) false⟩
 | .tc t x BI =>
  let s:=(s.wr (.bot i) (t+1)).uV i 0
  ⟨if BI then(got s i x (-1)).n4 i none else Hg s C i,none,uh (.bot i) (t+1)⟩
 | .oB =>
  let v:=((i+1+(d%((C.N:Int)-1)).toNat)%C.N)
  ⟨s.to i (.xq v (s.mem (.top v))),none,rh (.top v) (s.mem (.top v))⟩
 | .xq v t =>
  let b:=s.mem (.bot v)
  if b<=t then⟨(s.uV i (s.gu i+1)).to i .Gc,none,rh (.bot v) b⟩else⟨s.to i (.sR v t),none,rh (.bot v) b⟩
 | .sR v t=>⟨s.to i (.rO v t (s.cur v)),none,rh (.buf v) (s.mem (.buf v))⟩
 | .rO v t g=>let cc:=s.mem (.cap v g);⟨s.to i (.pG v t g cc),none,rh (.cap v g) cc⟩
 | .pG v t g cc=>let x:=s.mem (.el v g (ix t cc));⟨s.to i (.oK v t x),none,rh (.el v g (ix t cc)) x⟩
 | .oK v t x =>
  if s.mem (.top v)=t then⟨got ((s.wr (.top v) (t+1)).sq v (s.q v).tail) i x v,ev 8 x v 0,JX (.top v) t (t+1) true⟩
  else ⟨(s.uV i (s.gu i+1)).to i .Gc,none,JX (.top v) t (t+1) false⟩
 | .Gc =>
  let d:=s.mem .Gb
  if d=1 then⟨s.to i .halted,ev 10 0 0 0,rh .Gb d⟩
  else ⟨s.to i (if s.gu i<3 then .oB else .flag),none,rh .Gb d⟩
 | .flag=>⟨(s.wr (.flag i) 1).to i .sleep,none,uh (.flag i) 1⟩
 | .sleep=>let v:=s.mem .ve+1;⟨(s.wr .ve v).to i .wZ,none,Dk .ve 1 v⟩
 | .wZ=>let d:=s.mem .Gb;if d=1 then⟨s.to i (.back true),none,rh .Gb d⟩else looking s C i (NK C i) (rh .Gb d)
 | .GF j=>⟨s.to i (.E4 j (s.mem (.top j))),none,rh (.top j) (s.mem (.top j))⟩
 | .E4 j t=>let b:=s.mem (.bot j);if t<b then⟨s.to i (.back false),none,rh (.bot j) b⟩else looking s C i (NK C j) (rh (.bot j) b)
 | .parked=>let v:=s.mem (.flag i);if v=1 then⟨s,none,rh (.flag i) v⟩else⟨Hg (s.uV i 0) C i,none,rh (.flag i) v⟩
 | .back h=>if s.mem (.flag i)=1 then⟨(s.wr (.flag i) 0).to i (.xZ h),none,JX (.flag i) 1 0 true⟩else Dl s C i h (JX (.flag i) 1 0 false)
 | .xZ h=>let v:=s.mem .ve-1;Dl (s.wr .ve v) C i h (Dk .ve (-1) v)
theorem aay{m n c:Int}(hc:0<c)(h:ix m c=ix n c)(h1:m-n<c)(h2:n-m<c):m=n:=by
 have a1:=B7 m (b:=c) I;have a2:=B7 n (b:=c) I;have b1:=Dx m hc;have b2:=Dx n hc;have h':m%c=n%c:=by unfold ix at h;omega
 have e1:=Mu m c;have e2:=Mu n c;have h3:m-n=c*(m/c-n/c):=by rw[Int.mul_sub];omega
 have:m/c-n/c=0:=by
  rcases Int.lt_trichotomy (m/c-n/c) 0 with h | h | h
  ·have:c*(m/c-n/c)<=c*(-1):=Int.mul_le_mul_of_nonneg_left I I;omega
  ·exact h
  ·have:c*1<=c*(m/c-n/c):=Int.mul_le_mul_of_nonneg_left I I;omega
 rw[this]at h3;omega
theorem Vg{m n c:Int}(hc:0<c)(h1:m-n<c)(h2:n-m<c)(h:m≠n):ix m c≠ix n c:=λe=>h (aay hc e h1 h2)
namespace St
abbrev T(s:St)(j:Nat):Int:=s.mem (.top j)
abbrev B(s:St)(j:Nat):Int:=s.mem (.bot j)
abbrev cc(s:St)(j:Nat):Int:=s.mem (.cap j (s.cur j))
abbrev L(s:St)(j:Nat):Int:=((s.q j).length:Int)
end St
def E5(C:kY)(s:St)(j:Nat)(b t cc:Int):Prop:=s.B j=b/\s.T j+s.L j=b/\s.L j<=s.cc j/\t<=s.T j/\cc=s.cc j/\b-t=cc/\cc<C.most
def CB(C:kY)(s:St)(j:Nat)(n:Int):Prop:=
 s.mem (.cap j (s.cur j+1))=jF C (s.cc j)/\∀m,s.T j<=m->m<n->s.mem (.el j (s.cur j+1) (ix m (jF C (s.cc j))))=s.mem (.el j (s.cur j) (ix m (s.cc j)))
def ya(s:St)(j:Nat)(b t:Int):Prop:=
 s.B j=b/\t<=b/\0<=b/\(t<b->s.T j+s.L j=b/\s.L j+1<=s.cc j/\∃x:Nat,s.pop j=some x/\s.mem (.el j (s.cur j) (ix b (s.cc j)))=x)
  /\(t=b->s.T j+s.L j=b+1/\t<=s.T j/\s.L j<=s.cc j)
def rz(C:kY)(s:St)(j:Nat):Prop:=
 match s.pc j with
 | .BE c b=>s.B j=b/\s.T j+s.L j=b/\s.L j<=s.cc j
 | .uJ c b t=>s.B j=b/\s.T j+s.L j=b/\s.L j<=s.cc j/\t<=s.T j/\b-t<=s.cc j
 | .uK c b t=>s.B j=b/\s.T j+s.L j=b/\s.L j<=s.cc j/\t<=s.T j/\b-t<=s.cc j
 | .grow c b t cc=>E5 C s j b t cc
 | .p9 c b t cc=>E5 C s j b t cc
 | .nM c b t cc n=>E5 C s j b t cc/\CB C s j n/\t<=n/\n<b
 | .nU c b t cc n x=>E5 C s j b t cc/\CB C s j n/\t<=n/\n<b/\x=s.mem (.el j (s.cur j) (ix n (s.cc j)))
 | .qP c b t cc=>E5 C s j b t cc/\CB C s j b
 | .nN c b cc=>s.B j=b/\s.T j+s.L j=b/\s.L j+1<=s.cc j/\cc=s.cc j
 | .ry c b=>s.B j=b/\s.T j+s.L j=b/\s.L j+1<=s.cc j/\s.mem (.el j (s.cur j) (ix b (s.cc j)))=c
 | .yE b=>s.B j=b+1/\s.T j+s.L j=b+1/\s.L j<=s.cc j
 | .sQ b=>s.B j=b+1/\s.T j+s.L j=b+1/\s.L j<=s.cc j
 | .Eb b=>s.B j=b/\s.T j+s.L j=b+1/\s.L j<=s.cc j
 | .rN t=>s.T j=t/\s.L j=0/\s.B j=t-1
 | .wo b t=>ya s j b t
 | .sF b t cc=>ya s j b t/\cc=s.cc j
 | .uT b t x=>s.B j=b/\t=b/\s.T j+s.L j=b+1/\t<=s.T j/\(s.T j=t->s.q j=[x.toNat]/\0<=x)/\s.L j<=s.cc j
 | .tc t x BI=>s.B j=t/\s.T j=t+1/\s.L j=0/\(BI=true->s.pop j=some x.toNat/\0<=x)
 | _=>s.B j=s.T j+s.L j/\s.L j<=s.cc j
structure D(C:kY)(s:St)(j:Nat):Prop where
 t0:0<=s.T j
 Bi:∀g,g<=s.cur j->1<=s.mem (.cap j g)
 DM:s.cc j<=C.most
 Gd:s.mem (.buf j)=s.base j (s.cur j)
 els:∀n,n<(s.q j).length->s.mem (.el j (s.cur j) (ix (s.T j+n) (s.cc j)))=(((s.q j).getD n 0:Nat):Int)
 ph:rz C s j
def Th(C:kY)(s:St)(i:Nat):Prop:=
 match s.pc i with
 | .oB=>C.N≠1
 | .Gc=>C.N≠1
 | .xq v t=>v<C.N/\v≠i/\t<=s.T v
 | .sR v t=>v<C.N/\v≠i/\t<=s.T v/\(t=s.T v->s.q v≠[])
 | .rO v t g=>v<C.N/\v≠i/\t<=s.T v/\g<=s.cur v/\(t=s.T v->∃x l,s.q v=x::l/\s.mem (.el v g (ix t (s.mem (.cap v g))))=(x:Nat))
 | .pG v t g cc=>v<C.N/\v≠i/\t<=s.T v/\g<=s.cur v/\cc=s.mem (.cap v g)/\(t=s.T v->∃x l,s.q v=x::l/\s.mem (.el v g (ix t (s.mem (.cap v g))))=(x:Nat))
 | .oK v t x=>v<C.N/\v≠i/\t<=s.T v/\(t=s.T v->∃y l,s.q v=y::l/\x=(y:Nat))
 | _=>True
structure CC(s s':St)(j:Nat):Prop where
 top:s'.mem (.top j)=s.mem (.top j)
 bot:s'.mem (.bot j)=s.mem (.bot j)
 buf:s'.mem (.buf j)=s.mem (.buf j)
 cap:∀g,s'.mem (.cap j g)=s.mem (.cap j g)
 el:∀g n,s'.mem (.el j g n)=s.mem (.el j g n)
 cur:s'.cur j=s.cur j
 base:s'.base j=s.base j
 q:s'.q j=s.q j
 pop:s'.pop j=s.pop j
theorem D.same{C:kY}{s s':St}{j:Nat}(h:D C s j)(e:CC s s' j)(hp:rz C s' j):D C s' j:=by
 obtain⟨h1,h2,h3,h4,h5,h6⟩:=h;obtain⟨e1,e2,e3,e4,e5,e6,e7,e8,e9⟩:=e;refine⟨?_,?_,?_,?_,?_,hp⟩
 ·rw[St.T,e1];exact h1
 ·intro g hg;rw[e4];rw[e6]at hg;exact h2 g hg
 ·rw[St.cc,e6,e4];exact h3
 ·rw[e3,e7,e6];exact h4
 ·intro n hn;simp only[St.T,St.cc,e1,e4,e5,e6,e8];exact h5 n (by rw[e8]at hn;exact hn)
theorem rz.same{C:kY}{s s':St}{j:Nat}(h:rz C s j)(e:CC s s' j)(hp:s'.pc j=s.pc j):rz C s' j:=by
 obtain⟨e1,e2,e3,e4,e5,e6,e7,e8,e9⟩:=e;unfold rz at h⊢;simp only[hp,E5,CB,ya,St.T,St.B,St.L,St.cc,e1,e2,e3,e4,e5,e6,e7,e8,e9]at h⊢;exact h
theorem D.Zk{C:kY}{s s':St}{j:Nat}(h:D C s j)(e:CC s s' j)(hp:s'.pc j=s.pc j):D C s' j:=h.same e (h.ph.same e hp)
structure Calm(s s':St)(v:Nat):Prop where
 top:s.T v<=s'.T v
 cur:s.cur v<=s'.cur v
 cap:∀g,g<=s.cur v->s'.mem (.cap v g)=s.mem (.cap v g)
 q:s.T v=s'.T v->∀x l,s.q v=x::l->(∃l',s'.q v=x::l')/\∀g,g<=s.cur v->s.mem (.el v g (ix (s.T v) (s.mem (.cap v g))))=(x:Nat)->s'.mem (.el v g (ix (s.T v) (s.mem (.cap v g))))=(x:Nat)
theorem Th.calm{C:kY}{s s':St}{i:Nat}(h:Th C s i)(e:∀v,v≠i->Calm s s' v)(hp:s'.pc i=s.pc i):Th C s' i:=by
 unfold Th at h⊢;rw[hp];split
 ·rename_i hh;rw[hh]at h;exact h
 ·rename_i hh;rw[hh]at h;exact h
 ·rename_i v t hh;rw[hh]at h;simp only at h;exact⟨h.1,h.2.1,Int.le_trans h.2.2 (e v h.2.1).top⟩
 ·rename_i v t hh;rw[hh]at h;simp only at h;have E:=e v h.2.1;refine⟨h.1,h.2.1,Int.le_trans h.2.2.1 E.top,λht => ?_⟩;have e1:t=s.T v:=Int.le_antisymm h.2.2.1 (ht▸ E.top);obtain⟨x,l,hq⟩:=List.exists_cons_of_ne_nil (h.2.2.2 e1);obtain⟨⟨l',h'⟩,_⟩:=E.q (e1.symm.trans ht) x l hq;rw[h'];exact List.cons_ne_nil _ _
 ·rename_i v t g hh;rw[hh]at h;simp only at h;have E:=e v h.2.1;obtain⟨h1,h2,h3,h4,h5⟩:=h;refine⟨h1,h2,Int.le_trans h3 E.top,Fu h4 E.cur,λht => ?_⟩;have e1:t=s.T v:=Int.le_antisymm h3 (ht▸ E.top);obtain⟨x,l,hq,hx⟩:=h5 e1;obtain⟨⟨l',h'⟩,h''⟩:=E.q (e1.symm.trans ht) x l hq;refine⟨x,l',h',?_⟩;rw[E.cap g h4,e1];exact h'' g h4 (by rw[<-e1];exact hx)
 ·rename_i v t g cc hh;rw[hh]at h;simp only at h;have E:=e v h.2.1;obtain⟨h1,h2,h3,h4,h0,h5⟩:=h;refine⟨h1,h2,Int.le_trans h3 E.top,Fu h4 E.cur,by rw[E.cap g h4];exact h0,λht => ?_⟩;have e1:t=s.T v:=Int.le_antisymm h3 (ht▸ E.top);obtain⟨x,l,hq,hx⟩:=h5 e1;obtain⟨⟨l',h'⟩,h''⟩:=E.q (e1.symm.trans ht) x l hq;refine⟨x,l',h',?_⟩;rw[E.cap g h4,e1];exact h'' g h4 (by rw[<-e1];exact hx)
 ·rename_i v t x hh;rw[hh]at h;simp only at h;have E:=e v h.2.1;obtain⟨h1,h2,h3,h5⟩:=h;refine⟨h1,h2,Int.le_trans h3 E.top,λht => ?_⟩;have e1:t=s.T v:=Int.le_antisymm h3 (ht▸ E.top);obtain⟨y,l,hq,hx⟩:=h5 e1;obtain⟨⟨l',h'⟩,h''⟩:=E.q (e1.symm.trans ht) y l hq;exact⟨y,l',h',hx⟩
 ·trivial
theorem CC.calm{s s':St}{v:Nat}(e:CC s s' v):Calm s s' v:=by
 obtain⟨e1,e2,e3,e4,e5,e6,e7,e8,e9⟩:=e;exact⟨by simp only[St.T,e1];exact yY _,by rw[e6];exact jU _,λg _=>e4 g,λ_ x l hq=>⟨⟨l,e8▸ hq⟩,λg _ h=>by rw[e5];exact h⟩⟩
def DT(C:kY)(s:St):Prop:=(∀j,j<C.N->D C s j)/\∀i,i<C.N->Th C s i
theorem DT.own{C:kY}{s s':St}{i:Nat}(h:DT C s)(hs:∀j,j≠i->CC s s' j)(hp:∀j,j≠i->s'.pc j=s.pc j)(hd:D C s' i)(hc:Calm s s' i)(ht:Th C s' i):DT C s':=by
 refine⟨λj hj => ?_,λk hk => ?_⟩
 ·by_cases e:j=i
  ·subst e;exact hd
  ·exact(h.1 j hj).Zk (hs j e) (hp j e)
 ·by_cases e:k=i
  ·subst e;exact ht
  ·exact(h.2 k hk).calm (λv hv=>by
    by_cases e':v=i
    ·subst e';exact hc
    ·exact(hs v e').calm) (hp k e)
def vN.own:vN->Option Nat
 | .top i | .bot i | .buf i | .cap i _ | .el i _ _=>some i
 | _=>none
theorem CC.of{s s':St}{j:Nat}(hm:∀a,a.own=some j->s'.mem a=s.mem a)(h1:s'.cur j=s.cur j)(h2:s'.base j=s.base j)(h3:s'.q j=s.q j)(h4:s'.pop j=s.pop j):CC s s' j:=
 ⟨hm _ rfl,hm _ rfl,hm _ rfl,λ_=>hm _ rfl,λ_ _=>hm _ rfl,h1,h2,h3,h4⟩
def Idle:Pc->Prop
 | .BE .. | .uJ .. | .uK .. | .grow .. | .p9 .. | .nM .. | .nU .. | .qP .. | .nN .. | .ry ..
 | .yE .. | .sQ .. | .Eb .. | .rN .. | .wo .. | .sF .. | .uT .. | .tc .. => False
 | _=>True
theorem rz.idle{C:kY}{s:St}{j:Nat}(hi:Idle (s.pc j)):rz C s j↔s.B j=s.T j+s.L j/\s.L j<=s.cc j:=by
 unfold rz;split<;>rename_i hh<;>first | (rw[hh]at hi;exact hi.elim) | exact Iff.rfl
theorem D.idle{C:kY}{s s':St}{j:Nat}(h:D C s j)(e:CC s s' j)(hi:Idle (s.pc j))(hi':Idle (s'.pc j)):D C s' j:=by
 refine h.same e ((rz.idle hi').2 ?_);have:=(rz.idle hi).1 h.ph;obtain⟨e1,e2,e3,e4,e5,e6,e7,e8,e9⟩:=e
 simpa only [St.T,St.B,St.L,St.cc,e1,e2,e4,e6,e8]using this
theorem DT.gV{C:kY}{s s':St}{i:Nat}(h:DT C s)(hi:i<C.N)(hm:∀a,a.own≠none->s'.mem a=s.mem a)(h1:s'.cur=s.cur)(h2:s'.base=s.base)(h3:s'.q=s.q)(h4:s'.pop=s.pop)
 (hp:∀j,j≠i->s'.pc j=s.pc j) (hid:Idle (s.pc i)) (aaz:Idle (s'.pc i)) (ht:Th C s' i):DT C s':=by
 have e:∀j,CC s s' j:=λj=>CC.of (λa ha=>hm a (by rw[ha];exact Option.some_ne_none _)) (by rw[h1]) (by rw[h2]) (by rw[h3]) (by rw[h4]);exact h.own (i:=i) (λj _=>e j) hp ((h.1 i hi).idle (e i) hid aaz) (e i).calm ht
theorem Th.plain{C:kY}{s:St}{i:Nat}(h:match s.pc i with | .oB | .Gc | .xq .. | .sR .. | .rO .. | .pG .. | .oK .. => False | _=>True):Th C s i:=by
 unfold Th;split<;>rename_i hh<;>first | (rw[hh]at h;exact h.elim) | trivial
theorem DT.mine{C:kY}{s s':St}{i:Nat}(h:DT C s)(hi:i<C.N)(hm:∀a,a.own≠some i->s'.mem a=s.mem a)(h1:∀j,j≠i->s'.cur j=s.cur j)(h2:∀j,j≠i->s'.base j=s.base j)(h3:∀j,j≠i->s'.q j=s.q j)(h4:∀j,j≠i->s'.pop j=s.pop j)
 (hp:∀j,j≠i->s'.pc j=s.pc j) (hd:D C s' i) (hc:Calm s s' i) (ht:Th C s' i):DT C s':=
 h.own (i:=i) (λj hj=>CC.of (λa ha=>hm a (by rw[ha];intro e;exact hj (Option.some.inj e))) (h1 j hj) (h2 j hj) (h3 j hj) (h4 j hj)) hp hd hc ht
section
variable {C:kY}{s:St}{i:Nat}
theorem DT.reads{s':St}(h:DT C s)(hi:i<C.N)(hm:s'.mem=s.mem)(h1:s'.cur=s.cur)(h2:s'.base=s.base)(h3:s'.q=s.q)(h4:s'.pop=s.pop)
 (hp:∀j,j≠i->s'.pc j=s.pc j) (hd:rz C s' i) (ht:Th C s' i):DT C s':=by
 have e:∀j,CC s s' j:=λj=>CC.of (λa _=>by rw[hm]) (by rw[h1]) (by rw[h2]) (by rw[h3]) (by rw[h4]);exact h.own (i:=i) (λj _=>e j) hp ((h.1 i hi).same (e i) hd) (e i).calm ht
theorem pY{s:St}{i j:Nat}{p:Pc}(h:j≠i):(s.to i p).pc j=s.pc j:=aM h
theorem kI{s:St}{i:Nat}{p:Pc}:(s.to i p).pc i=p:=aU _ _ _
theorem oc{s:St}{a x:vN}{v:Int}(h:x≠a):(s.wr a v).mem x=s.mem x:=aM h
end
section
variable {C:kY}{s:St}{i:Nat}
theorem Kz{cc:Int}(h:cc<C.most)(h1:1<=cc):cc<jF C cc/\jF C cc<=C.most:=by unfold jF;split<;>omega
theorem So(h:DT C s)(hi:i<C.N){c b t cc d}(hp:s.pc i= .grow c b t cc):DT C (aJ C s i d).s:=by
 have H:=h.1 i hi;have P:=H.ph;unfold rz at P;rw[hp]at P;simp only at P;unfold aJ;rw[hp];simp only;have e1:∀g n,g<=s.cur i->(if True/\g=s.cur i+1 then(0:Int)else n)=n:=λg n hg=>cu I;refine h.mine hi ?_ (λj hj=>rfl) (λj hj=>aM hj) (λj hj=>rfl) (λj hj=>rfl) (λj hj=>pY hj) ⟨H.t0,?_,?_,?_,?_,?_⟩ ⟨yY _,jU _,?_,?_⟩ (Th.plain (by rw[kI];trivial))
 ·intro a ha;simp only[St.to];cases a<;>simp only[vN.own,ne_eq,Option.some.injEq]at ha⊢<;> simp[ha]
 ·intro g hg;simp only[St.to]at hg⊢;rw[e1 g _ hg];exact H.Bi g hg
 ·simp only[St.cc,St.to];rw[e1 _ _ (jU _)];exact H.DM
 ·simp only[St.to,aU];rw[aM I];exact H.Gd
 ·intro n hn;simp only[St.to,St.T,St.cc]at hn⊢;rw[e1 _ _ (jU _),e1 _ _ (jU _)];exact H.els n hn
 ·unfold rz;rw[kI];simp only[E5,St.B,St.T,St.L,St.cc,St.to]at P⊢;rw[e1 _ _ (jU _)];exact P
 ·intro g hg;simp only[St.to];exact e1 g _ hg
 ·intro _ x l hq;refine⟨⟨l,hq⟩,λg hg hx => ?_⟩;simp only[St.to];rw[e1 g _ hg];exact hx
theorem LJ(h:DT C s)(hi:i<C.N){c b t cc d}(hp:s.pc i= .p9 c b t cc):DT C (aJ C s i d).s:=by
 have H:=h.1 i hi;have P:=H.ph;unfold rz at P;rw[hp]at P;simp only at P;unfold aJ;rw[hp];simp only;have e1:∀g,g<=s.cur i->vN.cap i g≠.cap i (s.cur i+1):=λg hg e=>by injection e;omega
 refine h.mine hi (λa ha => ?_) (λj hj=>rfl) (λj hj=>rfl) (λj hj=>rfl) (λj hj=>rfl) (λj hj=>pY hj) ⟨?_,?_,?_,?_,?_,?_⟩ ⟨?_,jU _,?_,?_⟩ (Th.plain (by rw[kI];trivial))
 ·exact oc (λe=>ha (by rw[e];rfl))
 ·simp only[St.T,St.cc,St.to,St.wr,St.put,St.sq];rw[aM rj];exact H.t0
 ·intro g hg;simp only[St.T,St.cc,St.to,St.wr,St.put,St.sq];rw[aM (e1 g hg)];exact H.Bi g hg
 ·simp only[St.T,St.cc,St.to,St.wr,St.put,St.sq];rw[aM (e1 _ (jU _))];exact H.DM
 ·simp only[St.T,St.cc,St.to,St.wr,St.put,St.sq];rw[aM rj];exact H.Gd
 ·intro n hn;simp only[St.T,St.cc,St.to,St.wr,St.put,St.sq]at hn⊢;rw[aM rj,aM rj,aM (e1 _ (jU _))];exact H.els n hn
 ·unfold rz;rw[kI];simp only[E5,CB,St.B,St.T,St.L,St.cc,St.to,St.wr,aU]at P⊢;rw[aM (e1 _ (jU _)),aM rj,aM rj];have:=H.Bi _ (jU (s.cur i));refine⟨P,⟨by rw[P.2.2.2.2.1],λm h1 h2=>I⟩,yY _,I⟩
 ·simp only[St.T,St.cc,St.to,St.wr,St.put,St.sq];rw[aM rj];exact yY _
 ·intro g hg;exact oc (e1 g hg)
 ·intro _ x l hq;refine⟨⟨l,hq⟩,λg hg hx => ?_⟩;simp only[St.T,St.cc,St.to,St.wr,St.put,St.sq];rw[aM rj];exact hx
theorem JY(h:DT C s)(hi:i<C.N){c b t cc n d}(hp:s.pc i= .nM c b t cc n):DT C (aJ C s i d).s:=by
 have H:=h.1 i hi;have P:=H.ph;unfold rz at P;rw[hp]at P;simp only at P;unfold aJ;rw[hp];simp only;refine h.reads hi rfl rfl rfl rfl rfl (λj hj=>pY hj) ?_ (Th.plain (by rw[kI];trivial));unfold rz;rw[kI];simp only;exact⟨P.1,P.2.1,P.2.2.1,P.2.2.2,by rw[P.1.2.2.2.2.1];rfl⟩
theorem IZ(h:DT C s)(hi:i<C.N){c b t cc n x d}(hp:s.pc i= .nU c b t cc n x):DT C (aJ C s i d).s:=by
 have H:=h.1 i hi;have P:=H.ph;unfold rz at P;rw[hp]at P;simp only at P;obtain⟨⟨g1,g2,g3,g4,g5,g6,g7⟩,⟨k1,k2⟩,p3,p4,p5⟩:=P;have c1:=H.Bi _ (jU (s.cur i));obtain⟨b1,b2⟩:=Kz (C:=C) g7 (by rw[g5];exact c1);unfold aJ;rw[hp];simp only;have e1:∀g k,g<=s.cur i->vN.el i g k≠.el i (s.cur i+1) (ix n (jF C cc)):=λg k hg e=>by injection e;omega
 refine h.mine hi (λa ha=>oc (λe=>ha (by rw[e];rfl))) (λj hj=>rfl) (λj hj=>rfl) (λj hj=>rfl) (λj hj=>rfl) (λj hj=>pY hj) ⟨?_,?_,?_,?_,?_,?_⟩ ⟨?_,jU _,?_,?_⟩ (Th.plain (by rw[kI];by_cases hb:n+1<b<;>simp[hb]))
 ·simp only[St.T,St.cc,St.to,St.wr,St.put,St.sq];rw[aM rj];exact H.t0
 ·intro g hg;simp only[St.T,St.cc,St.to,St.wr,St.put,St.sq];rw[aM rj];exact H.Bi g hg
 ·simp only[St.T,St.cc,St.to,St.wr,St.put,St.sq];rw[aM rj];exact H.DM
 ·simp only[St.T,St.cc,St.to,St.wr,St.put,St.sq];rw[aM rj];exact H.Gd
 ·intro n hn;simp only[St.T,St.cc,St.to,St.wr,St.put,St.sq]at hn⊢;rw[aM (e1 _ _ (jU _)),aM rj,aM rj];exact H.els n hn
 ·have hG:E5 C ((s.wr (.el i (s.cur i+1) (ix n (jF C cc))) x).to i (if n+1<b then .nM c b t cc (n+1)else .qP c b t cc)) i b t cc:=by
   simp only[E5,St.B,St.T,St.L,St.cc,St.to,St.wr]at *;rw[aM rj,aM rj,aM rj];exact⟨g1,g2,g3,g4,g5,g6,g7⟩
  have hC:CB C ((s.wr (.el i (s.cur i+1) (ix n (jF C cc))) x).to i (if n+1<b then .nM c b t cc (n+1)else .qP c b t cc)) i (n+1):=by
   simp only[CB,St.T,St.cc,St.to,St.wr]at *;rw[aM rj,aM rj,aM rj];refine⟨k1,λm h1 h2 => ?_⟩;rw[aM (e1 _ _ (jU _)),<-g5];by_cases hm:m=n
   ·subst hm;rw[aU,p5,<-g5]
   ·rw[aM (λe=>Vg (m:=m) (n:=n) (c:=jF C cc) I I I hm (by injection e)),g5];exact k2 m h1 I
  unfold rz;rw[kI];by_cases hb:n+1<b
  ·simp only[aP hb]at hG hC⊢;exact⟨hG,hC,I,hb⟩
  ·simp only[cu hb]at hG hC⊢;exact⟨hG,by rw[show b=n+1 by omega];rw[show b=n+1 by omega]at hC;exact hC⟩
 ·simp only[St.T,St.cc,St.to,St.wr,St.put,St.sq];rw[aM rj];exact yY _
 ·intro g hg;simp only[St.to,St.wr,St.put,St.sq];rw[aM rj]
 ·intro _ x l hq;refine⟨⟨l,hq⟩,λg hg hx => ?_⟩;simp only[St.T,St.cc,St.to,St.wr,St.put,St.sq];rw[aM (e1 _ _ hg)];exact hx
theorem LK(h:DT C s)(hi:i<C.N){c b t cc d}(hp:s.pc i= .qP c b t cc):DT C (aJ C s i d).s:=by
 have H:=h.1 i hi;have P:=H.ph;unfold rz at P;rw[hp]at P;simp only at P;obtain⟨⟨g1,g2,g3,g4,g5,g6,g7⟩,⟨k1,k2⟩⟩:=P;have c1:=H.Bi _ (jU (s.cur i));obtain⟨b1,b2⟩:=Kz (C:=C) g7 (by rw[g5];exact c1);unfold aJ;rw[hp];simp only;rw[g5]at b1 b2;simp only[St.B,St.T,St.L,St.cc]at *;refine h.mine hi (λa ha=>oc (λe=>ha (by rw[e];rfl))) (λj hj=>aM hj) (λj hj=>rfl) (λj hj=>rfl) (λj hj=>rfl) (λj hj=>pY hj) ⟨?_,?_,?_,?_,?_,?_⟩ ⟨?_,?_,?_,?_⟩ (Th.plain (by rw[kI];trivial))
 ·simp only[St.T,St.cc,St.to,St.wr,St.put,St.sq];rw[aM rj];exact H.t0
 ·intro g hg;simp only[St.T,St.cc,St.to,St.wr,St.put,St.sq];rw[aM rj];simp only[St.to,aU]at hg;by_cases e:g=s.cur i+1
  ·rw[e,k1];omega
  ·exact H.Bi g I
 ·simp only[St.cc,St.to,aU];rw[oc rj,k1];exact b2
 ·simp only[St.to,aU];simp only[St.T,St.cc,St.to,St.wr,St.put,St.sq];exact aU _ _ _
 ·intro n hn;simp only[St.T,St.cc,St.to,aU]at hn⊢;rw[oc rj,oc rj,oc rj,k1,k2 _ I (by simp only[St.L,St.wr]at *;omega)];exact H.els n hn
 ·unfold rz;rw[kI];simp only[St.B,St.T,St.L,St.cc,St.to,St.wr,aU]at *;rw[aM rj,aM rj,aM rj,k1,g5];exact⟨g1,g2,I,rfl⟩
 ·simp only[St.T,St.cc,St.to,St.wr,St.put,St.sq];rw[aM rj];exact yY _
 ·simp only[St.to,aU];omega
 ·intro g hg;simp only[St.to,St.wr,St.put,St.sq];rw[aM rj]
 ·intro _ x l hq;refine⟨⟨l,hq⟩,λg hg hx => ?_⟩;simp only[St.T,St.cc,St.to,St.wr,St.put,St.sq];rw[aM rj];exact hx
theorem JZ(h:DT C s)(hi:i<C.N){c b cc d}(hp:s.pc i= .nN c b cc):DT C (aJ C s i d).s:=by
 have H:=h.1 i hi;have P:=H.ph;unfold rz at P;rw[hp]at P;simp only at P;obtain⟨g1,g2,g3,g4⟩:=P;have c1:=H.Bi _ (jU (s.cur i));have E:=H.els;have t0:=H.t0;unfold aJ;rw[hp];simp only;simp only[St.B,St.T,St.L,St.cc]at *;refine h.mine hi (λa ha=>oc (λe=>ha (by rw[e];rfl))) (λj hj=>rfl) (λj hj=>rfl) (λj hj=>rfl) (λj hj=>rfl) (λj hj=>pY hj) ⟨?_,?_,?_,?_,?_,?_⟩ ⟨?_,jU _,?_,?_⟩ (Th.plain (by rw[kI];trivial))
 ·simp only[St.T,St.cc,St.to,St.wr,St.put,St.sq];rw[aM rj];exact H.t0
 ·intro g hg;simp only[St.T,St.cc,St.to,St.wr,St.put,St.sq];rw[aM rj];exact H.Bi g hg
 ·simp only[St.T,St.cc,St.to,St.wr,St.put,St.sq];rw[aM rj];exact H.DM
 ·simp only[St.T,St.cc,St.to,St.wr,St.put,St.sq];rw[aM rj];exact H.Gd
 ·intro n hn;simp only[St.T,St.cc,St.to,St.wr,St.put,St.sq]at hn⊢;rw[aM (a:=vN.el i (s.cur i) (ix b cc)) (x:=vN.top i) rj,aM (x:=vN.cap i (s.cur i)) rj,g4];have hn':n<(s.q i).length:=hn;rw[aM (λe=>Vg (m:=s.mem (.top i)+n) (n:=b) (c:=s.mem (.cap i (s.cur i))) I I I I (by injection e))];exact E n hn
 ·unfold rz;rw[kI];simp only[St.B,St.T,St.L,St.cc,St.to,St.wr,aU]at *;rw[aM rj,aM rj,aM rj,g4,aU];exact⟨g1,g2,I,rfl⟩
 ·simp only[St.T,St.cc,St.to,St.wr,St.put,St.sq];rw[aM rj];exact yY _
 ·intro g hg;simp only[St.to,St.wr,St.put,St.sq];rw[aM rj]
 ·intro ht x l hq;refine⟨⟨l,hq⟩,λg hg hx => ?_⟩;simp only[St.T,St.cc,St.to,St.wr,St.put,St.sq];have hl:1<=(s.q i).length:=by rw[hq];simp
  by_cases eg:g=s.cur i
  ·subst eg;rw[aM (λe=>Vg (m:=s.mem (.top i)) (n:=b) (c:=s.mem (.cap i (s.cur i))) I I I I (by rw[g4]at e;injection e))];exact hx
  ·rw[aM (λe=>eg (by injection e))];exact hx
theorem LL(h:DT C s)(hi:i<C.N){c b d}(hp:s.pc i= .ry c b):DT C (aJ C s i d).s:=by
 have H:=h.1 i hi;have P:=H.ph;unfold rz at P;rw[hp]at P;simp only at P;obtain⟨g1,g2,g3,g4⟩:=P;have E:=H.els;have t0:=H.t0;unfold aJ;rw[hp];simp only;simp only[St.B,St.T,St.L,St.cc]at *;refine h.mine hi (λa ha=>oc (λe=>ha (by rw[e];rfl))) (λj hj=>rfl) (λj hj=>rfl) (λj hj=>aM hj) (λj hj=>rfl) (λj hj=>pY hj) ⟨?_,?_,?_,?_,?_,?_⟩ ⟨?_,jU _,?_,?_⟩ (Th.plain (by rw[kI];trivial))
 ·simp only[St.T,St.cc,St.to,St.wr,St.put,St.sq];rw[aM rj];exact H.t0
 ·intro g hg;simp only[St.T,St.cc,St.to,St.wr,St.put,St.sq];rw[aM rj];exact H.Bi g hg
 ·simp only[St.T,St.cc,St.to,St.wr,St.put,St.sq];rw[aM rj];exact H.DM
 ·simp only[St.T,St.cc,St.to,St.wr,St.put,St.sq];rw[aM rj];exact H.Gd
 ·intro n hn;simp only[St.T,St.cc,St.to,St.put,St.sq,St.wr,aU]at hn⊢;rw[aM rj,aM rj,aM rj];rw[j6,HK]at hn;by_cases e:n<(s.q i).length
  ·rw[List.getD_eq_getElem?_getD,List.getElem?_append_left e,<-List.getD_eq_getElem?_getD];exact E n e
  ·have:n=(s.q i).length:=by omega
   subst this;rw[List.getD_eq_getElem?_getD,List.getElem?_append_right (jU _)];simp only[Nat.sub_self,List.getElem?_cons_zero,pK];rw[g2];exact g4
 ·refine(rz.idle (by rw[kI];trivial)).2 ?_;simp only[St.B,St.T,St.L,St.cc,St.to,St.put,St.sq,St.wr,aU,j6,HK]at *;rw[aM rj,aM rj];constructor<;>omega
 ·simp only[St.T,St.cc,St.to,St.wr,St.put,St.sq];rw[aM rj];exact yY _
 ·intro g hg;simp only[St.to,St.wr,St.put,St.sq];rw[aM rj]
 ·intro ht x l hq;simp only[St.to,St.put,St.sq,aU];refine⟨⟨l++[c],by rw[hq];rfl⟩,λg hg hx => ?_⟩;simp only[St.T,St.cc,St.to,St.wr,St.put,St.sq];rw[aM rj];exact hx
end
section
variable {C:kY}{s:St}{i:Nat}
theorem DT.LM{s':St}(h:DT C s)(hi:i<C.N){v:Int}(hm:s'.mem=cI s.mem (.bot i) v)(h1:s'.cur=s.cur)(h2:s'.base=s.base)(h3:s'.q=s.q)(h4:∀j,j≠i->s'.pop j=s.pop j)
 (hp:∀j,j≠i->s'.pc j=s.pc j) (hd:rz C s' i) (ht:Th C s' i):DT C s':=by
 have H:=h.1 i hi;have e:∀a,a≠.bot i->s'.mem a=s.mem a:=λa ha=>by rw[hm];exact aM ha
 refine h.mine hi (λa ha=>e a (λe=>ha (by rw[e];rfl))) (λj _=>by rw[h1]) (λj _=>by rw[h2]) (λj _=>by rw[h3]) h4 hp ⟨?_,?_,?_,?_,?_,hd⟩ ⟨?_,by rw[h1];exact jU _,?_,?_⟩ ht
 ·simp only[St.T];rw[e _ rj];exact H.t0
 ·intro g hg;rw[e _ rj];rw[h1]at hg;exact H.Bi g hg
 ·simp only[St.cc,h1];rw[e _ rj];exact H.DM
 ·rw[e _ rj,h1,h2];exact H.Gd
 ·intro n hn;simp only[St.T,St.cc,h1,h3]at hn⊢;rw[e _ rj,e _ rj,e _ rj];exact H.els n hn
 ·simp only[St.T];rw[e _ rj];exact yY _
 ·intro g hg;rw[e _ rj]
 ·intro _ x l hq;refine⟨⟨l,by rw[h3];exact hq⟩,λg hg hx => ?_⟩;rw[e _ rj];exact hx
theorem Pj:∀(l:List Nat) (n:Nat),n+1=l.length->l.getD n 0=l.getLastD 0
 | [],n,h=>by simp at h
 | a::l,n,h=>by
  simp only[BG]at h;have:n=l.length:=by omega
  subst this;rw[List.getLastD_cons,List.getD_eq_getElem?_getD,List.getElem?_eq_getElem (by simp),pK,Mv,List.getLast?_eq_getElem?];cases l with
  | nil=>rfl
  | cons b l=>simp
theorem J0(l:List Nat)(n:Nat)(h:n+1<l.length):l.dropLast.getD n 0=l.getD n 0:=by
 simp only[List.getD_eq_getElem?_getD];rw[List.getElem?_dropLast,p7]
theorem Sp(h:DT C s)(hi:i<C.N){b d}(hp:s.pc i= .Eb b):DT C (aJ C s i d).s:=by
 have H:=h.1 i hi;have P:=H.ph;unfold rz at P;rw[hp]at P;simp only at P;obtain⟨g1,g2,g3⟩:=P;have E:=H.els;have t0:=H.t0;unfold aJ;rw[hp];simp only;simp only[St.B,St.T,St.L,St.cc]at *;split
 ·rename_i hb;have hl:((s.q i).length-1)+1=(s.q i).length:=by omega
  have hdl:(s.q i).dropLast.length=(s.q i).length-1:=by simp
  refine h.mine hi (λa ha=>rfl) (λj hj=>rfl) (λj hj=>rfl) (λj hj=>aM hj) (λj hj=>aM hj) (λj hj=>pY hj) ⟨H.t0,H.Bi,H.DM,H.Gd,?_,?_⟩ ⟨yY _,jU _,λ_ _=>rfl,?_⟩ (Th.plain (by simp[St.n4,St.put,St.sq,St.to]))
  ·intro n hn;simp only[St.T,St.cc,St.to,St.put,St.sq,St.n4,aU]at hn⊢;rw[hdl]at hn;rw[J0 _ _ I];exact E n I
  ·unfold rz;simp only[St.n4,St.put,St.sq,St.to,aU,ya,St.B,St.T,St.L,St.cc,hdl];refine⟨g1,I,I,λ_=>⟨I,I,_,rfl,?_⟩,λe=>I⟩;rw[<-Pj _ _ hl,<-E _ I];rw[show s.mem (.top i)+(((s.q i).length-1:Nat):Int)=b by omega]
  ·intro _ x l hq;simp only[St.n4,St.put,St.sq,St.to,aU];refine⟨?_,λg hg hx=>hx⟩;rw[hq]at hl g2⊢;cases l with
   | nil=>simp at g2;omega
   | cons y l=>exact⟨_,rfl⟩
 ·split
  ·rename_i hn ht;refine h.reads hi rfl rfl rfl rfl rfl (λj hj=>pY hj) ?_ (Th.plain (by rw[kI];trivial));unfold rz;simp only[St.to,aU,ya,St.B,St.T,St.L,St.cc];exact⟨g1,I,I,λe=>I,λ_=>⟨g2,I,g3⟩⟩
  ·rename_i hn ht;refine h.reads hi rfl rfl rfl rfl rfl (λj hj=>pY hj) ?_ (Th.plain (by rw[kI];trivial));unfold rz;simp only[St.to,aU,St.B,St.T,St.L,St.cc];exact⟨trivial,I,I⟩
theorem J1(h:DT C s)(hi:i<C.N){b d}(hp:s.pc i= .sQ b):DT C (aJ C s i d).s:=by
 have H:=h.1 i hi;have P:=H.ph;unfold rz at P;rw[hp]at P;simp only at P;obtain⟨g1,g2,g3⟩:=P;unfold aJ;rw[hp];simp only;refine h.LM hi rfl rfl rfl rfl (λ_ _=>rfl) (λj hj=>pY hj) ?_ (Th.plain (by rw[kI];trivial));unfold rz;simp only[St.to,St.wr,aU,St.B,St.T,St.L,St.cc]at *;rw[aM rj,aM rj];exact⟨trivial,g2,g3⟩
theorem Q1{s:St}:(Hg s C i).pc i=if C.N=1 then .flag else .oB:=aU _ _ _
theorem Ge{s:St}:Idle ((Hg s C i).pc i):=by rw[Q1];split<;>trivial
theorem LN{s:St}:Th C (Hg s C i) i:=by
 unfold Th;rw[Q1];by_cases h:C.N=1
 ·rw[aP h];trivial
 ·rw[cu h];exact h
theorem J2(h:DT C s)(hi:i<C.N){t d}(hp:s.pc i= .rN t):DT C (aJ C s i d).s:=by
 have H:=h.1 i hi;have P:=H.ph;unfold rz at P;rw[hp]at P;simp only at P;obtain⟨g1,g2,g3⟩:=P;have c1:=H.Bi _ (jU (s.cur i));unfold aJ;rw[hp];simp only;refine h.LM hi rfl rfl rfl rfl (λ_ _=>rfl) (λj hj=>aM hj) ((rz.idle Ge).2 ?_) LN;simp only[Hg,St.to,St.wr,St.uV,aU,St.B,St.T,St.L,St.cc]at *;rw[aM rj,aM rj];exact⟨I,I⟩
theorem LP(h:DT C s)(hi:i<C.N){b t cc d}(hp:s.pc i= .sF b t cc):DT C (aJ C s i d).s:=by
 have H:=h.1 i hi;have P:=H.ph;unfold rz at P;rw[hp]at P;simp only[ya]at P;obtain⟨⟨g1,g2,g3,g4,g5⟩,g6⟩:=P;unfold aJ;rw[hp];simp only;have E:=H.els;split
 ·rename_i hb;obtain⟨k1,k2,k3⟩:=g4 hb;refine h.mine hi (λa ha=>rfl) (λj hj=>rfl) (λj hj=>rfl) (λj hj=>rfl) (λj hj=>aM hj) (λj hj=>aM hj) ⟨H.t0,H.Bi,H.DM,H.Gd,E,?_⟩ ⟨yY _,jU _,λ_ _=>rfl,?_⟩ (Th.plain (by simp[got,St.n4,St.put,St.holds,St.to]))
  ·refine(rz.idle (by simp[got,St.n4,St.put,St.holds,St.to,Idle])).2 ?_;simp only[got,St.n4,St.put,St.holds,St.to,St.B,St.T,St.L,St.cc]at *;exact⟨I,I⟩
  ·intro _ x l hq;exact⟨⟨l,hq⟩,λg hg hx=>hx⟩
 ·rename_i hb;have e:t=b:=by omega
  obtain⟨k1,k2,k3⟩:=g5 e;refine h.reads hi rfl rfl rfl rfl rfl (λj hj=>pY hj) ?_ (Th.plain (by rw[kI];trivial));unfold rz;simp only[St.to,aU,St.B,St.T,St.L,St.cc]at *;refine⟨g1,e,k1,k2,λht => ?_,k3⟩;have hl:(s.q i).length=1:=by omega
  obtain⟨x,hx⟩:=List.length_eq_one_iff.1 hl;have:=E 0 I;rw[hx]at this;simp only[List.getD_cons_zero]at this;rw[show s.mem (.top i)+((0:Nat):Int)=b by omega,<-g6]at this;rw[this,hx];exact⟨rfl,I⟩
theorem NL(h:DT C s)(hi:i<C.N){b t x d}(hp:s.pc i= .uT b t x):DT C (aJ C s i d).s:=by
 have H:=h.1 i hi;have P:=H.ph;unfold rz at P;rw[hp]at P;simp only at P;obtain⟨g1,g2,g3,g4,g5,g6⟩:=P;have t0:=H.t0;have c1:=H.Bi _ (jU (s.cur i));unfold aJ;rw[hp];simp only;simp only[St.B,St.T,St.L,St.cc]at *;split
 ·rename_i ht;obtain⟨k1,k2⟩:=g5 ht;refine h.mine hi (λa ha=>oc (λe=>ha (by rw[e];rfl))) (λj hj=>rfl) (λj hj=>rfl) (λj hj=>aM hj) (λj hj=>aM hj) (λj hj=>aM hj) ⟨?_,?_,?_,?_,?_,?_⟩ ⟨?_,jU _,?_,?_⟩ (Th.plain (by simp[St.n4,St.put,St.sq,St.to]))
  ·simp only[St.T,St.n4,St.put,St.sq,St.to,St.wr,aU];omega
  ·intro g hg;simp only[St.n4,St.put,St.sq,St.to,St.wr];rw[aM rj];exact H.Bi g hg
  ·simp only[St.cc,St.n4,St.put,St.sq,St.to,St.wr];rw[aM rj];exact H.DM
  ·simp only[St.n4,St.put,St.sq,St.to,St.wr];rw[aM rj];exact H.Gd
  ·intro n hn;simp[St.n4,St.put,St.sq,St.to]at hn
  ·unfold rz;simp only[St.n4,St.put,St.sq,St.to,aU,St.B,St.T,St.L,St.cc,St.wr];rw[aM rj];exact⟨I,trivial,by simp,λ_=>⟨trivial,k2⟩⟩
  ·simp only[St.T,St.n4,St.put,St.sq,St.to,St.wr,aU];omega
  ·intro g hg;simp only[St.n4,St.put,St.sq,St.to,St.wr];rw[aM rj]
  ·intro ht' ;simp only[St.T,St.n4,St.put,St.sq,St.to,St.wr,aU]at ht';omega
 ·rename_i ht;refine h.reads hi rfl rfl rfl rfl rfl (λj hj=>pY hj) ?_ (Th.plain (by rw[kI];trivial));unfold rz;simp only[St.to,aU,St.B,St.T,St.L,St.cc]at *;exact⟨I,I,I,λe=>Bool.noConfusion e⟩
theorem NM(h:DT C s)(hi:i<C.N){t x BI d}(hp:s.pc i= .tc t x BI):DT C (aJ C s i d).s:=by
 have H:=h.1 i hi;have P:=H.ph;unfold rz at P;rw[hp]at P;simp only at P;obtain⟨g1,g2,g3,g4⟩:=P;have c1:=H.Bi _ (jU (s.cur i));unfold aJ;rw[hp];simp only;cases BI
 ·refine h.LM hi rfl rfl rfl rfl (λ_ _=>rfl) (λj hj=>aM hj) ((rz.idle Ge).2 ?_) LN;simp only[Hg,St.to,St.wr,St.uV,aU,St.B,St.T,St.L,St.cc,Kc,if_false]at *;rw[aM rj,aM rj];exact⟨I,I⟩
 ·refine h.LM hi rfl rfl rfl rfl (λj hj=>aM hj) (λj hj=>aM hj) ((rz.idle (by simp[got,St.n4,St.put,St.holds,St.to,Idle])).2 ?_) (Th.plain (by simp[got,St.n4,St.put,St.holds,St.to]));simp only[got,St.to,St.wr,St.uV,St.n4,St.put,St.holds,aU,St.B,St.T,St.L,St.cc,if_true]at *;rw[aM rj,aM rj];exact⟨I,I⟩
theorem D.aaA{s':St}{v:Nat}{x:Nat}{l:List Nat}(H:D C s v)(hq:s.q v=x::l)(hm:s'.mem=cI s.mem (.top v) (s.T v+1))(h1:s'.cur=s.cur)(h2:s'.base=s.base)(h3:s'.q v=l)(h4:s'.pop v=s.pop v)(hp:s'.pc v=s.pc v):D C s' v:=by
 have e:∀a,a≠.top v->s'.mem a=s.mem a:=λa ha=>by rw[hm];exact aM ha
 have et:s'.mem (.top v)=s.mem (.top v)+1:=by rw[hm];exact aU _ _ _
 have E:=H.els;have t0:=H.t0;have eb:=e (.bot v) rj;have ec:=λg=>e (.cap v g) rj;have ee:=λg n=>e (.el v g n) rj;have hl:(s.q v).length=l.length+1:=by rw[hq];rfl
 have P:=H.ph;refine⟨?_,?_,?_,?_,?_,?_⟩
 ·simp only[St.T]at *;rw[et];omega
 ·intro g hg;rw[ec];rw[h1]at hg;exact H.Bi g hg
 ·simp only[St.cc,h1];rw[ec];exact H.DM
 ·rw[e _ rj,h1,h2];exact H.Gd
 ·intro n hn;rw[h3]at hn;simp only[St.T,St.cc,h1,h3]at *;rw[ee,ec,et];have:=E (n+1) I;rw[hq]at this;simp only[List.getD_cons_succ]at this;rw[<-this,show s.mem (.top v)+1+(n:Int)=s.mem (.top v)+((n+1:Nat):Int) by omega]
 ·unfold rz at P⊢;rw[hp];simp only[E5,CB,ya,St.B,St.T,St.L,St.cc,h1,h3,h4,et,eb,ec,ee]at P⊢;rw[hl]at P;split<;>rename_i hh<;>simp only[hh]at P<;>try omega
  ·refine⟨I,⟨P.2.1.1,λm a b=>P.2.1.2 m I b⟩,I⟩
  ·refine⟨I,⟨P.2.1.1,λm a b=>P.2.1.2 m I b⟩,P.2.2.1,P.2.2.2.1,P.2.2.2.2⟩
  ·refine⟨I,⟨P.2.1,λm a b=>P.2.2 m I b⟩⟩
  ·refine⟨P.1,P.2.1,P.2.2.1,λhb => ?_,λhb => ?_⟩
   ·obtain⟨a1,a2,a3⟩:=P.2.2.2.1 hb;exact⟨I,I,a3⟩
   ·obtain⟨a1,a2,a3⟩:=P.2.2.2.2 hb;exact⟨I,I,I⟩
  ·refine⟨⟨P.1.1,P.1.2.1,P.1.2.2.1,λhb => ?_,λhb => ?_⟩,P.2⟩
   ·obtain⟨a1,a2,a3⟩:=P.1.2.2.2.1 hb;exact⟨I,I,a3⟩
   ·obtain⟨a1,a2,a3⟩:=P.1.2.2.2.2 hb;exact⟨I,I,I⟩
end
section
variable {C:kY}{s:St}{i:Nat}
theorem ne1{v:Nat}(hi:i<C.N)(hv:v<C.N)(h:v≠i):C.N≠1:=by omega
theorem J3(h:DT C s)(hi:i<C.N){v t x d}(hp:s.pc i= .oK v t x):DT C (aJ C s i d).s:=by
 have P:=h.2 i hi;unfold Th at P;rw[hp]at P;simp only at P;obtain⟨g1,g2,g3,g4⟩:=P;have Hv:=h.1 v g1;have Hi:=h.1 i hi;unfold aJ;rw[hp];simp only;split
 ·rename_i ht;obtain⟨y,l,hq,hx⟩:=g4 ht.symm;have ep:∀j,j≠i->(got ((s.wr (.top v) (t+1)).sq v (s.q v).tail) i x v).pc j=s.pc j:=λj hj=>aM hj;have em:∀a,a≠.top v->(got ((s.wr (.top v) (t+1)).sq v (s.q v).tail) i x v).mem a=s.mem a:=λa ha=>aM ha;have eS:∀j,j≠v->CC s (got ((s.wr (.top v) (t+1)).sq v (s.q v).tail) i x v) j:=λj hj=>CC.of (λa ha=>em a (λe=>hj (by rw[e]at ha;exact(Option.some.inj ha).symm))) rfl rfl (aM hj) rfl;refine⟨λj hj => ?_,λk hk => ?_⟩
  ·by_cases e:j=v
   ·subst e;exact Hv.aaA hq (by rw[St.T,ht];rfl) rfl rfl (by show(cI s.q j (s.q j).tail) j=l;rw[aU,hq];rfl) rfl (aM g2)
   ·by_cases e':j=i
    ·subst e';have hI:Idle (s.pc j):=by rw[hp];trivial
     refine Hi.idle (s':=got ((s.wr (.top v) (t+1)).sq v (s.q v).tail) j x v) ?_ hI (by simp[got,St.put,St.holds,St.to,Idle])
     ·exact CC.of (λa ha=>em a (λe=>by rw[e]at ha;exact g2 (Option.some.inj ha))) rfl rfl (aM e) rfl
    ·exact(h.1 j hj).Zk (eS j e) (ep j e')
  ·by_cases e:k=i
   ·subst e;exact Th.plain (by simp[got,St.n4,St.put,St.holds,St.to])
   ·refine(h.2 k hk).calm (λj hj => ?_) (ep k e);by_cases e':j=v
    ·subst e';refine⟨?_,jU _,λg hg=>em _ rj,λhT => ?_⟩
     ·show s.mem (.top j)<=cI s.mem (.top j) (t+1) (.top j);rw[aU];omega
     ·have:s.mem (.top j)=cI s.mem (.top j) (t+1) (.top j):=hT;rw[aU]at this;omega
    ·exact(eS j e').calm
 ·refine h.gV hi (λ_ _=>rfl) rfl rfl rfl rfl (λj hj=>pY hj) (by rw[hp];trivial) (by rw[kI];trivial) (by unfold Th;rw[kI];exact ne1 hi g1 g2)
theorem Sq(hi:i<C.N)(hN:C.N≠1)(d:Int):(i+1+(d%((C.N:Int)-1)).toNat)%C.N<C.N/\(i+1+(d%((C.N:Int)-1)).toNat)%C.N≠i:=by
 have h1:=B7 d (b:=(C.N:Int)-1) I;have h2:=Dx d (b:=(C.N:Int)-1) I;generalize hr:(d%((C.N:Int)-1)).toNat=r;have ZX:r<C.N-1:=by omega
 refine⟨Du _ I,?_⟩;by_cases h:i+1+r<C.N
 ·rw[HM h];omega
 ·rw[Nat.mod_eq_sub_mod I,HM I];omega
theorem D.bot_le{j:Nat}(h:D C s j):s.B j<=s.T j+s.L j:=by
 have P:=h.ph;unfold rz at P;split at P<;>simp only[E5,ya,St.B,St.T,St.L,St.cc]at * <;> first
  | omega
  | (rcases Int.lt_or_eq_of_le P.2.1 with e | e
     ·have:=P.2.2.2.1 e;omega
     ·have:=P.2.2.2.2 e;omega)
  | (rcases Int.lt_or_eq_of_le P.1.2.1 with e | e
     ·have:=P.1.2.2.2.1 e;omega
     ·have:=P.1.2.2.2.2 e;omega)
def Far:Pc->Prop
 | .oB | .Gc | .xq .. | .sR .. | .rO .. | .pG .. | .oK .. => False
 | _=>True
theorem DT.qc{s':St}{p:Pc}(h:DT C s)(hi:i<C.N)(hm:∀a,a.own≠none->s'.mem a=s.mem a)(h1:s'.cur=s.cur)(h2:s'.base=s.base)(h3:s'.q=s.q)(h4:s'.pop=s.pop)
 (hp:s'.pc=cI s.pc i p) (hid:Idle (s.pc i)) (aaz:Idle p) (hf:Far p):DT C s':=by
 have e:s'.pc i=p:=by rw[hp];exact aU _ _ _
 refine h.gV hi hm h1 h2 h3 h4 (λj hj=>by rw[hp];exact aM hj) hid (by rw[e];exact aaz) (Th.plain ?_);rw[e];cases p<;>first | exact hf | trivial
theorem DT.Pk{s':St}(h:DT C s)(hi:i<C.N)(hm:∀a,a.own≠none->s'.mem a=s.mem a)(h1:s'.cur=s.cur)(h2:s'.base=s.base)(h3:s'.q=s.q)(h4:s'.pop=s.pop)
 (hp:s'.pc=s.pc) (hid:Idle (s.pc i)):DT C (Hg s' C i):=
 h.gV hi hm h1 h2 h3 h4 (λj hj=>by show cI s'.pc i _ j=s.pc j;rw[aM hj,hp]) hid Ge LN
theorem DT.same{s':St}(h:DT C s)(hi:i<C.N)(hm:∀a,a.own≠none->s'.mem a=s.mem a)(h1:s'.cur=s.cur)(h2:s'.base=s.base)(h3:s'.q=s.q)(h4:s'.pop=s.pop)(hp:s'.pc=s.pc)(hr:s.pc i= .run):DT C s':=
 h.gV hi hm h1 h2 h3 h4 (λj hj=>by rw[hp]) (by rw[hr];trivial) (by rw[hp,hr];trivial) (Th.plain (by rw[hp,hr];trivial))
theorem Pm(h:DT C s)(hi:i<C.N)(hp:s.pc i= .run):DT C (instr C s i).s:=by
 unfold instr;simp only;split
 ·exact h.same hi (λ_ _=>rfl) rfl rfl rfl rfl rfl hp
 ·exact h.same hi (λ_ _=>rfl) rfl rfl rfl rfl rfl hp
 ·exact h.same hi (λ_ _=>rfl) rfl rfl rfl rfl rfl hp
 ·exact h.same hi (λ_ _=>rfl) rfl rfl rfl rfl rfl hp
 ·exact h.same hi (λ_ _=>rfl) rfl rfl rfl rfl rfl hp
 ·exact h.same hi (λ_ _=>rfl) rfl rfl rfl rfl rfl hp
 ·exact h.same hi (λ_ _=>rfl) rfl rfl rfl rfl rfl hp
 ·split
  ·exact DT.qc h hi (by intro a ha;exact oc (by intro e;rw[e]at ha;exact ha rfl)) rfl rfl rfl rfl rfl (by rw[hp];trivial) trivial trivial
  ·exact DT.qc h hi (by intro a ha;exact oc (by intro e;rw[e]at ha;exact ha rfl)) rfl rfl rfl rfl rfl (by rw[hp];trivial) trivial trivial
 ·split
  ·exact DT.qc h hi (by intro a ha;exact oc (by intro e;rw[e]at ha;exact ha rfl)) rfl rfl rfl rfl rfl (by rw[hp];trivial) trivial trivial
  ·exact DT.qc h hi (by intro a ha;exact oc (by intro e;rw[e]at ha;exact ha rfl)) rfl rfl rfl rfl rfl (by rw[hp];trivial) trivial trivial
 ·split
  ·exact DT.qc h hi (by intro a ha;exact oc (by intro e;rw[e]at ha;exact ha rfl)) rfl rfl rfl rfl rfl (by rw[hp];trivial) trivial trivial
  ·exact DT.qc h hi (by intro a ha;exact oc (by intro e;rw[e]at ha;exact ha rfl)) rfl rfl rfl rfl rfl (by rw[hp];trivial) trivial trivial
theorem DT.aJ(h:DT C s)(hi:i<C.N)(d:Int):DT C (aJ C s i d).s:=by
 have H:=h.1 i hi;have HT:=h.2 i hi;have P:=H.ph;cases hp:s.pc i with
 | grow=>exact So h hi hp
 | p9=>exact LJ h hi hp
 | nM=>exact JY h hi hp
 | nU=>exact IZ h hi hp
 | qP=>exact LK h hi hp
 | nN=>exact JZ h hi hp
 | ry=>exact LL h hi hp
 | Eb=>exact Sp h hi hp
 | sQ=>exact J1 h hi hp
 | rN=>exact J2 h hi hp
 | sF=>exact LP h hi hp
 | uT=>exact NL h hi hp
 | tc=>exact NM h hi hp
 | oK=>exact J3 h hi hp
 | halted=>unfold Am.aJ;rw[hp];exact h
 | full=>unfold Am.aJ;rw[hp];exact h
 | DL c =>
  unfold Am.aJ;rw[hp];refine h.reads hi rfl rfl rfl rfl rfl (λj hj=>pY hj) ?_ (Th.plain (by rw[kI];trivial));have:=(rz.idle (by rw[hp];trivial)).1 P;unfold rz;simp only[St.to,aU,St.B,St.T,St.L,St.cc]at *;exact⟨trivial,this.1.symm,this.2⟩
 | BE c b =>
  unfold Am.aJ;rw[hp];refine h.reads hi rfl rfl rfl rfl rfl (λj hj=>pY hj) ?_ (Th.plain (by rw[kI];trivial));unfold rz at P⊢;rw[hp]at P;simp only[St.to,aU,St.B,St.T,St.L,St.cc]at *;exact⟨P.1,P.2.1,P.2.2,yY _,I⟩
 | uJ c b t =>
  unfold Am.aJ;rw[hp];refine h.reads hi rfl rfl rfl rfl rfl (λj hj=>pY hj) ?_ (Th.plain (by rw[kI];trivial));unfold rz at P⊢;rw[hp]at P;simp only[St.to,aU,St.B,St.T,St.L,St.cc]at *;exact P
 | uK c b t =>
  unfold Am.aJ;rw[hp];simp only;unfold rz at P;rw[hp]at P;simp only at P;split
  ·refine h.reads hi rfl rfl rfl rfl rfl (λj hj=>pY hj) ?_ (Th.plain (by rw[kI];trivial));unfold rz;simp only[St.to,aU,St.B,St.T,St.L,St.cc]at *;exact⟨P.1,P.2.1,I,bP⟩
  ·split
   ·refine h.reads hi rfl rfl rfl rfl rfl (λj hj=>pY hj) ?_ (Th.plain (by rw[kI];trivial));refine(rz.idle (by rw[kI];trivial)).2 ?_;simp only[St.to,aU,St.B,St.T,St.L,St.cc]at *;exact⟨I,P.2.2.1⟩
   ·refine h.reads hi rfl rfl rfl rfl rfl (λj hj=>pY hj) ?_ (Th.plain (by rw[kI];trivial));unfold rz;simp only[E5,St.to,aU,St.B,St.T,St.L,St.cc]at *;exact⟨P.1,P.2.1,P.2.2.1,P.2.2.2.1,trivial,I,I⟩
 | E3 =>
  unfold Am.aJ;rw[hp];refine h.reads hi rfl rfl rfl rfl rfl (λj hj=>pY hj) ?_ (Th.plain (by rw[kI];trivial));have:=(rz.idle (by rw[hp];trivial)).1 P;unfold rz;simp only[St.to,aU,St.B,St.T,St.L,St.cc]at *;exact⟨I,I,this.2⟩
 | yE b =>
  unfold Am.aJ;rw[hp];refine h.reads hi rfl rfl rfl rfl rfl (λj hj=>pY hj) ?_ (Th.plain (by rw[kI];trivial));unfold rz at P⊢;rw[hp]at P;simp only[St.to,aU,St.B,St.T,St.L,St.cc]at *;exact P
 | wo b t =>
  unfold Am.aJ;rw[hp];refine h.reads hi rfl rfl rfl rfl rfl (λj hj=>pY hj) ?_ (Th.plain (by rw[kI];trivial));unfold rz at P⊢;rw[hp]at P;simp only[ya,St.to,aU,St.B,St.T,St.L,St.cc]at *;exact⟨P,bP⟩
 | oB =>
  have hN:C.N≠1:=by unfold Th at HT;rw[hp]at HT;exact HT
  unfold Am.aJ;rw[hp];simp only;have hv:=Sq hi hN d;refine h.gV hi (λ_ _=>rfl) rfl rfl rfl rfl (λj hj=>pY hj) (by rw[hp];trivial) (by rw[kI];trivial) ?_;unfold Th;rw[kI];exact⟨hv.1,hv.2,yY _⟩
 | xq v t =>
  unfold Th at HT;rw[hp]at HT;simp only at HT;unfold Am.aJ;rw[hp];simp only;split
  ·refine h.gV hi (λ_ _=>rfl) rfl rfl rfl rfl (λj hj=>pY hj) (by rw[hp];trivial) (by rw[kI];trivial) ?_;unfold Th;rw[kI];exact ne1 hi HT.1 HT.2.1
  ·rename_i hb;refine h.gV hi (λ_ _=>rfl) rfl rfl rfl rfl (λj hj=>pY hj) (by rw[hp];trivial) (by rw[kI];trivial) ?_;unfold Th;rw[kI];refine⟨HT.1,HT.2.1,HT.2.2,λht => ?_⟩;have hB:=(h.1 v HT.1).bot_le;intro hq;have hB:s.B v<=s.T v+s.L v:=hB;have:s.L v=0:=by show((s.q v).length:Int)=0;rw[show s.q v=[]from hq];rfl
   have ht':t=s.T v:=ht;simp only[St.B]at hB;omega
 | sR v t =>
  unfold Th at HT;rw[hp]at HT;simp only at HT;unfold Am.aJ;rw[hp];simp only;refine h.gV hi (λ_ _=>rfl) rfl rfl rfl rfl (λj hj=>pY hj) (by rw[hp];trivial) (by rw[kI];trivial) ?_;unfold Th;rw[kI];refine⟨HT.1,HT.2.1,HT.2.2.1,jU _,λht => ?_⟩;obtain⟨x,l,hq⟩:=List.exists_cons_of_ne_nil (HT.2.2.2 ht);refine⟨x,l,hq,?_⟩;have:=(h.1 v HT.1).els 0 (by rw[hq];simp);rw[hq]at this;have ht':t=s.T v:=ht;simp only[St.T,St.cc,List.getD_cons_zero]at this ht';rw[ht']
  simpa [St.to]using this
 | rO v t g =>
  unfold Th at HT;rw[hp]at HT;simp only at HT;unfold Am.aJ;rw[hp];simp only;refine h.gV hi (λ_ _=>rfl) rfl rfl rfl rfl (λj hj=>pY hj) (by rw[hp];trivial) (by rw[kI];trivial) ?_;unfold Th;rw[kI];exact⟨HT.1,HT.2.1,HT.2.2.1,HT.2.2.2.1,rfl,HT.2.2.2.2⟩
 | pG v t g cc =>
  unfold Th at HT;rw[hp]at HT;simp only at HT;unfold Am.aJ;rw[hp];simp only;refine h.gV hi (λ_ _=>rfl) rfl rfl rfl rfl (λj hj=>pY hj) (by rw[hp];trivial) (by rw[kI];trivial) ?_;unfold Th;rw[kI];refine⟨HT.1,HT.2.1,HT.2.2.1,λht => ?_⟩;obtain⟨x,l,hq,hx⟩:=HT.2.2.2.2.2 ht;exact⟨x,l,hq,by rw[HT.2.2.2.2.1];exact hx⟩
 | Gc =>
  have hN:C.N≠1:=by unfold Th at HT;rw[hp]at HT;exact HT
  unfold Am.aJ;rw[hp];simp only;split
  ·exact h.gV hi (λ_ _=>rfl) rfl rfl rfl rfl (λj hj=>pY hj) (by rw[hp];trivial) (by rw[kI];trivial) (Th.plain (by rw[kI];trivial))
  ·refine h.gV hi (λ_ _=>rfl) rfl rfl rfl rfl (λj hj=>pY hj) (by rw[hp];trivial) (by rw[kI];split<;>trivial) ?_;unfold Th;rw[kI];by_cases h3:s.gu i<3
   ·simp only[aP h3];exact hN
   ·simp only[cu h3]
 | run =>
  unfold Am.aJ;rw[hp];simp only;exact Pm h hi hp
 | tell j =>
  unfold Am.aJ;rw[hp];simp only[oX];split
  ·exact DT.qc h hi (by intro a ha;exact oc (by intro e;rw[e]at ha;exact ha rfl)) rfl rfl rfl rfl rfl (by rw[hp];trivial) trivial trivial
  ·split
   ·exact DT.qc h hi (λ_ _=>rfl) rfl rfl rfl rfl rfl (by rw[hp];trivial) trivial trivial
   ·exact DT.qc h hi (λ_ _=>rfl) rfl rfl rfl rfl rfl (by rw[hp];trivial) trivial trivial
 | zj j =>
  unfold Am.aJ;rw[hp];simp only[oX];split<;>exact DT.qc h hi (by intro a ha;exact oc (by intro e;rw[e]at ha;exact ha rfl)) rfl rfl rfl rfl rfl (by rw[hp];trivial) trivial trivial
 | done =>
  unfold Am.aJ;rw[hp];simp only[oX];split<;>exact DT.qc h hi (by intro a ha;exact oc (by intro e;rw[e]at ha;exact ha rfl)) rfl rfl rfl rfl rfl (by rw[hp];trivial) trivial trivial
 | out p c =>
  unfold Am.aJ;rw[hp];simp only;split<;>exact DT.qc h hi (by intro a ha;exact oc (by intro e;rw[e]at ha;exact ha rfl)) rfl rfl rfl rfl rfl (by rw[hp];trivial) trivial trivial
 | IY =>
  unfold Am.aJ;rw[hp];simp only;refine DT.qc h hi (λ_ _=>rfl) rfl rfl rfl rfl rfl (by rw[hp];trivial) ?_ ?_<;>split<;>trivial
 | vG j =>
  unfold Am.aJ;rw[hp];simp only;split
  ·exact DT.qc h hi (by intro a ha;exact oc (by intro e;rw[e]at ha;exact ha rfl)) rfl rfl rfl rfl rfl (by rw[hp];trivial) trivial trivial
  ·refine DT.qc h hi (λ_ _=>rfl) rfl rfl rfl rfl rfl (by rw[hp];trivial) ?_ ?_<;>split<;>trivial
 | wZ =>
  unfold Am.aJ;rw[hp];simp only[looking];split
  ·exact DT.qc h hi (λ_ _=>rfl) rfl rfl rfl rfl rfl (by rw[hp];trivial) trivial trivial
  ·split<;>exact DT.qc h hi (λ_ _=>rfl) rfl rfl rfl rfl rfl (by rw[hp];trivial) trivial trivial
 | E4 j t =>
  unfold Am.aJ;rw[hp];simp only[looking];split
  ·exact DT.qc h hi (λ_ _=>rfl) rfl rfl rfl rfl rfl (by rw[hp];trivial) trivial trivial
  ·split<;>exact DT.qc h hi (λ_ _=>rfl) rfl rfl rfl rfl rfl (by rw[hp];trivial) trivial trivial
 | parked =>
  unfold Am.aJ;rw[hp];simp only;split
  ·exact h
  ·exact DT.Pk h hi (s':=s.uV i 0) (λ_ _=>rfl) rfl rfl rfl rfl rfl (by rw[hp];trivial)
 | back b =>
  unfold Am.aJ;rw[hp];simp only[Dl];split
  ·exact DT.qc h hi (by intro a ha;exact oc (by intro e;rw[e]at ha;exact ha rfl)) rfl rfl rfl rfl rfl (by rw[hp];trivial) trivial trivial
  ·split
   ·exact DT.qc h hi (λ_ _=>rfl) rfl rfl rfl rfl rfl (by rw[hp];trivial) trivial trivial
   ·exact DT.Pk h hi (s':=s.uV i 0) (λ_ _=>rfl) rfl rfl rfl rfl rfl (by rw[hp];trivial)
 | xZ b =>
  unfold Am.aJ;rw[hp];simp only[Dl];split
  ·exact DT.qc h hi (by intro a ha;exact oc (by intro e;rw[e]at ha;exact ha rfl)) rfl rfl rfl rfl rfl (by rw[hp];trivial) trivial trivial
  ·exact DT.Pk h hi (s':=(s.wr .ve (s.mem .ve-1)).uV i 0) (by intro a ha;exact oc (by intro e;rw[e]at ha;exact ha rfl)) rfl rfl rfl rfl rfl (by rw[hp];trivial)
 | start x=>unfold Am.aJ;rw[hp];exact DT.qc h hi (by intro a ha;exact oc (by intro e;rw[e]at ha;exact ha rfl)) rfl rfl rfl rfl rfl (by rw[hp];trivial) trivial trivial
 | fork c=>unfold Am.aJ;rw[hp];exact DT.qc h hi (by intro a ha;exact oc (by intro e;rw[e]at ha;exact ha rfl)) rfl rfl rfl rfl rfl (by rw[hp];trivial) trivial trivial
 | ru=>unfold Am.aJ;rw[hp];exact DT.qc h hi (by intro a ha;exact oc (by intro e;rw[e]at ha;exact ha rfl)) rfl rfl rfl rfl rfl (by rw[hp];trivial) trivial trivial
 | take p c=>unfold Am.aJ;rw[hp];exact DT.qc h hi (by intro a ha;exact oc (by intro e;rw[e]at ha;exact ha rfl)) rfl rfl rfl rfl rfl (by rw[hp];trivial) trivial trivial
 | xY j=>unfold Am.aJ;rw[hp];exact DT.qc h hi (by intro a ha;exact oc (by intro e;rw[e]at ha;exact ha rfl)) rfl rfl rfl rfl rfl (by rw[hp];trivial) trivial trivial
 | flag=>unfold Am.aJ;rw[hp];exact DT.qc h hi (by intro a ha;exact oc (by intro e;rw[e]at ha;exact ha rfl)) rfl rfl rfl rfl rfl (by rw[hp];trivial) trivial trivial
 | sleep=>unfold Am.aJ;rw[hp];exact DT.qc h hi (by intro a ha;exact oc (by intro e;rw[e]at ha;exact ha rfl)) rfl rfl rfl rfl rfl (by rw[hp];trivial) trivial trivial
 | GF j=>unfold Am.aJ;rw[hp];exact DT.qc h hi (λ_ _=>rfl) rfl rfl rfl rfl rfl (by rw[hp];trivial) trivial trivial
end
inductive Sig | none | full | start | run | fork (c:Nat) | push (c:Nat) | one | out (p c:Nat) | take (p c:Nat)
deriving DecidableEq
def sig:Pc->Sig
 | .start _=>.start
 | .run | .IY | .vG _ | .xY _=>.run
 | .fork c=>.fork c
 | .DL c | .BE c _ | .uJ c _ _ | .uK c _ _ | .grow c _ _ _ | .p9 c _ _ _ | .nM c _ _ _ _
 | .nU c _ _ _ _ _ | .qP c _ _ _ | .nN c _ _ | .ry c _=>.push c
 | .ru=>.one
 | .out p c=>.out p c
 | .take p c=>.take p c
 | .full=>.full
 | _=>.none
structure V where
 g:Nat->Sig
 hold:Nat->Option Nat
 loc:Nat->Loc
 par:Nat->Nat
 nf:Nat
 bC:Nat->List Nat
 q:Nat->List Nat
 pop:Nat->Option Nat
 join:Nat->Int
 mark:Nat->Int
 next:Int
def agZ(l:Loc)(n:Int)(k:List Nat):Prop:=
 match l with
 | .waiting=>n=k.length/\k≠[]
 | .uL _ | .uU _=>n=0/\k=[]
 | _=>n=1+k.length
def early:Loc->Bool
 | .free | .cr _ | .Ow _ | .pop _=>true
 | _=>false
def busy:Sig->Bool
 | .start | .run | .fork _ | .push _ | .one=>true
 | _=>false
def rest:Sig->Bool
 | .none | .out _ _ | .take _ _=>true
 | _=>false
def Pn(N:Nat)(g:Nat->Sig)(c:Nat):Loc->Prop
 | .cr j=>j<N/\g j= .fork c
 | _=>False
structure V.FI(N F:Nat)(v:V):Prop where
 Bj:1<=v.nf
 yj:v.nf<=F
 nx:v.next=v.nf∨(v.nf=F/\(F:Int)<=v.next)
 free:∀f,v.nf<=f->v.loc f= .free
 used:∀f,f<v.nf->v.loc f≠.free
 new:∀f,v.nf<=f->v.bC f=[]/\v.join f=1
 hold:∀i f,i<N->v.hold i=some f->(v.g i= .one/\v.loc f= .uL i)∨(v.g i≠.one/\v.loc f= .held i)
 hs:∀i,i<N->busy (v.g i)=true->v.hold i≠.none
 hr:∀i,i<N->rest (v.g i)=true->v.hold i= .none
 fk:∀i c,i<N->v.g i= .fork c->c≠0/\v.loc c= .cr i/\v.hold i=some (v.par c)/\∀p,c∉v.bC p
 ps:∀i c,i<N->v.g i= .push c->c≠0/\v.loc c= .cr i/\v.hold i=some (v.par c)/\c∈v.bC (v.par c)
 q:∀j x,j<N->x∈v.q j->x≠0/\v.loc x= .Ow j
 qn:∀j,j<N->(v.q j).Nodup
 pop:∀i x,i<N->v.pop i=some x->x≠0/\v.loc x= .pop i
 tk:∀i p c,i<N->v.g i= .take p c->v.loc p= .uU i
 tp:∀i p c,i<N->v.g i= .take p c->c≠0/\c<v.nf/\p=v.par c
 out:∀i p c,i<N->v.g i= .out p c->c≠0/\v.loc c= .fin i/\p=v.par c
 G:∀p,(v.bC p).Nodup
 kd:∀p c,c∈v.bC p->c≠0/\v.par c=p/\v.loc c≠.gone/\v.loc c≠.free
 un:∀c,c≠0->c<v.nf->v.loc c≠.gone->c∈v.bC (v.par c)∨Pn N v.g c (v.loc c)
 pr:∀c,c<v.nf->v.par c<v.nf
 jn:∀f,f<v.nf->agZ (v.loc f) (v.join f) (v.bC f)
 AA:∀f,early (v.loc f)=true->v.mark f=0
 AB:∀i f,i<N->v.g i= .start->v.hold i=some f->v.mark f=0
attribute [grind =] cS
attribute [grind] early busy rest
theorem I0{N g c l}:Pn N g c l=match (l:Loc)with | .cr j=>j<N/\g j= .fork c | _=>False:=by cases l<;>rfl
theorem J_d{l n k}:agZ l n k=match (l:Loc)with | .waiting=>n=k.length/\k≠[] | .uL _ | .uU _=>n=0/\k=[] | _=>n=1+(k.length:Int):=by cases l<;>rfl
attribute [grind =] I0 J_d
namespace V
variable {N F:Nat}{v:V}{i:Nat}
theorem FI.gV(h:v.FI N F)(hi:i<N){p:Sig}(hb:busy p=true)(hg:busy (v.g i)=true)(hp:p= .run∨p= .full)(h1:v.g i≠.one)(hn:∀c,v.g i≠.fork c) :
 FI N F {v with g:=cI v.g i p} where
 Bj:=h.Bj
 yj:=h.yj
 nx:=h.nx
 free:=h.free
 used:=h.used
 new:=h.new
 hold:=by have:=h.hold;grind
 hs:=by have:=h.hs;grind
 hr:=by have:=h.hr;grind
 fk:=by have:=h.fk;grind
 ps:=by have:=h.ps;grind
 q:=h.q
 qn:=h.qn
 pop:=h.pop
 tk:=by have:=h.tk;grind
 out:=by have:=h.out;grind
 tp:=by have:=h.tp;grind
 G:=h.G
 kd:=h.kd
 un:=by have:=h.un;grind
 pr:=h.pr
 jn:=h.jn
 AA:=h.AA
 AB:=by have:=h.AB;grind
theorem FI.full(h:v.FI N F)(hi:i<N)(hg:busy (v.g i)=true)(h1:v.g i≠.one)(hn:∀c,v.g i≠.fork c) :
 FI N F {v with g:=cI v.g i .full} where
 Bj:=h.Bj
 yj:=h.yj
 nx:=h.nx
 free:=h.free
 used:=h.used
 new:=h.new
 hold:=by have:=h.hold;grind
 hs:=by have:=h.hs;grind
 hr:=by have:=h.hr;grind
 fk:=by have:=h.fk;grind
 ps:=by have:=h.ps;grind
 q:=h.q
 qn:=h.qn
 pop:=h.pop
 tk:=by have:=h.tk;grind
 out:=by have:=h.out;grind
 tp:=by have:=h.tp;grind
 G:=h.G
 kd:=h.kd
 un:=by have:=h.un;grind
 pr:=h.pr
 jn:=h.jn
 AA:=h.AA
 AB:=by have:=h.AB;grind
theorem FI.start(h:v.FI N F)(hi:i<N)(hg:v.g i= .start){f:Nat}(hf:v.hold i=some f){m:Int} :
 FI N F {v with g:=cI v.g i .run,mark:=cI v.mark f m} where
 Bj:=h.Bj
 yj:=h.yj
 nx:=h.nx
 free:=h.free
 used:=h.used
 new:=h.new
 hold:=by have:=h.hold;grind
 hs:=by have:=h.hs;grind
 hr:=by have:=h.hr;grind
 fk:=by have:=h.fk;grind
 ps:=by have:=h.ps;grind
 q:=h.q
 qn:=h.qn
 pop:=h.pop
 tk:=by have:=h.tk;grind
 out:=by have:=h.out;grind
 tp:=by have:=h.tp;grind
 G:=h.G
 kd:=h.kd
 un:=by have:=h.un;grind
 pr:=h.pr
 jn:=h.jn
 AA:=by have:=h.AA;have:=h.hold;grind
 AB:=by have:=h.AB;have:=h.hold;grind
theorem FI.spawn(h:v.FI N F)(hi:i<N)(hg:v.g i= .run){f:Nat}(hf:v.hold i=some f)(hn:v.next<F) :
 FI N F {v with g:=cI v.g i (.fork v.nf),next:=v.next+1,nf:=v.nf+1,par:=cI v.par v.nf f,loc:=cI v.loc v.nf (.cr i)} where
 Bj:=by have:=h.Bj;have:=h.free;have:=h.used;grind
 yj:=by have:=h.yj;have:=h.free;have:=h.used;have:=h.nx;grind
 nx:=by have:=h.nx;have:=h.free;have:=h.used;have:=h.yj;grind
 free:=by have:=h.free;have:=h.used;grind
 used:=by have:=h.used;have:=h.free;grind
 new:=by have:=h.new;have:=h.free;have:=h.used;grind
 hold:=by have:=h.hold;have:=h.free;have:=h.used;grind
 hs:=by have:=h.hs;have:=h.free;have:=h.used;grind
 hr:=by have:=h.hr;have:=h.free;have:=h.used;grind
 fk:=by have:=h.fk;have:=h.free;have:=h.used;have:=h.kd;have:=h.new;have:=h.hold;grind
 ps:=by have:=h.ps;have:=h.free;have:=h.used;have:=h.kd;grind
 q:=by have:=h.q;have:=h.free;have:=h.used;grind
 qn:=h.qn
 pop:=by have:=h.pop;have:=h.free;have:=h.used;grind
 tk:=by have:=h.tk;have:=h.free;have:=h.used;grind
 out:=by have:=h.out;have:=h.free;have:=h.used;have:=h.pr;grind
 tp:=by have:=h.tp;have:=h.free;have:=h.used;grind
 G:=h.G
 kd:=by have:=h.kd;have:=h.free;have:=h.used;have:=h.new;grind
 un:=by have:=h.un;have:=h.free;have:=h.used;grind
 pr:=by have:=h.pr;have:=h.free;have:=h.used;have:=h.hold;grind
 jn:=by have:=h.jn;have:=h.free;have:=h.used;have:=h.new;grind
 AA:=by have:=h.AA;have:=h.free;have:=h.used;grind
 AB:=by have:=h.AB;have:=h.free;have:=h.used;grind
theorem FI.CD(h:v.FI N F)(hi:i<N)(hg:v.g i= .run)(hn:(F:Int)<=v.next) :
 FI N F {v with g:=cI v.g i .full,next:=v.next+1} where
 Bj:=h.Bj
 yj:=h.yj
 nx:=by have:=h.nx;have:=h.yj;grind
 free:=h.free
 used:=h.used
 new:=h.new
 hold:=by have:=h.hold;grind
 hs:=by have:=h.hs;grind
 hr:=by have:=h.hr;grind
 fk:=by have:=h.fk;grind
 ps:=by have:=h.ps;grind
 q:=h.q
 qn:=h.qn
 pop:=h.pop
 tk:=by have:=h.tk;grind
 out:=by have:=h.out;grind
 tp:=by have:=h.tp;grind
 G:=h.G
 kd:=h.kd
 un:=by have:=h.un;grind
 pr:=h.pr
 jn:=h.jn
 AA:=h.AA
 AB:=by have:=h.AB;grind
theorem FI.fork(h:v.FI N F)(hi:i<N){c f:Nat}(hg:v.g i= .fork c)(hf:v.hold i=some f) :
 FI N F {v with g:=cI v.g i (.push c),join:=cI v.join f (v.join f+1),bC:=cI v.bC f (c::v.bC f)} where
 Bj:=h.Bj
 yj:=h.yj
 nx:=h.nx
 free:=h.free
 used:=h.used
 new:=by have:=h.new;have:=h.fk;have:=h.hold;have:=h.free;grind
 hold:=by have:=h.hold;have:=h.fk;grind
 hs:=by have:=h.hs;have:=h.fk;have:=h.hold;grind
 hr:=by have:=h.hr;have:=h.fk;have:=h.hold;grind
 fk:=by have:=h.fk;have:=h.hold;grind
 ps:=by have:=h.ps;have:=h.fk;have:=h.hold;grind
 q:=h.q
 qn:=h.qn
 pop:=h.pop
 tk:=by have:=h.tk;have:=h.fk;have:=h.hold;grind
 out:=by have:=h.out;have:=h.fk;have:=h.hold;grind
 tp:=by have:=h.tp;have:=h.fk;have:=h.hold;grind
 G:=by have:=h.G;have:=h.fk;have:=h.hold;grind
 kd:=by have:=h.kd;have:=h.fk;have:=h.hold;grind
 un:=by have:=h.un;have:=h.fk;have:=h.hold;grind
 pr:=h.pr
 jn:=by have:=h.jn;have:=h.fk;have:=h.hold;grind
 AA:=h.AA
 AB:=by have:=h.AB;have:=h.fk;have:=h.hold;grind
theorem FI.push(h:v.FI N F)(hi:i<N){c:Nat}(hg:v.g i= .push c) :
 FI N F {v with g:=cI v.g i .run,q:=cI v.q i (v.q i++[c]),loc:=cI v.loc c (.Ow i)} where
 Bj:=h.Bj
 yj:=h.yj
 nx:=h.nx
 free:=by have:=h.free;have:=h.ps;grind
 used:=by have:=h.used;have:=h.ps;grind
 new:=h.new
 hold:=by have:=h.hold;have:=h.ps;grind
 hs:=by have:=h.hs;have:=h.ps;grind
 hr:=by have:=h.hr;have:=h.ps;grind
 fk:=by have:=h.fk;have:=h.ps;grind
 ps:=by have:=h.ps;grind
 q:=by have:=h.q;have:=h.ps;grind
 qn:=by have:=h.qn;have:=h.ps;have:=h.q;grind
 pop:=by have:=h.pop;have:=h.ps;grind
 tk:=by have:=h.tk;have:=h.ps;grind
 out:=by have:=h.out;have:=h.ps;grind
 tp:=by have:=h.tp;have:=h.ps;grind
 G:=h.G
 kd:=by have:=h.kd;have:=h.ps;grind
 un:=by have:=h.un;have:=h.ps;have:=h.hold;grind
 pr:=h.pr
 jn:=by have:=h.jn;have:=h.ps;grind
 AA:=by have:=h.AA;have:=h.ps;grind
 AB:=by have:=h.AB;have:=h.ps;have:=h.hold;grind
theorem FI.wait(h:v.FI N F)(hi:i<N){f:Nat}(hg:v.g i= .run)(hf:v.hold i=some f)(hk:0<v.join f-1) :
 FI N F {v with g:=cI v.g i .none,hold:=cI v.hold i none,join:=cI v.join f (v.join f-1),loc:=cI v.loc f .waiting} where
 Bj:=h.Bj
 yj:=h.yj
 nx:=h.nx
 free:=by have:=h.free;have:=h.hold;grind
 used:=by have:=h.used;have:=h.hold;grind
 new:=by have:=h.new;have:=h.hold;have:=h.free;grind
 hold:=by have:=h.hold;grind
 hs:=by have:=h.hs;have:=h.hold;grind
 hr:=by have:=h.hr;have:=h.hold;grind
 fk:=by have:=h.fk;have:=h.hold;grind
 ps:=by have:=h.ps;have:=h.hold;grind
 q:=by have:=h.q;have:=h.hold;grind
 qn:=h.qn
 pop:=by have:=h.pop;have:=h.hold;grind
 tk:=by have:=h.tk;have:=h.hold;grind
 out:=by have:=h.out;have:=h.hold;grind
 tp:=by have:=h.tp;have:=h.hold;grind
 G:=h.G
 kd:=by have:=h.kd;have:=h.hold;grind
 un:=by have:=h.un;have:=h.hold;grind
 pr:=h.pr
 jn:=by have:=h.jn;have:=h.hold;grind
 AA:=by have:=h.AA;have:=h.hold;grind
 AB:=by have:=h.AB;have:=h.hold;grind
theorem FI.pass(h:v.FI N F)(hi:i<N){f:Nat}(hg:v.g i= .run)(hf:v.hold i=some f)(hk:¬0<v.join f-1) :
 FI N F {v with g:=cI v.g i .one,join:=cI v.join f (v.join f-1),loc:=cI v.loc f (.uL i)} where
 Bj:=h.Bj
 yj:=h.yj
 nx:=h.nx
 free:=by have:=h.free;have:=h.hold;grind
 used:=by have:=h.used;have:=h.hold;grind
 new:=by have:=h.new;have:=h.hold;have:=h.free;grind
 hold:=by have:=h.hold;grind
 hs:=by have:=h.hs;have:=h.hold;grind
 hr:=by have:=h.hr;have:=h.hold;grind
 fk:=by have:=h.fk;have:=h.hold;grind
 ps:=by have:=h.ps;have:=h.hold;grind
 q:=by have:=h.q;have:=h.hold;grind
 qn:=h.qn
 pop:=by have:=h.pop;have:=h.hold;grind
 tk:=by have:=h.tk;have:=h.hold;grind
 out:=by have:=h.out;have:=h.hold;grind
 tp:=by have:=h.tp;have:=h.hold;grind
 G:=h.G
 kd:=by have:=h.kd;have:=h.hold;grind
 un:=by have:=h.un;have:=h.hold;grind
 pr:=h.pr
 jn:=by have:=h.jn;have:=h.hold;grind [List.length_eq_zero_iff]
 AA:=by have:=h.AA;have:=h.hold;grind
 AB:=by have:=h.AB;have:=h.hold;grind
theorem FI.one(h:v.FI N F)(hi:i<N){f:Nat}(hg:v.g i= .one)(hf:v.hold i=some f) :
 FI N F {v with g:=cI v.g i .run,join:=cI v.join f 1,loc:=cI v.loc f (.held i)} where
 Bj:=h.Bj
 yj:=h.yj
 nx:=h.nx
 free:=by have:=h.free;have:=h.hold;grind
 used:=by have:=h.used;have:=h.hold;grind
 new:=by have:=h.new;have:=h.hold;have:=h.free;grind
 hold:=by have:=h.hold;grind
 hs:=by have:=h.hs;have:=h.hold;grind
 hr:=by have:=h.hr;have:=h.hold;grind
 fk:=by have:=h.fk;have:=h.hold;grind
 ps:=by have:=h.ps;have:=h.hold;grind
 q:=by have:=h.q;have:=h.hold;grind
 qn:=h.qn
 pop:=by have:=h.pop;have:=h.hold;grind
 tk:=by have:=h.tk;have:=h.hold;grind
 out:=by have:=h.out;have:=h.hold;grind
 tp:=by have:=h.tp;have:=h.hold;grind
 G:=h.G
 kd:=by have:=h.kd;have:=h.hold;grind
 un:=by have:=h.un;have:=h.hold;grind
 pr:=h.pr
 jn:=by have:=h.jn;have:=h.hold;grind
 AA:=by have:=h.AA;have:=h.hold;grind
 AB:=by have:=h.AB;have:=h.hold;grind
theorem FI.LQ(h:v.FI N F)(hi:i<N)(hg:v.g i= .run)(hf:v.hold i=some 0) :
 FI N F {v with g:=cI v.g i .none,hold:=cI v.hold i none,loc:=cI v.loc 0 (.fin i)} where
 Bj:=h.Bj
 yj:=h.yj
 nx:=h.nx
 free:=by have:=h.free;have:=h.hold;grind
 used:=by have:=h.used;have:=h.hold;grind
 new:=h.new
 hold:=by have:=h.hold;grind
 hs:=by have:=h.hs;have:=h.hold;grind
 hr:=by have:=h.hr;have:=h.hold;grind
 fk:=by have:=h.fk;have:=h.hold;grind
 ps:=by have:=h.ps;have:=h.hold;grind
 q:=by have:=h.q;have:=h.hold;grind
 qn:=h.qn
 pop:=by have:=h.pop;have:=h.hold;grind
 tk:=by have:=h.tk;have:=h.hold;grind
 out:=by have:=h.out;have:=h.hold;grind
 tp:=by have:=h.tp;have:=h.hold;grind
 G:=h.G
 kd:=by have:=h.kd;have:=h.hold;grind
 un:=by have:=h.un;have:=h.hold;grind
 pr:=h.pr
 jn:=by have:=h.jn;have:=h.hold;grind
 AA:=by have:=h.AA;have:=h.hold;grind
 AB:=by have:=h.AB;have:=h.hold;grind
theorem FI.ret(h:v.FI N F)(hi:i<N)(hg:v.g i= .run){f:Nat}(hf:v.hold i=some f)(h0:f≠0) :
 FI N F {v with g:=cI v.g i (.out (v.par f) f),hold:=cI v.hold i none,loc:=cI v.loc f (.fin i)} where
 Bj:=h.Bj
 yj:=h.yj
 nx:=h.nx
 free:=by have:=h.free;have:=h.hold;grind
 used:=by have:=h.used;have:=h.hold;grind
 new:=h.new
 hold:=by have:=h.hold;grind
 hs:=by have:=h.hs;have:=h.hold;grind
 hr:=by have:=h.hr;have:=h.hold;grind
 fk:=by have:=h.fk;have:=h.hold;grind
 ps:=by have:=h.ps;have:=h.hold;grind
 q:=by have:=h.q;have:=h.hold;grind
 qn:=h.qn
 pop:=by have:=h.pop;have:=h.hold;grind
 tk:=by have:=h.tk;have:=h.hold;grind
 out:=by have:=h.out;have:=h.hold;grind
 tp:=by have:=h.tp;have:=h.hold;grind
 G:=h.G
 kd:=by have:=h.kd;have:=h.hold;grind
 un:=by have:=h.un;have:=h.hold;grind
 pr:=h.pr
 jn:=by have:=h.jn;have:=h.hold;grind
 AA:=by have:=h.AA;have:=h.hold;grind
 AB:=by have:=h.AB;have:=h.hold;grind
theorem FI.hO(h:v.FI N F)(hi:i<N){p c:Nat}(hg:v.g i= .out p c):c∈v.bC p/\c<v.nf/\p<v.nf/\p=v.par c/\v.loc c= .fin i/\c≠0:=by
 have z0:=h.out i p c hi hg;have z1:=h.free c;have z2:=h.un c;have z3:=h.pr c;grind
theorem FI.iV(h:v.FI N F)(hi:i<N){p c:Nat}(hg:v.g i= .out p c)(hn:v.join p-1=0):v.loc p= .waiting/\v.bC p=[c]/\p≠c:=by
 obtain⟨a1,a2,a3,a4,a5,a6⟩:=h.hO hi hg;have z:=h.jn p a3;rw[J_d]at z;have hl:0<(v.bC p).length:=List.length_pos_of_mem a1;split at z
 ·rename_i hw;refine⟨hw,?_,?_⟩
  ·have:(v.bC p).length=1:=by omega
   obtain⟨y,hy⟩:=List.length_eq_one_iff.1 this;rw[hy]at a1⊢;rw[List.mem_singleton.1 a1]
  ·rintro rfl;rw[hw]at a5;cases a5
 ·rw[z.2]at a1;cases a1
 ·rw[z.2]at a1;cases a1
 ·omega
theorem FI.Po(h:v.FI N F)(hi:i<N){p c:Nat}(hg:v.g i= .out p c)(hn:v.join p-1≠0) :
 FI N F {v with g:=cI v.g i .none,join:=cI v.join p (v.join p-1),bC:=cI v.bC p ((v.bC p).erase c),loc:=cI v.loc c .gone} where
 Bj:=h.Bj
 yj:=h.yj
 nx:=h.nx
 free:=by have y1:=h.hO hi hg;have:=h.free;have:=h.out;grind [List.length_erase_of_mem,List.Nodup.mem_erase_iff,List.Nodup.erase,List.length_eq_zero_iff]
 used:=by have y1:=h.hO hi hg;have:=h.used;have:=h.out;grind [List.length_erase_of_mem,List.Nodup.mem_erase_iff,List.Nodup.erase,List.length_eq_zero_iff]
 new:=by have y1:=h.hO hi hg;have:=h.new;have:=h.out;have:=h.free;grind [List.length_erase_of_mem,List.Nodup.mem_erase_iff,List.Nodup.erase,List.length_eq_zero_iff]
 hold:=by have y1:=h.hO hi hg;have:=h.hold;have:=h.out;grind [List.length_erase_of_mem,List.Nodup.mem_erase_iff,List.Nodup.erase,List.length_eq_zero_iff]
 hs:=by have y1:=h.hO hi hg;have:=h.hs;have:=h.out;grind [List.length_erase_of_mem,List.Nodup.mem_erase_iff,List.Nodup.erase,List.length_eq_zero_iff]
 hr:=by have y1:=h.hO hi hg;have:=h.hr;have:=h.out;grind [List.length_erase_of_mem,List.Nodup.mem_erase_iff,List.Nodup.erase,List.length_eq_zero_iff]
 fk:=by have y1:=h.hO hi hg;have:=h.fk;have:=h.out;grind [List.length_erase_of_mem,List.Nodup.mem_erase_iff,List.Nodup.erase,List.length_eq_zero_iff]
 ps:=by have y1:=h.hO hi hg;have:=h.ps;have:=h.out;grind [List.length_erase_of_mem,List.Nodup.mem_erase_iff,List.Nodup.erase,List.length_eq_zero_iff]
 q:=by have y1:=h.hO hi hg;have:=h.q;have:=h.out;grind [List.length_erase_of_mem,List.Nodup.mem_erase_iff,List.Nodup.erase,List.length_eq_zero_iff]
 qn:=h.qn
 pop:=by have y1:=h.hO hi hg;have:=h.pop;have:=h.out;grind [List.length_erase_of_mem,List.Nodup.mem_erase_iff,List.Nodup.erase,List.length_eq_zero_iff]
 tk:=by have y1:=h.hO hi hg;have:=h.tk;have:=h.out;grind [List.length_erase_of_mem,List.Nodup.mem_erase_iff,List.Nodup.erase,List.length_eq_zero_iff]
 out:=by have y1:=h.hO hi hg;have:=h.out;grind [List.length_erase_of_mem,List.Nodup.mem_erase_iff,List.Nodup.erase,List.length_eq_zero_iff]
 tp:=by have y1:=h.hO hi hg;have:=h.tp;have:=h.out;grind [List.length_erase_of_mem,List.Nodup.mem_erase_iff,List.Nodup.erase,List.length_eq_zero_iff]
 G:=by have y1:=h.hO hi hg;have:=h.G;have:=h.out;grind [List.length_erase_of_mem,List.Nodup.mem_erase_iff,List.Nodup.erase,List.length_eq_zero_iff]
 kd:=by have y1:=h.hO hi hg;have:=h.kd;have:=h.out;have:=h.G;grind [List.length_erase_of_mem,List.Nodup.mem_erase_iff,List.Nodup.erase,List.length_eq_zero_iff]
 un:=λx h0 hxn hl=>by
  have hne:x≠c:=by rintro rfl;exact hl (aU _ _ _)
  have hl':cI v.loc c .gone x=v.loc x:=aM hne;show x∈cI v.bC p ((v.bC p).erase c) (v.par x)∨Pn N (cI v.g i .none) x (cI v.loc c .gone x);change cI v.loc c .gone x≠.gone at hl;rw[hl']at hl⊢;rcases h.un x h0 hxn hl with a | a
  ·left;rw[cS];split
   ·next e=>exact(List.mem_erase_of_ne hne).2 (e▸ a)
   ·exact a
  ·right;clear hl';revert a;cases v.loc x<;>grind
 pr:=h.pr
 jn:=by have y1:=h.hO hi hg;have:=h.jn;have:=h.out;have:=h.G;grind [List.length_erase_of_mem,List.Nodup.mem_erase_iff,List.Nodup.erase,List.length_eq_zero_iff]
 AA:=by have y1:=h.hO hi hg;have:=h.AA;have:=h.out;grind [List.length_erase_of_mem,List.Nodup.mem_erase_iff,List.Nodup.erase,List.length_eq_zero_iff]
 AB:=by have y1:=h.hO hi hg;have:=h.AB;have:=h.out;grind [List.length_erase_of_mem,List.Nodup.mem_erase_iff,List.Nodup.erase,List.length_eq_zero_iff]
theorem FI.Pp(h:v.FI N F)(hi:i<N){p c:Nat}(hg:v.g i= .out p c)(hn:v.join p-1=0) :
 FI N F {v with g:=cI v.g i (.take p c),join:=cI v.join p (v.join p-1),bC:=cI v.bC p ((v.bC p).erase c),loc:=cI (cI v.loc c .gone) p (.uU i)} where
 Bj:=h.Bj
 yj:=h.yj
 nx:=h.nx
 free:=by have y1:=h.hO hi hg;have y2:=h.iV hi hg hn;have:=h.free;grind [List.erase_cons_head]
 used:=by have y1:=h.hO hi hg;have y2:=h.iV hi hg hn;have:=h.used;grind [List.erase_cons_head]
 new:=by have y1:=h.hO hi hg;have y2:=h.iV hi hg hn;have:=h.new;have:=h.free;grind [List.erase_cons_head]
 hold:=by have y1:=h.hO hi hg;have y2:=h.iV hi hg hn;have:=h.hold;grind [List.erase_cons_head]
 hs:=by have y1:=h.hO hi hg;have y2:=h.iV hi hg hn;have:=h.hs;grind [List.erase_cons_head]
 hr:=by have y1:=h.hO hi hg;have y2:=h.iV hi hg hn;have:=h.hr;grind [List.erase_cons_head]
 fk:=by have y1:=h.hO hi hg;have y2:=h.iV hi hg hn;have:=h.fk;grind [List.erase_cons_head]
 ps:=by have y1:=h.hO hi hg;have y2:=h.iV hi hg hn;have:=h.ps;grind [List.erase_cons_head]
 q:=by have y1:=h.hO hi hg;have y2:=h.iV hi hg hn;have:=h.q;grind [List.erase_cons_head]
 qn:=h.qn
 pop:=by have y1:=h.hO hi hg;have y2:=h.iV hi hg hn;have:=h.pop;grind [List.erase_cons_head]
 tk:=by have y1:=h.hO hi hg;have y2:=h.iV hi hg hn;have:=h.tk;grind [List.erase_cons_head]
 out:=by have y1:=h.hO hi hg;have y2:=h.iV hi hg hn;have:=h.out;grind [List.erase_cons_head]
 tp:=by have y1:=h.hO hi hg;have y2:=h.iV hi hg hn;have:=h.tp;grind [List.erase_cons_head]
 G:=by have y1:=h.hO hi hg;have y2:=h.iV hi hg hn;have:=h.G;grind [List.erase_cons_head]
 kd:=by have y1:=h.hO hi hg;have y2:=h.iV hi hg hn;have:=h.kd;grind [List.erase_cons_head]
 un:=by have y1:=h.hO hi hg;have y2:=h.iV hi hg hn;have:=h.un;have:=h.kd;grind [List.erase_cons_head]
 pr:=h.pr
 jn:=by have y1:=h.hO hi hg;have y2:=h.iV hi hg hn;have:=h.jn;grind [List.erase_cons_head]
 AA:=by have y1:=h.hO hi hg;have y2:=h.iV hi hg hn;have:=h.AA;grind [List.erase_cons_head]
 AB:=by have y1:=h.hO hi hg;have y2:=h.iV hi hg hn;have:=h.AB;grind [List.erase_cons_head]
theorem FI.take(h:v.FI N F)(hi:i<N){p c:Nat}(hg:v.g i= .take p c) :
 FI N F {v with g:=cI v.g i .run,hold:=cI v.hold i (some p),join:=cI v.join p 1,loc:=cI v.loc p (.held i)} where
 Bj:=h.Bj
 yj:=h.yj
 nx:=h.nx
 free:=by have:=h.free;have:=h.tk;have:=h.hold;grind
 used:=by have:=h.used;have:=h.tk;have:=h.hold;grind
 new:=by have:=h.new;have:=h.tk;have:=h.hold;have:=h.free;grind
 hold:=by have:=h.hold;have:=h.tk;grind
 hs:=by have:=h.hs;have:=h.tk;have:=h.hold;grind
 hr:=by have:=h.hr;have:=h.tk;have:=h.hold;grind
 fk:=by have:=h.fk;have:=h.tk;have:=h.hold;grind
 ps:=by have:=h.ps;have:=h.tk;have:=h.hold;grind
 q:=by have:=h.q;have:=h.tk;have:=h.hold;grind
 qn:=h.qn
 pop:=by have:=h.pop;have:=h.tk;have:=h.hold;grind
 tk:=by have:=h.tk;have:=h.hold;grind
 out:=by have:=h.out;have:=h.tk;have:=h.hold;grind
 tp:=by have:=h.tp;have:=h.tk;have:=h.hold;grind
 G:=h.G
 kd:=by have:=h.kd;have:=h.tk;have:=h.hold;grind
 un:=by have:=h.un;have:=h.tk;have:=h.hold;grind
 pr:=h.pr
 jn:=by have:=h.jn;have:=h.tk;have:=h.hold;grind
 AA:=by have:=h.AA;have:=h.tk;have:=h.hold;grind
 AB:=by have:=h.AB;have:=h.tk;have:=h.hold;grind
theorem FI.n4(h:v.FI N F)(hi:i<N){x:Nat}{l:List Nat}(hg:v.g i= .none)(hq:v.q i=l++[x]) :
 FI N F {v with q:=cI v.q i l,loc:=cI v.loc x (.pop i),pop:=cI v.pop i (some x)} where
 Bj:=h.Bj
 yj:=h.yj
 nx:=h.nx
 free:=by have:=h.free;have:=h.q;grind [List.nodup_append]
 used:=by have:=h.used;have:=h.q;grind [List.nodup_append]
 new:=h.new
 hold:=by have:=h.hold;have:=h.q;grind [List.nodup_append]
 hs:=h.hs
 hr:=h.hr
 fk:=by have:=h.fk;have:=h.q;grind [List.nodup_append]
 ps:=by have:=h.ps;have:=h.q;grind [List.nodup_append]
 q:=by have:=h.q;have:=h.qn;grind [List.nodup_append]
 qn:=by have:=h.qn;have:=h.q;grind [List.nodup_append]
 pop:=by have:=h.pop;have:=h.q;grind [List.nodup_append]
 tk:=by have:=h.tk;have:=h.q;grind [List.nodup_append]
 out:=by have:=h.out;have:=h.q;grind [List.nodup_append]
 tp:=h.tp
 G:=h.G
 kd:=by have:=h.kd;have:=h.q;grind [List.nodup_append]
 un:=by have:=h.un;have:=h.q;grind [List.nodup_append]
 pr:=h.pr
 jn:=by have:=h.jn;have:=h.q;grind [List.nodup_append]
 AA:=by have:=h.AA;have:=h.q;grind [List.nodup_append]
 AB:=h.AB
theorem FI.Pq(h:v.FI N F)(hi:i<N){x:Nat}(hg:v.g i= .none)(hq:v.q i=[x]) :
 FI N F {v with q:=cI v.q i [],loc:=cI v.loc x (.pop i),pop:=cI v.pop i (some x)} where
 Bj:=h.Bj
 yj:=h.yj
 nx:=h.nx
 free:=by have:=h.free;have:=h.q;grind
 used:=by have:=h.used;have:=h.q;grind
 new:=h.new
 hold:=by have:=h.hold;have:=h.q;grind
 hs:=h.hs
 hr:=h.hr
 fk:=by have:=h.fk;have:=h.q;grind
 ps:=by have:=h.ps;have:=h.q;grind
 q:=by have:=h.q;have:=h.qn;grind
 qn:=by have:=h.qn;have:=h.q;grind
 pop:=by have:=h.pop;have:=h.q;grind
 tk:=by have:=h.tk;have:=h.q;grind
 out:=by have:=h.out;have:=h.q;grind
 tp:=h.tp
 G:=h.G
 kd:=by have:=h.kd;have:=h.q;grind
 un:=by have:=h.un;have:=h.q;grind
 pr:=h.pr
 jn:=by have:=h.jn;have:=h.q;grind
 AA:=by have:=h.AA;have:=h.q;grind
 AB:=h.AB
theorem FI.got(h:v.FI N F)(hi:i<N){x:Nat}(hg:v.g i= .none)(hx:v.pop i=some x) :
 FI N F {v with g:=cI v.g i .start,hold:=cI v.hold i (some x),loc:=cI v.loc x (.held i),pop:=cI v.pop i none} where
 Bj:=h.Bj
 yj:=h.yj
 nx:=h.nx
 free:=by have:=h.free;have:=h.pop;grind
 used:=by have:=h.used;have:=h.pop;grind
 new:=h.new
 hold:=by have:=h.hold;have:=h.pop;grind
 hs:=by have:=h.hs;have:=h.pop;grind
 hr:=by have:=h.hr;have:=h.pop;grind
 fk:=by have:=h.fk;have:=h.pop;grind
 ps:=by have:=h.ps;have:=h.pop;grind
 q:=by have:=h.q;have:=h.pop;grind
 qn:=h.qn
 pop:=by have:=h.pop;grind
 tk:=by have:=h.tk;have:=h.pop;grind
 out:=by have:=h.out;have:=h.pop;grind
 tp:=by have:=h.tp;have:=h.pop;grind
 G:=h.G
 kd:=by have:=h.kd;have:=h.pop;grind
 un:=by have:=h.un;have:=h.pop;grind
 pr:=h.pr
 jn:=by have:=h.jn;have:=h.pop;grind
 AA:=by have:=h.AA;have:=h.pop;grind
 AB:=by have:=h.AB;have:=h.pop;have:=h.AA;have:=h.hold;grind
theorem FI.I1(h:v.FI N F)(hi:i<N){x w:Nat}{l:List Nat}(hw:w<N)(hg:v.g i= .none)(hx:v.q w=x::l) :
 FI N F {v with g:=cI v.g i .start,hold:=cI v.hold i (some x),loc:=cI v.loc x (.held i),q:=cI v.q w l} where
 Bj:=h.Bj
 yj:=h.yj
 nx:=h.nx
 free:=by have:=h.free;have:=h.q;grind [List.nodup_cons]
 used:=by have:=h.used;have:=h.q;grind [List.nodup_cons]
 new:=h.new
 hold:=by have:=h.hold;have:=h.q;grind [List.nodup_cons]
 hs:=by have:=h.hs;have:=h.q;grind [List.nodup_cons]
 hr:=by have:=h.hr;have:=h.q;grind [List.nodup_cons]
 fk:=by have:=h.fk;have:=h.q;grind [List.nodup_cons]
 ps:=by have:=h.ps;have:=h.q;grind [List.nodup_cons]
 q:=by have:=h.q;have:=h.qn;grind [List.nodup_cons]
 qn:=by have:=h.qn;have:=h.q;grind [List.nodup_cons]
 pop:=by have:=h.pop;have:=h.q;grind [List.nodup_cons]
 tk:=by have:=h.tk;have:=h.q;grind [List.nodup_cons]
 out:=by have:=h.out;have:=h.q;grind [List.nodup_cons]
 tp:=by have:=h.tp;have:=h.q;grind [List.nodup_cons]
 G:=h.G
 kd:=by have:=h.kd;have:=h.q;grind [List.nodup_cons]
 un:=by have:=h.un;have:=h.q;grind [List.nodup_cons]
 pr:=h.pr
 jn:=by have:=h.jn;have:=h.q;grind [List.nodup_cons]
 AA:=by have:=h.AA;have:=h.q;grind [List.nodup_cons]
 AB:=by have:=h.AB;have:=h.q;have:=h.AA;have:=h.hold;grind [List.nodup_cons]
end V
def view(s:St):V:=⟨λi=>sig (s.pc i),s.hold,s.loc,λf=>(s.fr f).par,s.nf,s.bC,s.q,s.pop,λf=>s.mem (.join f),λf=>s.mem (.mark f),s.mem .next⟩
theorem rQ{α β:Type}[DecidableEq α](f:α->β)(a:α):cI f a (f a)=f:=by
 funext x;simp only[cS];split
 ·next e=>rw[e]
 ·rfl
def vN.fra:vN->Bool
 | .join _ | .mark _ | .next=>true
 | _=>false
structure ag1 where
 v:V
 lX:Nat->Int
 kc:Nat->Nat
 fx:Nat->Int
def w4:Pc->Int
 | .start x=>x
 | _=>0
def wv(s:St):ag1:=⟨view s,λf=>(s.fr f).lX,λf=>(s.fr f).bC,λi=>w4 (s.pc i)⟩
def quiet:Option Ev->Bool
 | none=>true
 | some x=>x.kind==3||x.kind==9||x.kind==10
inductive Tr(C:kY)(i:Nat)(w:ag1):Option Ev->ag1->Prop
 | gV (e:Option Ev) (he:quiet e=true):Tr C i w e w
 | full (c:Nat) (hg:w.v.g i= .push c):Tr C i w (ev 11 c 1 0) {w with v:={w.v with g:=cI w.v.g i .full}}
 | start (f:Nat) (hg:w.v.g i= .start) (hf:w.v.hold i=some f):Tr C i w (ev 1 f (w.fx i) (w.v.mark f+1))
  { w with v:={w.v with g:=cI w.v.g i .run,mark:=cI w.v.mark f (w.v.mark f+1)},fx:=cI w.fx i 0}
 | spawn (f:Nat) (hg:w.v.g i= .run) (hf:w.v.hold i=some f) (hn:w.v.next<C.F):Tr C i w none
  { w with v:={w.v with g:=cI w.v.g i (.fork w.v.nf),next:=w.v.next+1,nf:=w.v.nf+1,par:=cI w.v.par w.v.nf f,loc:=cI w.v.loc w.v.nf (.cr i)},lX:=cI w.lX w.v.nf (C.pd (w.lX f) (w.kc f)),kc:=cI (cI w.kc f (w.kc f+1)) w.v.nf 0}
 | CD (hg:w.v.g i= .run) (hn:(C.F:Int)<=w.v.next):Tr C i w (ev 11 (-1) 0 0) {w with v:={w.v with g:=cI w.v.g i .full,next:=w.v.next+1}}
 | fork (c f:Nat) (hg:w.v.g i= .fork c) (hf:w.v.hold i=some f):Tr C i w none
  { w with v:={w.v with g:=cI w.v.g i (.push c),join:=cI w.v.join f (w.v.join f+1),bC:=cI w.v.bC f (c::w.v.bC f)}}
 | push (c f:Nat) (hg:w.v.g i= .push c) (hf:w.v.hold i=some f):Tr C i w (ev 2 c f (w.lX c)) {w with v:={w.v with g:=cI w.v.g i .run,q:=cI w.v.q i (w.v.q i++[c]),loc:=cI w.v.loc c (.Ow i)}}
 | wait (f:Nat) (hg:w.v.g i= .run) (hf:w.v.hold i=some f) (hk:0<w.v.join f-1):Tr C i w (ev 4 f 0 0)
  { w with v:={w.v with g:=cI w.v.g i .none,hold:=cI w.v.hold i none,join:=cI w.v.join f (w.v.join f-1),loc:=cI w.v.loc f .waiting}}
 | pass (f:Nat) (hg:w.v.g i= .run) (hf:w.v.hold i=some f) (hk:¬0<w.v.join f-1):Tr C i w none
  { w with v:={w.v with g:=cI w.v.g i .one,join:=cI w.v.join f (w.v.join f-1),loc:=cI w.v.loc f (.uL i)}}
 | one (f:Nat) (hg:w.v.g i= .one) (hf:w.v.hold i=some f):Tr C i w (ev 5 f 0 0)
  { w with v:={w.v with g:=cI w.v.g i .run,join:=cI w.v.join f 1,loc:=cI w.v.loc f (.held i)}}
 | LQ (v:Int) (hg:w.v.g i= .run) (hf:w.v.hold i=some 0):Tr C i w (ev 6 0 (-1) v)
  { w with v:={w.v with g:=cI w.v.g i .none,hold:=cI w.v.hold i none,loc:=cI w.v.loc 0 (.fin i)}}
 | ret (f:Nat) (v:Int) (hg:w.v.g i= .run) (hf:w.v.hold i=some f) (h0:f≠0):Tr C i w (ev 6 f (w.v.par f) v)
  { w with v:={w.v with g:=cI w.v.g i (.out (w.v.par f) f),hold:=cI w.v.hold i none,loc:=cI w.v.loc f (.fin i)}}
 | Po (p c:Nat) (hg:w.v.g i= .out p c) (hn:w.v.join p-1≠0):Tr C i w none
  { w with v:={w.v with g:=cI w.v.g i .none,join:=cI w.v.join p (w.v.join p-1),bC:=cI w.v.bC p ((w.v.bC p).erase c),loc:=cI w.v.loc c .gone}}
 | Pp (p c:Nat) (hg:w.v.g i= .out p c) (hn:w.v.join p-1=0):Tr C i w none
  { w with v:={w.v with g:=cI w.v.g i (.take p c),join:=cI w.v.join p (w.v.join p-1),bC:=cI w.v.bC p ((w.v.bC p).erase c),loc:=cI (cI w.v.loc c .gone) p (.uU i)}}
 | take (p c:Nat) (hg:w.v.g i= .take p c):Tr C i w (ev 7 p c 0)
  { w with v:={w.v with g:=cI w.v.g i .run,hold:=cI w.v.hold i (some p),join:=cI w.v.join p 1,loc:=cI w.v.loc p (.held i)}}
 | n4 (x:Nat) (l:List Nat) (hg:w.v.g i= .none) (hq:w.v.q i=l++[x]):Tr C i w none {w with v:={w.v with q:=cI w.v.q i l,loc:=cI w.v.loc x (.pop i),pop:=cI w.v.pop i (some x)}}
 | Pq (x:Nat) (hg:w.v.g i= .none) (hq:w.v.q i=[x]):Tr C i w none {w with v:={w.v with q:=cI w.v.q i [],loc:=cI w.v.loc x (.pop i),pop:=cI w.v.pop i (some x)}}
 | got (x:Nat) (hg:w.v.g i= .none) (hx:w.v.pop i=some x):Tr C i w none
  { w with v:={w.v with g:=cI w.v.g i .start,hold:=cI w.v.hold i (some x),loc:=cI w.v.loc x (.held i),pop:=cI w.v.pop i none},fx:=cI w.fx i (-1)}
 | I1 (k x:Nat) (l:List Nat) (hk:k<C.N) (Ma:k≠i) (hg:w.v.g i= .none) (hx:w.v.q k=x::l):Tr C i w (ev 8 x k 0)
  { w with v:={w.v with g:=cI w.v.g i .start,hold:=cI w.v.hold i (some x),loc:=cI w.v.loc x (.held i),q:=cI w.v.q k l},fx:=cI w.fx i k}
theorem Tr.fi{C:kY}{i:Nat}{w w':ag1}{e:Option Ev}(t:Tr C i w e w')(hi:i<C.N)(h:w.v.FI C.N C.F):w'.v.FI C.N C.F:=by
 cases t with
 | gV _=>exact h
 | full c hg=>exact h.full hi (by rw[hg];rfl) (by rw[hg];simp) (by rw[hg];simp)
 | start f hg hf=>exact h.start hi hg hf
 | spawn f hg hf hn=>exact h.spawn hi hg hf hn
 | CD hg hn=>exact h.CD hi hg hn
 | fork c f hg hf=>exact h.fork hi hg hf
 | push c f hg hf=>exact h.push hi hg
 | wait f hg hf hk=>exact h.wait hi hg hf hk
 | pass f hg hf hk=>exact h.pass hi hg hf hk
 | one f hg hf=>exact h.one hi hg hf
 | LQ v hg hf=>exact h.LQ hi hg hf
 | ret f v hg hf h0=>exact h.ret hi hg hf h0
 | Po p c hg hn=>exact h.Po hi hg hn
 | Pp p c hg hn=>exact h.Pp hi hg hn
 | take p c hg=>exact h.take hi hg
 | n4 x l hg hq=>exact h.n4 hi hg hq
 | Pq x hg hq=>exact h.Pq hi hg hq
 | got x hg hx=>exact h.got hi hg hx
 | I1 k x l hk Ma hg hx=>exact h.I1 hi hk hg hx
theorem uD{C:kY}{i:Nat}{w w' w'':ag1}{e:Option Ev}(h:w''=w')(t:Tr C i w e w'):Tr C i w e w'':=h▸ t
def I2(x:Fr):Nat×Int×Nat:=(x.par,x.lX,x.bC)
section
variable {C:kY}{s:St}{i:Nat}{N F:Nat}
theorem Zl{s':St}(h0:∀j,sig (s'.pc j)=sig (s.pc j))(hx:∀j,w4 (s'.pc j)=w4 (s.pc j))(h1:s'.hold=s.hold)(h2:s'.loc=s.loc)(h3:∀f,I2 (s'.fr f)=I2 (s.fr f))(h4:s'.nf=s.nf)(h5:s'.bC=s.bC)
 (h6:s'.q=s.q) (h7:s'.pop=s.pop) (hm:∀a,a.fra=true->s'.mem a=s.mem a):wv s'=wv s:=by
 have a1:(λf=>(s'.fr f).par)=λf=>(s.fr f).par:=funext λf=>nV (·.1) (h3 f);have a2:(λf=>(s'.fr f).lX)=λf=>(s.fr f).lX:=funext λf=>nV (·.2.1) (h3 f);have a3:(λf=>(s'.fr f).bC)=λf=>(s.fr f).bC:=funext λf=>nV (·.2.2) (h3 f);unfold wv view;rw[h1,h2,h4,h5,h6,h7,hm .next rfl,funext h0,funext hx,a1,a2,a3,funext (λf=>hm (.join f) rfl),funext (λf=>hm (.mark f) rfl)]
theorem gV{s':St}{p:Pc}{e:Option Ev}(hp:s'.pc=cI s.pc i p)(hs:sig p=sig (s.pc i)/\w4 p=w4 (s.pc i))(h1:s'.hold=s.hold)(h2:s'.loc=s.loc)(h3:∀f,I2 (s'.fr f)=I2 (s.fr f))(h4:s'.nf=s.nf)(h5:s'.bC=s.bC)
 (h6:s'.q=s.q) (h7:s'.pop=s.pop) (hm:∀a,a.fra=true->s'.mem a=s.mem a) (he:quiet e=true):Tr C i (wv s) e (wv s'):=by
 refine uD (Zl (λj => ?_) (λj => ?_) h1 h2 h3 h4 h5 h6 h7 hm) (.gV _ he)
 ·rw[hp,cS];split
  ·next e=>rw[e];exact hs.1
  ·rfl
 ·rw[hp,cS];split
  ·next e=>rw[e];exact hs.2
  ·rfl
theorem I3{s':St}{e:Option Ev}(hp:s'.pc=s.pc)(h1:s'.hold=s.hold)(h2:s'.loc=s.loc)(h3:∀f,I2 (s'.fr f)=I2 (s.fr f))(h4:s'.nf=s.nf)(h5:s'.bC=s.bC)
 (h6:s'.q=s.q) (h7:s'.pop=s.pop) (hm:∀a,a.fra=true->s'.mem a=s.mem a) (he:quiet e=true):Tr C i (wv s) e (wv s'):=
 uD (Zl (λj=>by rw[hp]) (λj=>by rw[hp]) h1 h2 h3 h4 h5 h6 h7 hm) (.gV _ he)
theorem tJ{a x:vN}{v:Int}(h:a.fra=false):x.fra=true->(s.wr a v).mem x=s.mem x:=λhx=>oc (by rintro rfl;rw[h]at hx;cases hx)
theorem Bk{f:Nat}{x:Fr}(h:I2 x=I2 (s.fr f))(j:Nat):I2 ((s.lay f x).fr j)=I2 (s.fr j):=by
 show I2 (cI s.fr f x j)=_;rw[cS];split
 ·next e=>rw[e,h]
 ·rfl
theorem sG(hf:(view s).FI N F)(hi:i<N)(hb:busy (sig (s.pc i))=true) :∃f,s.hold i=some f:=by
 have:=hf.hs i hi hb;exact Option.ne_none_iff_exists'.1 this
theorem vH{w w':ag1}(h1:∀j,w.v.g j=w'.v.g j)(h2:∀j,w.v.hold j=w'.v.hold j)(h3:∀j,w.v.loc j=w'.v.loc j)(h4:∀j,w.v.par j=w'.v.par j)(h5:w.v.nf=w'.v.nf)(h6:∀j,w.v.bC j=w'.v.bC j)
 (h7:∀j,w.v.q j=w'.v.q j) (h8:∀j,w.v.pop j=w'.v.pop j) (h9:∀j,w.v.join j=w'.v.join j) (h10:∀j,w.v.mark j=w'.v.mark j) (h11:w.v.next=w'.v.next) (h12:∀j,w.lX j=w'.lX j) (h13:∀j,w.kc j=w'.kc j) (h14:∀j,w.fx j=w'.fx j):w=w':=by
 obtain⟨⟨⟩⟩:=w;obtain⟨⟨⟩⟩:=w';simp only[ag1.mk.injEq,V.mk.injEq];exact⟨⟨funext h1,funext h2,funext h3,funext h4,h5,funext h6,funext h7,funext h8,funext h9,funext h10,h11⟩,funext h12,funext h13,funext h14⟩
theorem Vh(hf:(view s).FI C.N C.F)(hi:i<C.N)(hp:s.pc i= .run):Tr C i (wv s) (instr C s i).ev (wv (instr C s i).s):=by
 have hg:(view s).g i= .run:=by show sig (s.pc i)=_;rw[hp];rfl
 obtain⟨f,hh⟩:=sG hf hi (by rw[hp];rfl);have hh':(view s).hold i=some f:=hh;unfold Am.instr;simp only[hh,pK];split
 ·exact I3 rfl rfl rfl (Bk rfl) rfl rfl rfl rfl (λ_ _=>rfl) rfl
 ·exact I3 rfl rfl rfl (Bk rfl) rfl rfl rfl rfl (λ_ _=>rfl) rfl
 ·exact I3 rfl rfl rfl (Bk rfl) rfl rfl rfl rfl (λ_ _=>rfl) rfl
 ·exact I3 rfl rfl rfl (Bk rfl) rfl rfl rfl rfl (λ_ _=>rfl) rfl
 ·exact I3 rfl rfl rfl (Bk (by split<;>rfl)) rfl rfl rfl rfl (λ_ _=>rfl) rfl
 ·exact I3 rfl rfl rfl (Bk rfl) rfl rfl rfl rfl (λ_ _=>rfl) rfl
 ·exact I3 rfl rfl rfl (Bk rfl) rfl rfl rfl rfl (λ_ _=>rfl) rfl
 ·rename_i sl g c hc;split
  ·rename_i hn;refine uD ?_ (Tr.CD hg (by show(C.F:Int)<=s.mem .next;omega))
   apply vH<;>(try intro j)<;>simp only[wv,view,St.wr,St.lay,St.to,St.put,St.holds,St.sq,St.n4,St.Hf,St.uV,got,cS,cQ]<;>grind [sig,w4,lq]
  ·rename_i hn;refine uD ?_ (Tr.spawn f hg hh' (by show s.mem .next<(C.F:Int);omega))
   apply vH<;>(try intro j)<;>simp only[wv,view,St.wr,St.lay,St.to,St.put,St.holds,St.sq,St.n4,St.Hf,St.uV,got,cS,cQ]<;>grind [sig,w4,lq]
 ·split
  ·rename_i hn;refine uD ?_ (Tr.wait f hg hh' (by simpa [wv,view]using hn))
   apply vH<;>(try intro j)<;>simp only[wv,view,St.wr,St.lay,St.to,St.put,St.holds,St.sq,St.n4,St.Hf,St.uV,got,cS,cQ]<;>grind [sig,w4,lq]
  ·rename_i hn;refine uD ?_ (Tr.pass f hg hh' (by simpa [wv,view]using hn))
   apply vH<;>(try intro j)<;>simp only[wv,view,St.wr,St.lay,St.to,St.put,St.holds,St.sq,St.n4,St.Hf,St.uV,got,cS,cQ]<;>grind [sig,w4,lq]
 ·split
  ·rename_i h0;subst h0;refine uD ?_ (Tr.LQ _ hg hh')
   apply vH<;>(try intro j)<;>simp only[wv,view,St.wr,St.lay,St.to,St.put,St.holds,St.sq,St.n4,St.Hf,St.uV,got,cS,cQ]<;>grind [sig,w4,lq]
  ·rename_i h0;refine uD ?_ (Tr.ret f _ hg hh' h0)
   apply vH<;>(try intro j)<;>simp only[wv,view,St.wr,St.lay,St.to,St.put,St.holds,St.sq,St.n4,St.Hf,St.uV,got,cS,cQ]<;>grind [sig,w4,lq]
theorem LR(hf:(view s).FI C.N C.F)(hd:DT C s)(hi:i<C.N)(d:Int):Tr C i (wv s) (aJ C s i d).ev (wv (aJ C s i d).s):=by
 cases hp:s.pc i with
 | DL c =>
  unfold Am.aJ;rw[hp];simp only;exact gV rfl (by rw[hp];exact⟨rfl,rfl⟩) rfl rfl (λ_=>rfl) rfl rfl rfl rfl (λ_ _=>rfl) rfl
 | BE c b =>
  unfold Am.aJ;rw[hp];simp only;exact gV rfl (by rw[hp];exact⟨rfl,rfl⟩) rfl rfl (λ_=>rfl) rfl rfl rfl rfl (λ_ _=>rfl) rfl
 | uJ c b t =>
  unfold Am.aJ;rw[hp];simp only;exact gV rfl (by rw[hp];exact⟨rfl,rfl⟩) rfl rfl (λ_=>rfl) rfl rfl rfl rfl (λ_ _=>rfl) rfl
 | E3 =>
  unfold Am.aJ;rw[hp];simp only;exact gV rfl (by rw[hp];exact⟨rfl,rfl⟩) rfl rfl (λ_=>rfl) rfl rfl rfl rfl (λ_ _=>rfl) rfl
 | yE b =>
  unfold Am.aJ;rw[hp];simp only;exact gV rfl (by rw[hp];exact⟨rfl,rfl⟩) rfl rfl (λ_=>rfl) rfl rfl rfl rfl (λ_ _=>rfl) rfl
 | wo b t =>
  unfold Am.aJ;rw[hp];simp only;exact gV rfl (by rw[hp];exact⟨rfl,rfl⟩) rfl rfl (λ_=>rfl) rfl rfl rfl rfl (λ_ _=>rfl) rfl
 | oB =>
  unfold Am.aJ;rw[hp];simp only;exact gV rfl (by rw[hp];exact⟨rfl,rfl⟩) rfl rfl (λ_=>rfl) rfl rfl rfl rfl (λ_ _=>rfl) rfl
 | sR v t =>
  unfold Am.aJ;rw[hp];simp only;exact gV rfl (by rw[hp];exact⟨rfl,rfl⟩) rfl rfl (λ_=>rfl) rfl rfl rfl rfl (λ_ _=>rfl) rfl
 | rO v t g =>
  unfold Am.aJ;rw[hp];simp only;exact gV rfl (by rw[hp];exact⟨rfl,rfl⟩) rfl rfl (λ_=>rfl) rfl rfl rfl rfl (λ_ _=>rfl) rfl
 | pG v t g cc =>
  unfold Am.aJ;rw[hp];simp only;exact gV rfl (by rw[hp];exact⟨rfl,rfl⟩) rfl rfl (λ_=>rfl) rfl rfl rfl rfl (λ_ _=>rfl) rfl
 | GF j =>
  unfold Am.aJ;rw[hp];simp only;exact gV rfl (by rw[hp];exact⟨rfl,rfl⟩) rfl rfl (λ_=>rfl) rfl rfl rfl rfl (λ_ _=>rfl) rfl
 | nM c b t cc n =>
  unfold Am.aJ;rw[hp];simp only;exact gV rfl (by rw[hp];exact⟨rfl,rfl⟩) rfl rfl (λ_=>rfl) rfl rfl rfl rfl (λ_ _=>rfl) rfl
 | p9 c b t cc =>
  unfold Am.aJ;rw[hp];simp only;exact gV rfl (by rw[hp];exact⟨rfl,rfl⟩) rfl rfl (λ_=>rfl) rfl rfl rfl rfl (λ_=>tJ rfl) rfl
 | qP c b t cc =>
  unfold Am.aJ;rw[hp];simp only;exact gV rfl (by rw[hp];exact⟨rfl,rfl⟩) rfl rfl (λ_=>rfl) rfl rfl rfl rfl (λ_=>tJ rfl) rfl
 | nN c b cc =>
  unfold Am.aJ;rw[hp];simp only;exact gV rfl (by rw[hp];exact⟨rfl,rfl⟩) rfl rfl (λ_=>rfl) rfl rfl rfl rfl (λ_=>tJ rfl) rfl
 | sQ b =>
  unfold Am.aJ;rw[hp];simp only;exact gV rfl (by rw[hp];exact⟨rfl,rfl⟩) rfl rfl (λ_=>rfl) rfl rfl rfl rfl (λ_=>tJ rfl) rfl
 | flag =>
  unfold Am.aJ;rw[hp];simp only;exact gV rfl (by rw[hp];exact⟨rfl,rfl⟩) rfl rfl (λ_=>rfl) rfl rfl rfl rfl (λ_=>tJ rfl) rfl
 | sleep =>
  unfold Am.aJ;rw[hp];simp only;exact gV rfl (by rw[hp];exact⟨rfl,rfl⟩) rfl rfl (λ_=>rfl) rfl rfl rfl rfl (λ_=>tJ rfl) rfl
 | xY j =>
  unfold Am.aJ;rw[hp];simp only;exact gV rfl (by rw[hp];exact⟨rfl,rfl⟩) rfl rfl (λ_=>rfl) rfl rfl rfl rfl (λ_=>tJ rfl) rfl
 | grow c b t cc =>
  unfold Am.aJ;rw[hp];simp only;exact gV rfl (by rw[hp];exact⟨rfl,rfl⟩) rfl rfl (λ_=>rfl) rfl rfl rfl rfl (λa ha=>by cases a<;>first | rfl | (simp[vN.fra]at ha)) rfl
 | nU c b t cc n x =>
  unfold Am.aJ;rw[hp];simp only;refine gV rfl (by rw[hp];split<;>exact⟨rfl,rfl⟩) rfl rfl (λ_=>rfl) rfl rfl rfl rfl (λ_=>tJ rfl) rfl
 | IY =>
  unfold Am.aJ;rw[hp];simp only;refine gV rfl (by rw[hp];split<;>exact⟨rfl,rfl⟩) rfl rfl (λ_=>rfl) rfl rfl rfl rfl (λ_ _=>rfl) rfl
 | vG j =>
  unfold Am.aJ;rw[hp];simp only;split
  ·exact gV rfl (by rw[hp];exact⟨rfl,rfl⟩) rfl rfl (λ_=>rfl) rfl rfl rfl rfl (λ_=>tJ rfl) rfl
  ·exact gV rfl (by rw[hp];split<;>exact⟨rfl,rfl⟩) rfl rfl (λ_=>rfl) rfl rfl rfl rfl (λ_ _=>rfl) rfl
 | rN t =>
  unfold Am.aJ;rw[hp];simp only;exact gV rfl (by rw[hp];split<;>exact⟨rfl,rfl⟩) rfl rfl (λ_=>rfl) rfl rfl rfl rfl (λ_=>tJ rfl) rfl
 | xq v t =>
  unfold Am.aJ;rw[hp];simp only;split<;>exact gV rfl (by rw[hp];exact⟨rfl,rfl⟩) rfl rfl (λ_=>rfl) rfl rfl rfl rfl (λ_ _=>rfl) rfl
 | Gc =>
  unfold Am.aJ;rw[hp];simp only;split
  ·exact gV rfl (by rw[hp];exact⟨rfl,rfl⟩) rfl rfl (λ_=>rfl) rfl rfl rfl rfl (λ_ _=>rfl) rfl
  ·exact gV rfl (by rw[hp];split<;>exact⟨rfl,rfl⟩) rfl rfl (λ_=>rfl) rfl rfl rfl rfl (λ_ _=>rfl) rfl
 | wZ =>
  unfold Am.aJ;rw[hp];simp only[looking];split
  ·exact gV rfl (by rw[hp];exact⟨rfl,rfl⟩) rfl rfl (λ_=>rfl) rfl rfl rfl rfl (λ_ _=>rfl) rfl
  ·split<;>exact gV rfl (by rw[hp];exact⟨rfl,rfl⟩) rfl rfl (λ_=>rfl) rfl rfl rfl rfl (λ_ _=>rfl) rfl
 | E4 j t =>
  unfold Am.aJ;rw[hp];simp only[looking];split
  ·exact gV rfl (by rw[hp];exact⟨rfl,rfl⟩) rfl rfl (λ_=>rfl) rfl rfl rfl rfl (λ_ _=>rfl) rfl
  ·split<;>exact gV rfl (by rw[hp];exact⟨rfl,rfl⟩) rfl rfl (λ_=>rfl) rfl rfl rfl rfl (λ_ _=>rfl) rfl
 | parked =>
  unfold Am.aJ;rw[hp];simp only;split
  ·exact .gV none rfl
  ·exact gV rfl (by rw[hp];split<;>exact⟨rfl,rfl⟩) rfl rfl (λ_=>rfl) rfl rfl rfl rfl (λ_ _=>rfl) rfl
 | back b =>
  unfold Am.aJ;rw[hp];simp only[Dl];split
  ·exact gV rfl (by rw[hp];exact⟨rfl,rfl⟩) rfl rfl (λ_=>rfl) rfl rfl rfl rfl (λ_=>tJ rfl) rfl
  ·split
   ·exact gV rfl (by rw[hp];exact⟨rfl,rfl⟩) rfl rfl (λ_=>rfl) rfl rfl rfl rfl (λ_ _=>rfl) rfl
   ·exact gV rfl (by rw[hp];split<;>exact⟨rfl,rfl⟩) rfl rfl (λ_=>rfl) rfl rfl rfl rfl (λ_ _=>rfl) rfl
 | xZ b =>
  unfold Am.aJ;rw[hp];simp only[Dl];split
  ·exact gV rfl (by rw[hp];exact⟨rfl,rfl⟩) rfl rfl (λ_=>rfl) rfl rfl rfl rfl (λ_=>tJ rfl) rfl
  ·exact gV rfl (by rw[hp];split<;>exact⟨rfl,rfl⟩) rfl rfl (λ_=>rfl) rfl rfl rfl rfl (λ_=>tJ rfl) rfl
 | done =>
  unfold Am.aJ;rw[hp];simp only[oX];split<;>exact gV rfl (by rw[hp];exact⟨rfl,rfl⟩) rfl rfl (λ_=>rfl) rfl rfl rfl rfl (λ_=>tJ rfl) rfl
 | tell j =>
  unfold Am.aJ;rw[hp];simp only[oX];split
  ·exact gV rfl (by rw[hp];exact⟨rfl,rfl⟩) rfl rfl (λ_=>rfl) rfl rfl rfl rfl (λ_=>tJ rfl) rfl
  ·split<;>exact gV rfl (by rw[hp];exact⟨rfl,rfl⟩) rfl rfl (λ_=>rfl) rfl rfl rfl rfl (λ_ _=>rfl) rfl
 | zj j =>
  unfold Am.aJ;rw[hp];simp only[oX];split<;>exact gV rfl (by rw[hp];exact⟨rfl,rfl⟩) rfl rfl (λ_=>rfl) rfl rfl rfl rfl (λ_=>tJ rfl) rfl
 | uK c b t =>
  have hg:(view s).g i= .push c:=by show sig (s.pc i)=_;rw[hp];rfl
  unfold Am.aJ;rw[hp];simp only;split
  ·exact gV rfl (by rw[hp];exact⟨rfl,rfl⟩) rfl rfl (λ_=>rfl) rfl rfl rfl rfl (λ_ _=>rfl) rfl
  ·split
   ·refine uD ?_ (Tr.full c hg)
    apply vH<;>(try intro j)<;>simp only[wv,view,St.wr,St.lay,St.to,St.put,St.holds,St.sq,St.n4,St.Hf,St.uV,got,cS,cQ]<;>grind [sig,w4,lq]
   ·exact gV rfl (by rw[hp];exact⟨rfl,rfl⟩) rfl rfl (λ_=>rfl) rfl rfl rfl rfl (λ_ _=>rfl) rfl
 | halted=>unfold Am.aJ;rw[hp];exact .gV none rfl
 | full=>unfold Am.aJ;rw[hp];exact .gV none rfl
 | run=>unfold Am.aJ;rw[hp];exact Vh hf hi hp
 | start x =>
  have hg:(view s).g i= .start:=by show sig (s.pc i)=_;rw[hp];rfl
  obtain⟨f,hh⟩:=sG hf hi (by rw[hp];rfl);unfold Am.aJ;rw[hp];simp only[hh,pK];have hx:x=(wv s).fx i:=by show x=w4 (s.pc i);rw[hp];rfl
  rw[hx];refine uD ?_ (Tr.start f hg hh)
  apply vH<;>(try intro j)<;>simp only[wv,view,St.wr,St.lay,St.to,St.put,St.holds,St.sq,St.n4,St.Hf,St.uV,got,cS,cQ]<;>grind [sig,w4,lq]
 | fork c =>
  have hg:(view s).g i= .fork c:=by show sig (s.pc i)=_;rw[hp];rfl
  obtain⟨f,hh⟩:=sG hf hi (by rw[hp];rfl);unfold Am.aJ;rw[hp];simp only[hh,pK];refine uD ?_ (Tr.fork c f hg hh)
  apply vH<;>(try intro j)<;>simp only[wv,view,St.wr,St.lay,St.to,St.put,St.holds,St.sq,St.n4,St.Hf,St.uV,got,cS,cQ]<;>grind [sig,w4,lq]
 | ru =>
  have hg:(view s).g i= .one:=by show sig (s.pc i)=_;rw[hp];rfl
  obtain⟨f,hh⟩:=sG hf hi (by rw[hp];rfl);unfold Am.aJ;rw[hp];simp only[hh,pK];refine uD ?_ (Tr.one f hg hh)
  apply vH<;>(try intro j)<;>simp only[wv,view,St.wr,St.lay,St.to,St.put,St.holds,St.sq,St.n4,St.Hf,St.uV,got,cS,cQ]<;>grind [sig,w4,lq]
 | out p c =>
  have hg:(view s).g i= .out p c:=by show sig (s.pc i)=_;rw[hp];rfl
  unfold Am.aJ;rw[hp];simp only;split
  ·rename_i hn;refine uD ?_ (Tr.Pp p c hg hn)
   apply vH<;>(try intro j)<;>simp only[wv,view,St.wr,St.lay,St.to,St.put,St.holds,St.sq,St.n4,St.Hf,St.uV,got,cS,cQ]<;>grind [sig,w4,lq]
  ·rename_i hn;refine uD ?_ (Tr.Po p c hg hn)
   apply vH<;>(try intro j)<;>simp only[wv,view,St.wr,St.lay,St.to,St.put,St.holds,St.sq,St.n4,St.Hf,St.uV,got,cS,cQ]<;>grind [sig,w4,lq]
 | take p c =>
  have hg:(view s).g i= .take p c:=by show sig (s.pc i)=_;rw[hp];rfl
  unfold Am.aJ;rw[hp];simp only;refine uD ?_ (Tr.take p c hg)
  apply vH<;>(try intro j)<;>simp only[wv,view,St.wr,St.lay,St.to,St.put,St.holds,St.sq,St.n4,St.Hf,St.uV,got,cS,cQ]<;>grind [sig,w4,lq]
 | ry c b =>
  have hg:(view s).g i= .push c:=by show sig (s.pc i)=_;rw[hp];rfl
  obtain⟨f,hh⟩:=sG hf hi (by rw[hp];rfl);unfold Am.aJ;rw[hp];simp only[hh,pK];refine uD ?_ (Tr.push c f hg hh)
  apply vH<;>(try intro j)<;>simp only[wv,view,St.wr,St.lay,St.to,St.put,St.holds,St.sq,St.n4,St.Hf,St.uV,got,cS,cQ]<;>grind [sig,w4,lq]
 | Eb b =>
  have hg:(view s).g i= .none:=by show sig (s.pc i)=_;rw[hp];rfl
  have P:=(hd.1 i hi).ph;unfold rz at P;rw[hp]at P;simp only at P;unfold Am.aJ;rw[hp];simp only;split
  ·rename_i hlt;have hne:s.q i≠[]:=by
    intro e;simp only[St.L,St.T,e,yX]at P;omega
   have hq:s.q i=(s.q i).dropLast++[(s.q i).getLastD 0]:=by
    rw[Mv,List.getLast?_eq_some_getLast hne];exact(List.dropLast_concat_getLast hne).symm
   refine uD ?_ (Tr.n4 ((s.q i).getLastD 0) ((s.q i).dropLast) hg hq)
   apply vH<;>(try intro j)<;>simp only[wv,view,St.wr,St.lay,St.to,St.put,St.holds,St.sq,St.n4,St.Hf,St.uV,got,cS,cQ]<;>grind [sig,w4,lq]
  ·split<;>exact gV rfl (by rw[hp];exact⟨rfl,rfl⟩) rfl rfl (λ_=>rfl) rfl rfl rfl rfl (λ_ _=>rfl) rfl
 | sF b t cc =>
  have hg:(view s).g i= .none:=by show sig (s.pc i)=_;rw[hp];rfl
  have P:=(hd.1 i hi).ph;unfold rz at P;rw[hp]at P;simp only at P;unfold Am.aJ;rw[hp];simp only;split
  ·rename_i hlt;obtain⟨x,hx,he⟩:=(P.1.2.2.2.1 hlt).2.2;rw[<-P.2]at he;rw[he];refine uD ?_ (Tr.got x hg hx)
   apply vH<;>(try intro j)<;>simp only[wv,view,St.wr,St.lay,St.to,St.put,St.holds,St.sq,St.n4,St.Hf,St.uV,got,cS,cQ]<;>grind [sig,w4,lq]
  ·exact gV rfl (by rw[hp];exact⟨rfl,rfl⟩) rfl rfl (λ_=>rfl) rfl rfl rfl rfl (λ_ _=>rfl) rfl
 | uT b t x =>
  have hg:(view s).g i= .none:=by show sig (s.pc i)=_;rw[hp];rfl
  have P:=(hd.1 i hi).ph;unfold rz at P;rw[hp]at P;simp only at P;unfold Am.aJ;rw[hp];simp only;split
  ·rename_i ht;have hq:=(P.2.2.2.2.1 ht).1;refine uD ?_ (Tr.Pq x.toNat hg hq)
   apply vH<;>(try intro j)<;>simp only[wv,view,St.wr,St.lay,St.to,St.put,St.holds,St.sq,St.n4,St.Hf,St.uV,got,cS,cQ]<;>grind [sig,w4,lq]
  ·exact gV rfl (by rw[hp];exact⟨rfl,rfl⟩) rfl rfl (λ_=>rfl) rfl rfl rfl rfl (λ_ _=>rfl) rfl
 | tc t x BI =>
  have hg:(view s).g i= .none:=by show sig (s.pc i)=_;rw[hp];rfl
  have P:=(hd.1 i hi).ph;unfold rz at P;rw[hp]at P;simp only at P;unfold Am.aJ;rw[hp];simp only;split
  ·rename_i hw;refine uD ?_ (Tr.got x.toNat hg (P.2.2.2 hw).1)
   apply vH<;>(try intro j)<;>simp only[wv,view,St.wr,St.lay,St.to,St.put,St.holds,St.sq,St.n4,St.Hf,St.uV,got,cS,cQ]<;>grind [sig,w4,lq]
  ·exact gV rfl (by rw[hp];split<;>exact⟨rfl,rfl⟩) rfl rfl (λ_=>rfl) rfl rfl rfl rfl (λ_=>tJ rfl) rfl
 | oK v t x =>
  have hg:(view s).g i= .none:=by show sig (s.pc i)=_;rw[hp];rfl
  have HT:=hd.2 i hi;unfold Th at HT;rw[hp]at HT;simp only at HT;unfold Am.aJ;rw[hp];simp only;split
  ·rename_i ht;obtain⟨y,l,hq,hx⟩:=HT.2.2.2 ht.symm;subst hx;refine uD ?_ (Tr.I1 v y l HT.1 HT.2.1 hg hq)
   apply vH<;>(try intro j)<;>simp only[wv,view,St.wr,St.lay,St.to,St.put,St.holds,St.sq,St.n4,St.Hf,St.uV,got,cS,cQ]<;>grind [sig,w4,lq]
  ·exact gV rfl (by rw[hp];exact⟨rfl,rfl⟩) rfl rfl (λ_=>rfl) rfl rfl rfl rfl (λ_ _=>rfl) rfl
theorem FI.aJ(hf:(view s).FI C.N C.F)(hd:DT C s)(hi:i<C.N)(d:Int):(view (aJ C s i d).s).FI C.N C.F:=(LR hf hd hi d).fi hi hf
end
def NN(C:kY)(g a:Nat):Prop:=
 match C.code g a with
 | .const x _=>x<C.bD g/\a+1<C.len g
 | .lX x=>x<C.bD g/\a+1<C.len g
 | .move x y=>x<C.bD g/\y<C.bD g/\a+1<C.len g
 | .arith op x y z=>x<C.bD g/\y<C.bD g/\z<C.bD g/\a+1<C.len g
 | .jump t=>t<C.len g
 | .branch x t=>x<C.bD g/\t<C.len g/\a+1<C.len g
 | .spawn s f c=>s<8/\f<C.QZ/\(C.params f=0∨c+C.params f<=C.bD g)/\a+1<C.len g
 | .sync=>a+1<C.len g
 | .load x s=>x<C.bD g/\s<8/\a+1<C.len g
 | .ret x=>x<C.bD g
structure kY.OK(C:kY):Prop where
 n1:1<=C.N
 n64:C.N<=64
 f1:1<=C.F
 f4:C.F<=4096
 c1:1<=C.first
 cm:C.first<=C.most
 m4:C.most<=4096
 fn0:0<C.QZ
 aaB:∀g,g<C.QZ->0<C.len g
 LS:∀g,g<C.QZ->C.params g<=C.bD g/\C.bD g<=16
 ins:∀g,g<C.QZ->∀a,a<C.len g->NN C g a
def live:Loc->Bool
 | .fin _ | .gone=>false
 | _=>true
def FR1(C:kY)(x:Fr)(l:Loc):Prop:=x.fn<C.QZ/\x.slot<8/\(live l=true->x.J<C.len x.fn)
def FR(C:kY)(s:St):Prop:=∀f,f<s.nf->FR1 C (s.fr f) (s.loc f)
section
variable {C:kY}{s:St}{i:Nat}
theorem FR.gV{s':St}(h:FR C s)(h1:s'.nf=s.nf)(h2:s'.fr=s.fr)(h3:s'.loc=s.loc):FR C s':=by
 intro f hf;rw[h2,h3];exact h f (h1▸ hf)
theorem FR.put{s':St}{f:Nat}{l:Loc}(h:FR C s)(h1:s'.nf=s.nf)(h2:s'.fr=s.fr)(h3:s'.loc=cI s.loc f l)(hl:live l=true->live (s.loc f)=true):FR C s':=by
 intro g hg;rw[h2,h3,cS];have:=h g (h1▸ hg);split
 ·next e=>subst e;exact⟨this.1,this.2.1,λhh=>this.2.2 (hl hh)⟩
 ·exact this
theorem FR.lay{s':St}{f:Nat}{x:Fr}(h:FR C s)(h1:s'.nf=s.nf)(h2:s'.fr=cI s.fr f x)(h3:s'.loc=s.loc)(hx:f<s.nf->FR1 C x (s.loc f)):FR C s':=by
 intro g hg;rw[h2,h3,cS];have Kg:=h1▸ hg;split
 ·next e=>subst e;exact hx Kg
 ·exact h g Kg
theorem pZ(hf:(view s).FI C.N C.F)(hi:i<C.N){f:Nat}(hh:s.hold i=some f):live (s.loc f)=true/\f<s.nf:=by
 have a:=hf.hold i f hi hh;have e:s.loc f= .uL i∨s.loc f= .held i:=a.elim (λa=>.inl a.2) (λa=>.inr a.2);refine⟨by rcases e with e | e<;>rw[e]<;>rfl,?_⟩;rcases Dv f s.nf with h | h
 ·exact h
 ·have:=hf.free f h;change s.loc f=_ at this;rw[this]at e;rcases e with e | e<;>cases e
theorem FR.instr(hC:C.OK)(h:FR C s)(hf:(view s).FI C.N C.F)(hi:i<C.N)(hp:s.pc i= .run):FR C (instr C s i).s:=by
 obtain⟨f,hh⟩:=sG hf hi (by rw[hp];rfl);obtain⟨hl,hn⟩:=pZ hf hi hh;obtain⟨a1,a2,a3⟩:=h f hn;have a3:=a3 hl;have ok:=hC.ins _ a1 _ a3;unfold NN at ok;unfold Am.instr;simp only[hh,pK];split<;>rename_i hc<;>rw[hc]at ok<;>simp only at ok
 ·exact h.lay rfl rfl rfl (λ_=>⟨a1,a2,λ_=>ok.2⟩)
 ·exact h.lay rfl rfl rfl (λ_=>⟨a1,a2,λ_=>ok.2.2⟩)
 ·exact h.lay rfl rfl rfl (λ_=>⟨a1,a2,λ_=>ok.2.2.2⟩)
 ·exact h.lay rfl rfl rfl (λ_=>⟨a1,a2,λ_=>ok⟩)
 ·exact h.lay rfl rfl rfl (λ_=>by
   split
   ·exact⟨a1,a2,λ_=>ok.2.1⟩
   ·exact⟨a1,a2,λ_=>ok.2.2⟩)
 ·exact h.lay rfl rfl rfl (λ_=>⟨a1,a2,λ_=>ok.2⟩)
 ·exact h.lay rfl rfl rfl (λ_=>⟨a1,a2,λ_=>ok.2.2⟩)
 ·split
  ·exact h.lay rfl rfl rfl (λ_=>⟨a1,a2,λ_=>ok.2.2.2⟩)
  ·intro g hg;simp only[St.wr,St.lay,St.to,St.put,cS];split
   ·next e=>subst e;exact⟨ok.2.1,ok.1,λ_=>hC.aaB _ ok.2.1⟩
   ·next e =>
    have Kg:g<s.nf:=by have:g<s.nf+1:=hg;omega
    split
    ·next e=>subst e;exact⟨a1,a2,λ_=>ok.2.2.2⟩
    ·exact h g Kg
 ·split
  ·intro g hg;simp only[St.wr,St.lay,St.to,St.put,St.holds,cS];split
   ·next e=>exact⟨a1,a2,λ_=>ok⟩
   ·exact h g hg
  ·intro g hg;simp only[St.wr,St.lay,St.to,St.put,St.holds,cS];split
   ·next e=>exact⟨a1,a2,λ_=>ok⟩
   ·exact h g hg
 ·split
  ·next e0 =>
   subst e0;intro g hg;simp only[St.wr,St.lay,St.to,St.put,St.holds,cS];split
   ·next e=>exact⟨a1,a2,λe=>by cases e⟩
   ·exact h g hg
  ·intro g hg;simp only[St.wr,St.lay,St.to,St.put,St.holds,cS];split
   ·next e=>exact⟨a1,a2,λe=>by cases e⟩
   ·exact h g hg
theorem FR.aJ(hC:C.OK)(h:FR C s)(hf:(view s).FI C.N C.F)(hd:DT C s)(hi:i<C.N)(d:Int):FR C (aJ C s i d).s:=by
 cases hp:s.pc i with
 | run=>unfold Am.aJ;rw[hp];exact FR.instr hC h hf hi hp
 | ru =>
  obtain⟨f,hh⟩:=sG hf hi (by rw[hp];rfl);unfold Am.aJ;rw[hp];simp only[hh,pK];exact h.put rfl rfl rfl (λ_=>(pZ hf hi hh).1)
 | out p c =>
  have hg:(view s).g i= .out p c:=by show sig (s.pc i)=_;rw[hp];rfl
  unfold Am.aJ;rw[hp];simp only;split
  ·rename_i hn;have hw:s.loc p= .waiting:=(hf.iV hi hg hn).1;have h1:FR C (s.put c .gone):=h.put rfl rfl rfl (λe=>by cases e);refine FR.put (f:=p) (l:=.uU i) h1 rfl rfl rfl (λ_ => ?_);show live (cI s.loc c .gone p)=true;rw[aM (hf.iV hi hg hn).2.2,hw];rfl
  ·exact h.put rfl rfl rfl (λe=>by cases e)
 | take p c =>
  have hg:(view s).g i= .take p c:=by show sig (s.pc i)=_;rw[hp];rfl
  unfold Am.aJ;rw[hp];simp only;exact h.put rfl rfl rfl (λ_=>by rw[show s.loc p= .uU i from hf.tk i p c hi hg];rfl)
 | ry c b =>
  have hg:(view s).g i= .push c:=by show sig (s.pc i)=_;rw[hp];rfl
  unfold Am.aJ;rw[hp];simp only;exact h.put rfl rfl rfl (λ_=>by rw[show s.loc c= .cr i from(hf.ps i c hi hg).2.1];rfl)
 | Eb b =>
  have P:=(hd.1 i hi).ph;unfold rz at P;rw[hp]at P;simp only at P;unfold Am.aJ;rw[hp];simp only;split
  ·rename_i hlt;have hne:s.q i≠[]:=by
    intro e;simp only[St.L,St.T,e,yX]at P;omega
   have hm:(s.q i).getLastD 0∈s.q i:=by
    rw[Mv,List.getLast?_eq_some_getLast hne];exact List.getLast_mem hne
   exact h.put rfl rfl rfl (λ_=>by rw[show s.loc _= .Ow i from(hf.q i _ hi hm).2];rfl)
  ·split<;>exact h.gV rfl rfl rfl
 | sF b t cc =>
  have P:=(hd.1 i hi).ph;unfold rz at P;rw[hp]at P;simp only at P;unfold Am.aJ;rw[hp];simp only;split
  ·rename_i hlt;obtain⟨x,hx,he⟩:=(P.1.2.2.2.1 hlt).2.2;rw[<-P.2]at he;rw[he];refine h.put (f:=x) (l:=.held i) rfl rfl (by simp only[got,St.put,St.n4,St.to,St.holds,cQ]) (λ_ => ?_);rw[show s.loc x= .pop i from(hf.pop i x hi hx).2];rfl
  ·exact h.gV rfl rfl rfl
 | uT b t x =>
  have P:=(hd.1 i hi).ph;unfold rz at P;rw[hp]at P;simp only at P;unfold Am.aJ;rw[hp];simp only;split
  ·rename_i ht;have hq:=(P.2.2.2.2.1 ht).1;exact h.put rfl rfl rfl (λ_=>by rw[show s.loc x.toNat= .Ow i from(hf.q i _ hi (by show x.toNat∈s.q i;rw[hq];simp)).2];rfl)
  ·exact h.gV rfl rfl rfl
 | tc t x BI =>
  have P:=(hd.1 i hi).ph;unfold rz at P;rw[hp]at P;simp only at P;unfold Am.aJ;rw[hp];simp only;split
  ·rename_i hw;exact h.put (f:=x.toNat) (l:=.held i) rfl rfl rfl (λ_=>by rw[show s.loc x.toNat= .pop i from(hf.pop i _ hi (P.2.2.2 hw).1).2];rfl)
  ·exact h.gV rfl rfl rfl
 | oK v t x =>
  have HT:=hd.2 i hi;unfold Th at HT;rw[hp]at HT;simp only at HT;unfold Am.aJ;rw[hp];simp only;split
  ·rename_i ht;obtain⟨y,l,hq,hx⟩:=HT.2.2.2 ht.symm;exact h.put (f:=x.toNat) (l:=.held i) rfl rfl rfl (λ_=>by rw[show s.loc x.toNat= .Ow v from(hf.q v _ HT.1 (by show x.toNat∈s.q v;rw[hq,hx];simp)).2];rfl)
  ·exact h.gV rfl rfl rfl
 | _ =>
  unfold Am.aJ;rw[hp];simp only[oX,looking,Dl]
  repeat' split
  all_goals exact h.gV rfl rfl rfl
end
def vW(C:kY):Nat->Nat
 | 0=>C.first
 | g+1=>min (2*vW C g) C.most
def mh:Pc->Bool
 | .p9 .. | .nM .. | .nU .. | .qP .. => true
 | _=>false
def gen(s:St)(j:Nat):Nat:=s.cur j+(if mh (s.pc j)then 1 else 0)
def tot(C:kY):Nat->Nat
 | 0=>0
 | g+1=>tot C g+1+vW C (g+1)
def S0(C:kY):Nat:=4+10*C.F+C.N+C.N*(4+C.first)
def xu(C:kY)(j:Nat):Nat:=4+10*C.F+C.N+j*(4+C.first)
def sS(f:Nat->Nat):Nat->Nat
 | 0=>0
 | n+1=>sS f n+f n
theorem Ec{f g:Nat->Nat}:∀{n:Nat},(∀j,j<n->f j=g j)->sS f n=sS g n
 | 0,_=>rfl
 | n+1,h=>by simp only[sS];rw[Ec (λj hj=>h j I),h n I]
theorem uE{f g:Nat->Nat}{i k:Nat}:∀{n:Nat},i<n->(∀j,j≠i->g j=f j)->g i=f i+k->sS g n=sS f n+k
 | n+1,hi,h,e=>by
  simp only[sS];by_cases hn:i=n
  ·subst hn;rw[Ec (f:=g) (g:=f) (λj hj=>h j I),e];omega
  ·rw[uE (n:=n) I h e,h n I];omega
theorem Q2{f:Nat->Nat}{k:Nat}:∀{n:Nat},(∀j,j<n->f j<=k)->sS f n<=n*k
 | 0,_=>by simp[sS]
 | n+1,h=>by simp only[sS];have:=Q2 (n:=n) (λj hj=>h j I);have:=h n I;rw[Gw];omega
theorem Bl(C:kY)(g:Nat):jF C (vW C g)=(vW C (g+1):Int):=by
 unfold jF;simp only[vW];split<;>omega
theorem HC{C:kY}(h:C.OK):∀g,1<=vW C g
 | 0=>h.c1
 | g+1=>by have:=HC h g;have:=h.c1;have:=h.cm;simp only[vW];omega
theorem Pr{C:kY}(h:C.OK):∀g,vW C g<=C.most
 | 0=>h.cm
 | g+1=>by simp only[vW];omega
structure SZ(C:kY)(s:St):Prop where
 cap:∀j,j<C.N->∀g,g<=s.cur j->s.mem (.cap j g)=vW C g
 Vi:∀j,j<C.N->s.base j 0=xu C j+3
 size:s.size=S0 C+sS (λj=>tot C (gen s j)) C.N
 bs:∀j,j<C.N->∀g,1<=g->g<=gen s j->(S0 C:Int)<=s.base j g/\s.base j g+1+vW C g<=s.size
 dj:∀j j' g g',j<C.N->j'<C.N->1<=g->1<=g'->g<=gen s j->g'<=gen s j'->(j≠j'∨g≠g')->s.base j g+1+vW C g<=s.base j' g'∨s.base j' g'+1+vW C g'<=s.base j g
 gm:∀j,j<C.N->∀g,g<gen s j->vW C g<C.most
section
variable {C:kY}{s:St}{i:Nat}
theorem SZ.of{s':St}(h:SZ C s)(h1:s'.cur=s.cur)(h2:∀j,mh (s'.pc j)=mh (s.pc j))(h3:s'.base=s.base)(h4:s'.size=s.size)
 (h5:∀j g,g<=s.cur j->s'.mem (.cap j g)=s.mem (.cap j g)):SZ C s':=by
 obtain⟨a1,a2,a3,a4,a5,a6⟩:=h;have hg:gen s'=gen s:=by funext j;unfold gen;rw[h1,h2]
 exact⟨λj hj g Ps=>by rw[h1]at Ps;rw[h5 j g Ps];exact a1 j hj g Ps,by rw[h3];exact a2,by rw[h4,hg];exact a3,by rw[h3,h4,hg];exact a4,by rw[h3,hg];exact a5,by rw[hg];exact a6⟩
def vN.Q3:vN->Bool
 | .cap .. => true
 | _=>false
theorem NO{s':St}{p:Pc}(h:s'.pc=cI s.pc i p)(hp:mh p=mh (s.pc i))(j:Nat):mh (s'.pc j)=mh (s.pc j):=by
 rw[h,cS];split
 ·next e=>rw[e,hp]
 ·rfl
theorem SZ.gV{s':St}{p:Pc}(h:SZ C s)(hp:s'.pc=cI s.pc i p)(hg:mh p=mh (s.pc i))(h1:s'.cur=s.cur)(h3:s'.base=s.base)(h4:s'.size=s.size)
 (hm:∀a,a.Q3=true->s'.mem a=s.mem a):SZ C s':=
 h.of h1 (NO hp hg) h3 h4 (λ_ _ _=>hm _ rfl)
theorem xw{a x:vN}{v:Int}(h:a.Q3=false):x.Q3=true->(s.wr a v).mem x=s.mem x:=λhx=>oc (by rintro rfl;rw[h]at hx;cases hx)
theorem SZ.same{s':St}(h:SZ C s)(hp:s'.pc=s.pc)(h1:s'.cur=s.cur)(h3:s'.base=s.base)(h4:s'.size=s.size)
 (hm:∀a,a.Q3=true->s'.mem a=s.mem a):SZ C s':=
 h.of h1 (λj=>by rw[hp]) h3 h4 (λ_ _ _=>hm _ rfl)
theorem SZ.instr(h:SZ C s)(hp:s.pc i= .run):SZ C (instr C s i).s:=by
 unfold Am.instr;simp only;split
 ·exact h.same rfl rfl rfl rfl (λ_ _=>rfl)
 ·exact h.same rfl rfl rfl rfl (λ_ _=>rfl)
 ·exact h.same rfl rfl rfl rfl (λ_ _=>rfl)
 ·exact h.same rfl rfl rfl rfl (λ_ _=>rfl)
 ·exact h.same rfl rfl rfl rfl (λ_ _=>rfl)
 ·exact h.same rfl rfl rfl rfl (λ_ _=>rfl)
 ·exact h.same rfl rfl rfl rfl (λ_ _=>rfl)
 ·split<;>exact h.gV rfl (by rw[hp];rfl) rfl rfl rfl (λ_=>xw rfl)
 ·split<;>exact h.gV rfl (by rw[hp];rfl) rfl rfl rfl (λ_=>xw rfl)
 ·split<;>exact h.gV rfl (by rw[hp];rfl) rfl rfl rfl (λ_=>xw rfl)
theorem Gf(h:SZ C s)(hi:i<C.N):s.cc i=vW C (s.cur i):=h.cap i hi _ (jU _)
theorem SZ.aJ(hC:C.OK)(h:SZ C s)(hd:DT C s)(hi:i<C.N)(d:Int):SZ C (aJ C s i d).s:=by
 have P:=(hd.1 i hi).ph;cases hp:s.pc i with
 | run=>unfold Am.aJ;rw[hp];exact h.instr hp
 | halted=>unfold Am.aJ;rw[hp];exact h
 | full=>unfold Am.aJ;rw[hp];exact h
 | parked =>
  unfold Am.aJ;rw[hp];simp only;split
  ·exact h
  ·exact h.gV rfl (by rw[hp];split<;>rfl) rfl rfl rfl (λ_ _=>rfl)
 | grow c b t cc =>
  unfold rz at P;rw[hp]at P;simp only at P;have hg:gen s i=s.cur i:=by unfold gen;rw[hp];rfl
  have Tq:cc=vW C (s.cur i):=by rw[P.2.2.2.2.1];exact Gf h hi
  have hb:jF C cc=vW C (s.cur i+1):=by rw[Tq];exact Bl C _
  unfold Am.aJ;rw[hp];simp only;obtain⟨a1,a2,a3,a4,a5,a6⟩:=h;have hs:(S0 C:Int)<=s.size:=by rw[a3];omega
  refine⟨?_,?_,?_,?_,?_,?_⟩
  ·intro j hj g Ps;simp only[St.to]at Ps⊢;rw[cu (by rintro⟨rfl,rfl⟩;omega)];exact a1 j hj g Ps
  ·intro j hj;simp only[St.to,cS];split
   ·next e=>subst e;rw[aM I];exact a2 j hj
   ·exact a2 j hj
  ·simp only[St.to];rw[uE (f:=λj=>tot C (gen s j)) (i:=i) (k:=1+vW C (s.cur i+1)) hi,a3,hb]
   ·omega
   ·intro j hj;unfold gen;simp only[aM hj]
   ·unfold gen;simp only[aU,mh,if_true,hp];simp only[tot,Kc,if_false,Gs];omega
  ·intro j hj g h1 h2;simp only[St.to]at h2⊢;by_cases e:j=i
   ·subst e;simp only[gen,aU,mh,if_true]at h2;simp only[aU];by_cases e2:g=s.cur j+1
    ·subst e2;rw[aU,hb];exact⟨hs,I⟩
    ·rw[aM e2,hb];have:=a4 j hj g h1 (by rw[hg];omega);exact⟨this.1,I⟩
   ·simp only[gen,aM e]at h2;simp only[aM e];have:=a4 j hj g h1 (by unfold gen;exact h2);exact⟨this.1,I⟩
  ·intro j j' g g' hj hj' h1 h1' h2 h2' hne;simp only[St.to]at h2 h2'⊢;have key:∀k x,k<C.N->1<=x->x<=gen s k->s.base k x+1+vW C x<=s.size:=λk x hk h1 h2=>(a4 k hk x h1 h2).2;have gk:∀k x,x<=gen {s with base:=cI s.base i (cI (s.base i) (s.cur i+1) s.size),pc:=cI s.pc i (.p9 c b t cc)} k->(k=i/\x=s.cur i+1)∨(x<=gen s k/\¬(k=i/\x=s.cur i+1)):=by
    intro k x hx;by_cases e:k=i
    ·subst e;simp only[gen,aU,mh,if_true]at hx;by_cases e2:x=s.cur k+1
     ·exact .inl ⟨rfl,e2⟩
     ·exact .inr ⟨by rw[hg];omega,λh=>e2 h.2⟩
    ·simp only[gen,aM e]at hx;exact .inr ⟨hx,λh=>e h.1⟩
   have bk:∀k x,¬(k=i/\x=s.cur i+1)->cI s.base i (cI (s.base i) (s.cur i+1) s.size) k x=s.base k x:=by
    intro k x hx;simp only[cS];split
    ·next e=>subst e;rw[aM (λe=>hx ⟨rfl,e⟩)]
    ·rfl
   have bn:cI s.base i (cI (s.base i) (s.cur i+1) s.size) i (s.cur i+1)=s.size:=by rw[aU,aU]
   rcases gk j g h2 with ⟨rfl,rfl⟩ | ⟨c1,c2⟩
   ·rcases gk j' g' h2' with ⟨rfl,rfl⟩ | ⟨c1',c2'⟩
    ·simp at hne
    ·right;rw[bn,bk _ _ c2'];exact key j' g' hj' h1' c1'
   ·rcases gk j' g' h2' with ⟨rfl,rfl⟩ | ⟨c1',c2'⟩
    ·left;rw[bn,bk _ _ c2];exact key j g hj h1 c1
    ·rw[bk _ _ c2,bk _ _ c2'];exact a5 j j' g g' hj hj' h1 h1' c1 c1' hne
  ·intro j hj g Ps;simp only[St.to]at Ps;by_cases e:j=i
   ·subst e;simp only[gen,aU,mh,if_true]at Ps;by_cases e2:g=s.cur j
    ·have:=P.2.2.2.2.2.2;rw[Tq]at this;rw[e2];omega
    ·exact a6 j hj g (by rw[hg];omega)
   ·simp only[gen,aM e]at Ps;exact a6 j hj g Ps
 | p9 c b t cc =>
  unfold Am.aJ;rw[hp];simp only;refine h.of rfl (NO (p:=.nM c b t cc t) rfl (by rw[hp];rfl)) rfl rfl (λj g hg=>oc (by intro e;cases e;omega))
 | nU c b t cc n x =>
  unfold Am.aJ;rw[hp];simp only;exact h.gV rfl (by rw[hp];split<;>rfl) rfl rfl rfl (λ_=>xw rfl)
 | qP c b t cc =>
  unfold rz at P;rw[hp]at P;simp only at P;have hcap:=P.2.1;rw[Gf h hi,Bl]at hcap;unfold Am.aJ;rw[hp];simp only;obtain⟨a1,a2,a3,a4,a5,a6⟩:=h;have hg:gen {s.wr (.buf i) (s.base i (s.cur i+1))with cur:=cI s.cur i (s.cur i+1),pc:=cI s.pc i (.nN c b (jF C cc))}=gen s:=by
   funext j;unfold gen
   by_cases e:j=i
   ·subst e;simp only[aU,hp,mh,if_true];rfl
   ·simp only[aM e]
  have Kg:gen (({s.wr (.buf i) (s.base i (s.cur i+1))with cur:=cI s.cur i (s.cur i+1)}:St).to i (.nN c b (jF C cc)))=gen s:=hg;refine⟨?_,a2,by rw[Kg];exact a3,by rw[Kg];exact a4,by rw[Kg];exact a5,by rw[Kg];exact a6⟩;intro j hj g Ps;show cI s.mem (.buf i) (s.base i (s.cur i+1)) (.cap j g)=_;rw[aM (by simp)];by_cases e:j=i
  ·subst e;simp only[St.to,aU]at Ps;by_cases e2:g=s.cur j+1
   ·rw[e2];exact hcap
   ·exact a1 j hj g I
  ·simp only[St.to,aM e]at Ps;exact a1 j hj g Ps
 | back b =>
  unfold Am.aJ;rw[hp];simp only[Dl];split
  ·exact h.gV rfl (by rw[hp];rfl) rfl rfl rfl (λ_=>xw rfl)
  ·split
   ·exact h.gV rfl (by rw[hp];rfl) rfl rfl rfl (λ_ _=>rfl)
   ·exact h.gV rfl (by rw[hp];split<;>rfl) rfl rfl rfl (λ_ _=>rfl)
 | xZ b =>
  unfold Am.aJ;rw[hp];simp only[Dl];split
  ·exact h.gV rfl (by rw[hp];rfl) rfl rfl rfl (λ_=>xw rfl)
  ·exact h.gV rfl (by rw[hp];split<;>rfl) rfl rfl rfl (λ_=>xw rfl)
 | rN t =>
  unfold Am.aJ;rw[hp];simp only;exact h.gV rfl (by rw[hp];split<;>rfl) rfl rfl rfl (λ_=>xw rfl)
 | tc t x BI =>
  unfold Am.aJ;rw[hp];simp only;split
  ·exact h.gV rfl (by rw[hp];rfl) rfl rfl rfl (λ_=>xw rfl)
  ·exact h.gV rfl (by rw[hp];split<;>rfl) rfl rfl rfl (λ_=>xw rfl)
 | IY =>
  unfold Am.aJ;rw[hp];simp only;exact h.gV rfl (by rw[hp];split<;>rfl) rfl rfl rfl (λ_ _=>rfl)
 | vG j =>
  unfold Am.aJ;rw[hp];simp only;split
  ·exact h.gV rfl (by rw[hp];rfl) rfl rfl rfl (λ_=>xw rfl)
  ·exact h.gV rfl (by rw[hp];split<;>rfl) rfl rfl rfl (λ_ _=>rfl)
 | Gc =>
  unfold Am.aJ;rw[hp];simp only;split
  ·exact h.gV rfl (by rw[hp];rfl) rfl rfl rfl (λ_ _=>rfl)
  ·exact h.gV rfl (by rw[hp];split<;>rfl) rfl rfl rfl (λ_ _=>rfl)
 | _ =>
  unfold Am.aJ;rw[hp];simp only[oX,looking,Dl]
  repeat' split
  all_goals first
   | exact h.gV rfl (by rw[hp];rfl) rfl rfl rfl (λ_ _=>rfl)
   | exact h.gV rfl (by rw[hp];rfl) rfl rfl rfl (λ_=>xw rfl)
end
def vN.NP:vN->Bool
 | .next | .join _ | .mark _ | .ve | .top _ | .bot _=>true
 | _=>false
def hH:Pc->List Int
 | .BE _ b=>[b]
 | .uJ _ b t | .uK _ b t | .grow _ b t _ | .p9 _ b t _ | .qP _ b t _=>[b,t]
 | .nM _ b t _ n | .nU _ b t _ n _=>[b,t,n]
 | .nN _ b _ | .ry _ b=>[b]
 | .yE b | .sQ b | .Eb b=>[b]
 | .rN t=>[t]
 | .wo b t | .sF b t _ | .uT b t _=>[b,t]
 | .tc t _ _=>[t]
 | .xq _ t | .sR _ t | .rO _ t _ | .pG _ t _ _ | .oK _ t _=>[t]
 | .E4 _ t=>[t]
 | _=>[]
def LU(x:Int)(n:Nat):Prop:=-(n:Int)<=x/\x<=n
structure BD(s:St)(n:Nat):Prop where
 m:∀a,a.NP=true->LU (s.mem a) (n+1)
 r:∀i,∀x∈hH (s.pc i),LU x (n+1)
 k:∀f,(s.fr f).bC<=n
section
variable {C:kY}{s:St}{i n:Nat}
theorem LU.mono{x:Int}{m:Nat}(h:LU x n)(hm:n<=m):LU x m:=⟨by have:=h.1;omega,by have:=h.2;omega⟩
theorem LU.inc{x:Int}(h:LU x n):LU (x+1) (n+1):=⟨by have:=h.1;omega,by have:=h.2;omega⟩
theorem LU.dec{x:Int}(h:LU x n):LU (x-1) (n+1):=⟨by have:=h.1;omega,by have:=h.2;omega⟩
theorem BD.of{s':St}{p:Pc}(h:BD s n)(hm:∀a,a.NP=true->LU (s'.mem a) (n+2))(hp:s'.pc=cI s.pc i p)(hr:∀x∈hH p,LU x (n+2))(hk:∀f,(s'.fr f).bC<=n+1):BD s' (n+1):=
 ⟨hm,λj x hx=>by
  rw[hp,cS]at hx;split at hx
  ·exact hr x hx
  ·exact(h.r j x hx).mono I,hk⟩
theorem BD.mem(h:BD s n){a:vN}(ha:a.NP=true):LU (s.mem a) (n+2):=(h.m a ha).mono I
theorem BD.wr(h:BD s n){b:vN}{v:Int}(hv:b.NP=true->LU v (n+2)):∀a,a.NP=true->LU ((s.wr b v).mem a) (n+2):=λa ha=>by
 show LU (cI s.mem b v a) _;rw[cS];split
 ·next e=>exact hv (e▸ ha)
 ·exact h.mem ha
theorem BD.bC(h:BD s n)(f:Nat):(s.fr f).bC<=n+1:=Nat.le_succ_of_le (h.k f)
theorem BD.lay(h:BD s n){g:Nat}{x:Fr}(hx:x.bC<=n+1)(f:Nat):((s.lay g x).fr f).bC<=n+1:=by
 show(cI s.fr g x f).bC<=_;rw[cS];split
 ·exact hx
 ·exact h.bC f
theorem BD.aJ(h:BD s n)(d:Int):BD (aJ C s i d).s (n+1):=by
 have R:=h.r i;cases hp:s.pc i with
 | run =>
  unfold Am.aJ;rw[hp];simp only;unfold instr;simp only;split
  ·exact h.of (p:=s.pc i) (λa ha=>h.mem ha) (rQ _ _).symm (λx hx=>(R x hx).mono I) (h.lay (h.bC _))
  ·exact h.of (p:=s.pc i) (λa ha=>h.mem ha) (rQ _ _).symm (λx hx=>(R x hx).mono I) (h.lay (h.bC _))
  ·exact h.of (p:=s.pc i) (λa ha=>h.mem ha) (rQ _ _).symm (λx hx=>(R x hx).mono I) (h.lay (h.bC _))
  ·exact h.of (p:=s.pc i) (λa ha=>h.mem ha) (rQ _ _).symm (λx hx=>(R x hx).mono I) (h.lay (h.bC _))
  ·exact h.of (p:=s.pc i) (λa ha=>h.mem ha) (rQ _ _).symm (λx hx=>(R x hx).mono I) (h.lay (by split<;>exact h.bC _))
  ·exact h.of (p:=s.pc i) (λa ha=>h.mem ha) (rQ _ _).symm (λx hx=>(R x hx).mono I) (h.lay (h.bC _))
  ·exact h.of (p:=s.pc i) (λa ha=>h.mem ha) (rQ _ _).symm (λx hx=>(R x hx).mono I) (h.lay (h.bC _))
  ·split
   ·exact h.of (h.wr (λ_=>(h.m .next rfl).inc)) rfl (λx hx=>by cases hx) (h.lay (h.bC _))
   ·refine h.of (h.wr (λ_=>(h.m .next rfl).inc)) rfl (λx hx=>by cases hx) (λf => ?_);simp only[St.lay,St.wr,St.to,St.put,cS];have k1:=h.k ((s.hold i).getD 0);have k2:=h.bC f;split
    ·exact Et _
    ·split
     ·exact Nat.succ_le_succ k1
     ·exact k2
  ·split<;>exact h.of (h.wr (λ_=>(h.m (.join _) rfl).dec)) rfl (λx hx=>by cases hx) (h.lay (h.bC _))
  ·split<;>exact h.of (h.wr (λe=>by cases e)) rfl (λx hx=>by cases hx) (h.lay (h.bC _))
 | halted=>unfold Am.aJ;rw[hp];exact h.of (p:=s.pc i) (λa ha=>h.mem ha) (rQ _ _).symm (λx hx=>(R x hx).mono I) h.bC
 | full=>unfold Am.aJ;rw[hp];exact h.of (p:=s.pc i) (λa ha=>h.mem ha) (rQ _ _).symm (λx hx=>(R x hx).mono I) h.bC
 | parked =>
  unfold Am.aJ;rw[hp];simp only;split
  ·exact h.of (p:=s.pc i) (λa ha=>h.mem ha) (rQ _ _).symm (λx hx=>(R x hx).mono I) h.bC
  ·exact h.of (λa ha=>h.mem ha) rfl (by intro x hx;split at hx<;>cases hx) h.bC
 | grow c b t cc =>
  unfold Am.aJ;rw[hp];simp only;rw[hp]at R;refine h.of (λa ha => ?_) rfl (λx hx=>(R x hx).mono I) h.bC;cases a<;>first | exact h.mem ha | cases ha
 | start x=>unfold Am.aJ;rw[hp];exact h.of (h.wr (λ_=>(h.m (.mark _) rfl).inc)) rfl (λx hx=>by cases hx) h.bC
 | fork c=>unfold Am.aJ;rw[hp];exact h.of (h.wr (λ_=>(h.m (.join _) rfl).inc)) rfl (λx hx=>by cases hx) h.bC
 | ru=>unfold Am.aJ;rw[hp];exact h.of (h.wr (λ_=>⟨I,I⟩)) rfl (λx hx=>by cases hx) h.bC
 | out p c=>unfold Am.aJ;rw[hp];simp only;split<;>exact h.of (h.wr (λ_=>(h.m (.join _) rfl).dec)) rfl (λx hx=>by cases hx) h.bC
 | take p c=>unfold Am.aJ;rw[hp];exact h.of (h.wr (λ_=>⟨I,I⟩)) rfl (λx hx=>by cases hx) h.bC
 | done=>unfold Am.aJ;rw[hp];simp only[oX];split<;>exact h.of (h.wr (λe=>by cases e)) rfl (λx hx=>by cases hx) h.bC
 | tell j =>
  unfold Am.aJ;rw[hp];simp only[oX];split
  ·exact h.of (h.wr (λe=>by cases e)) rfl (λx hx=>by cases hx) h.bC
  ·split<;>exact h.of (λa ha=>h.mem ha) rfl (λx hx=>by cases hx) h.bC
 | zj j=>unfold Am.aJ;rw[hp];simp only[oX];split<;>exact h.of (h.wr (λ_=>(h.m .ve rfl).dec)) rfl (λx hx=>by cases hx) h.bC
 | DL c=>unfold Am.aJ;rw[hp];exact h.of (λa ha=>h.mem ha) rfl (λx hx=>by rw[List.mem_singleton.1 hx];exact h.mem (a:=.bot i) rfl) h.bC
 | BE c b =>
  unfold Am.aJ;rw[hp];rw[hp]at R;simp only;exact h.of (λa ha=>h.mem ha) rfl (λx hx=>by
   simp only[hH,tV,tW,tX]at hx;rcases hx with rfl | rfl
   ·exact(R _ (by simp[hH])).mono I
   ·exact h.mem (a:=.top i) rfl) h.bC
 | uJ c b t =>
  unfold Am.aJ;rw[hp];rw[hp]at R;simp only;exact h.of (λa ha=>h.mem ha) rfl (λx hx=>by
   simp only[hH,tV,tW,tX]at hx;rcases hx with rfl | rfl
   ·exact(R _ (by simp[hH])).mono I
   ·exact(R _ (by simp[hH])).mono I) h.bC
 | uK c b t =>
  unfold Am.aJ;rw[hp];rw[hp]at R;simp only;split
  ·exact h.of (λa ha=>h.mem ha) rfl (λx hx=>by rw[List.mem_singleton.1 hx];exact(R _ (by simp[hH])).mono I) h.bC
  ·split
   ·exact h.of (λa ha=>h.mem ha) rfl (λx hx=>by cases hx) h.bC
   ·exact h.of (λa ha=>h.mem ha) rfl (λx hx=>by
    simp only[hH,tV,tW,tX]at hx;rcases hx with rfl | rfl
    ·exact(R _ (by simp[hH])).mono I
    ·exact(R _ (by simp[hH])).mono I) h.bC
 | p9 c b t cc =>
  unfold Am.aJ;rw[hp];rw[hp]at R;simp only;exact h.of (h.wr (λe=>by cases e)) rfl (λx hx=>by
   simp only[hH,tV,tW,tX]at hx;rcases hx with rfl | rfl | rfl
   ·exact(R _ (by simp[hH])).mono I
   ·exact(R _ (by simp[hH])).mono I
   ·exact(R _ (by simp[hH])).mono I) h.bC
 | nM c b t cc n =>
  unfold Am.aJ;rw[hp];rw[hp]at R;simp only;exact h.of (λa ha=>h.mem ha) rfl (λx hx=>by
   simp only[hH,tV,tW,tX]at hx;rcases hx with rfl | rfl | rfl
   ·exact(R _ (by simp[hH])).mono I
   ·exact(R _ (by simp[hH])).mono I
   ·exact(R _ (by simp[hH])).mono I) h.bC
 | nU c b t cc n x =>
  unfold Am.aJ;rw[hp];rw[hp]at R;simp only;refine h.of (h.wr (λe=>by cases e)) rfl (λy hy => ?_) h.bC;split at hy
  ·simp only[hH,tV,tW,tX]at hy;rcases hy with rfl | rfl | rfl
   ·exact(R _ (by simp[hH])).mono I
   ·exact(R _ (by simp[hH])).mono I
   ·exact(R n (by simp[hH])).inc
  ·simp only[hH,tV,tW,tX]at hy;rcases hy with rfl | rfl
   ·exact(R _ (by simp[hH])).mono I
   ·exact(R _ (by simp[hH])).mono I
 | qP c b t cc =>
  unfold Am.aJ;rw[hp];rw[hp]at R;simp only;exact h.of (h.wr (λe=>by cases e)) rfl (λx hx=>by rw[List.mem_singleton.1 hx];exact(R _ (by simp[hH])).mono I) h.bC
 | nN c b cc =>
  unfold Am.aJ;rw[hp];rw[hp]at R;simp only;exact h.of (h.wr (λe=>by cases e)) rfl (λx hx=>by rw[List.mem_singleton.1 hx];exact(R _ (by simp[hH])).mono I) h.bC
 | ry c b =>
  unfold Am.aJ;rw[hp];rw[hp]at R;simp only;exact h.of (h.wr (λ_=>(R b (by simp[hH])).inc)) rfl (λx hx=>by cases hx) h.bC
 | IY =>
  unfold Am.aJ;rw[hp];rw[hp]at R;simp only;refine h.of (λa ha=>h.mem ha) rfl (λy hy => ?_) h.bC;split at hy<;>cases hy
 | vG j =>
  unfold Am.aJ;rw[hp];rw[hp]at R;simp only;split
  ·exact h.of (h.wr (λe=>by cases e)) rfl (λx hx=>by cases hx) h.bC
  ·refine h.of (λa ha=>h.mem ha) rfl (λy hy => ?_) h.bC;split at hy<;>cases hy
 | xY j =>
  unfold Am.aJ;rw[hp];rw[hp]at R;simp only;exact h.of (h.wr (λ_=>(h.m .ve rfl).dec)) rfl (λx hx=>by cases hx) h.bC
 | E3 =>
  unfold Am.aJ;rw[hp];rw[hp]at R;simp only;exact h.of (λa ha=>h.mem ha) rfl (λx hx=>by rw[List.mem_singleton.1 hx];exact(h.m (.bot i) rfl).dec) h.bC
 | yE b =>
  unfold Am.aJ;rw[hp];rw[hp]at R;simp only;exact h.of (λa ha=>h.mem ha) rfl (λx hx=>by rw[List.mem_singleton.1 hx];exact(R _ (by simp[hH])).mono I) h.bC
 | sQ b =>
  unfold Am.aJ;rw[hp];rw[hp]at R;simp only;exact h.of (h.wr (λ_=>(R b (by simp[hH])).mono I)) rfl (λx hx=>by rw[List.mem_singleton.1 hx];exact(R _ (by simp[hH])).mono I) h.bC
 | Eb b =>
  unfold Am.aJ;rw[hp];rw[hp]at R;simp only;split
  ·exact h.of (λa ha=>h.mem ha) rfl (λx hx=>by
   simp only[hH,tV,tW,tX]at hx;rcases hx with rfl | rfl
   ·exact(R _ (by simp[hH])).mono I
   ·exact h.mem (a:=.top i) rfl) h.bC
  ·split
   ·exact h.of (λa ha=>h.mem ha) rfl (λx hx=>by
    simp only[hH,tV,tW,tX]at hx;rcases hx with rfl | rfl
    ·exact(R _ (by simp[hH])).mono I
    ·exact h.mem (a:=.top i) rfl) h.bC
   ·exact h.of (λa ha=>h.mem ha) rfl (λx hx=>by rw[List.mem_singleton.1 hx];exact h.mem (a:=.top i) rfl) h.bC
 | rN t =>
  unfold Am.aJ;rw[hp];rw[hp]at R;simp only;refine h.of (h.wr (λ_=>(R t (by simp[hH])).mono I)) rfl (λy hy => ?_) h.bC;split at hy<;>cases hy
 | wo b t =>
  unfold Am.aJ;rw[hp];rw[hp]at R;simp only;exact h.of (λa ha=>h.mem ha) rfl (λx hx=>by
   simp only[hH,tV,tW,tX]at hx;rcases hx with rfl | rfl
   ·exact(R _ (by simp[hH])).mono I
   ·exact(R _ (by simp[hH])).mono I) h.bC
 | sF b t cc =>
  unfold Am.aJ;rw[hp];rw[hp]at R;simp only;split
  ·exact h.of (λa ha=>h.mem ha) rfl (λx hx=>by cases hx) h.bC
  ·exact h.of (λa ha=>h.mem ha) rfl (λx hx=>by
   simp only[hH,tV,tW,tX]at hx;rcases hx with rfl | rfl
   ·exact(R _ (by simp[hH])).mono I
   ·exact(R _ (by simp[hH])).mono I) h.bC
 | uT b t x =>
  unfold Am.aJ;rw[hp];rw[hp]at R;simp only;split
  ·exact h.of (h.wr (λ_=>(R t (by simp[hH])).inc)) rfl (λx hx=>by rw[List.mem_singleton.1 hx];exact(R _ (by simp[hH])).mono I) h.bC
  ·exact h.of (λa ha=>h.mem ha) rfl (λx hx=>by rw[List.mem_singleton.1 hx];exact(R _ (by simp[hH])).mono I) h.bC
 | tc t x BI =>
  unfold Am.aJ;rw[hp];rw[hp]at R;simp only;split
  ·exact h.of (h.wr (λ_=>(R t (by simp[hH])).inc)) rfl (λx hx=>by cases hx) h.bC
  ·refine h.of (h.wr (λ_=>(R t (by simp[hH])).inc)) rfl (λy hy => ?_) h.bC;split at hy<;>cases hy
 | oB =>
  unfold Am.aJ;rw[hp];rw[hp]at R;simp only;exact h.of (λa ha=>h.mem ha) rfl (λx hx=>by rw[List.mem_singleton.1 hx];exact h.mem (a:=.top _) rfl) h.bC
 | xq v t =>
  unfold Am.aJ;rw[hp];rw[hp]at R;simp only;split
  ·exact h.of (λa ha=>h.mem ha) rfl (λx hx=>by cases hx) h.bC
  ·exact h.of (λa ha=>h.mem ha) rfl (λx hx=>by rw[List.mem_singleton.1 hx];exact(R _ (by simp[hH])).mono I) h.bC
 | sR v t =>
  unfold Am.aJ;rw[hp];rw[hp]at R;simp only;exact h.of (λa ha=>h.mem ha) rfl (λx hx=>by rw[List.mem_singleton.1 hx];exact(R _ (by simp[hH])).mono I) h.bC
 | rO v t g =>
  unfold Am.aJ;rw[hp];rw[hp]at R;simp only;exact h.of (λa ha=>h.mem ha) rfl (λx hx=>by rw[List.mem_singleton.1 hx];exact(R _ (by simp[hH])).mono I) h.bC
 | pG v t g cc =>
  unfold Am.aJ;rw[hp];rw[hp]at R;simp only;exact h.of (λa ha=>h.mem ha) rfl (λx hx=>by rw[List.mem_singleton.1 hx];exact(R _ (by simp[hH])).mono I) h.bC
 | oK v t x =>
  unfold Am.aJ;rw[hp];rw[hp]at R;simp only;split
  ·exact h.of (h.wr (λ_=>(R t (by simp[hH])).inc)) rfl (λx hx=>by cases hx) h.bC
  ·exact h.of (λa ha=>h.mem ha) rfl (λx hx=>by cases hx) h.bC
 | Gc =>
  unfold Am.aJ;rw[hp];rw[hp]at R;simp only;split
  ·exact h.of (λa ha=>h.mem ha) rfl (λx hx=>by cases hx) h.bC
  ·refine h.of (λa ha=>h.mem ha) rfl (λy hy => ?_) h.bC;split at hy<;>cases hy
 | flag =>
  unfold Am.aJ;rw[hp];rw[hp]at R;simp only;exact h.of (h.wr (λe=>by cases e)) rfl (λx hx=>by cases hx) h.bC
 | sleep =>
  unfold Am.aJ;rw[hp];rw[hp]at R;simp only;exact h.of (h.wr (λ_=>(h.m .ve rfl).inc)) rfl (λx hx=>by cases hx) h.bC
 | wZ =>
  unfold Am.aJ;rw[hp];rw[hp]at R;simp only[looking];split
  ·exact h.of (λa ha=>h.mem ha) rfl (λx hx=>by cases hx) h.bC
  ·split<;>exact h.of (λa ha=>h.mem ha) rfl (λx hx=>by cases hx) h.bC
 | GF j =>
  unfold Am.aJ;rw[hp];rw[hp]at R;simp only;exact h.of (λa ha=>h.mem ha) rfl (λx hx=>by rw[List.mem_singleton.1 hx];exact h.mem (a:=.top j) rfl) h.bC
 | E4 j t =>
  unfold Am.aJ;rw[hp];rw[hp]at R;simp only[looking];split
  ·exact h.of (λa ha=>h.mem ha) rfl (λx hx=>by cases hx) h.bC
  ·split<;>exact h.of (λa ha=>h.mem ha) rfl (λx hx=>by cases hx) h.bC
 | back b =>
  unfold Am.aJ;rw[hp];rw[hp]at R;simp only[Dl];split
  ·exact h.of (h.wr (λe=>by cases e)) rfl (λx hx=>by cases hx) h.bC
  ·split
   ·exact h.of (λa ha=>h.mem ha) rfl (λx hx=>by cases hx) h.bC
   ·refine h.of (λa ha=>h.mem ha) rfl (λy hy => ?_) h.bC;split at hy<;>cases hy
 | xZ b =>
  unfold Am.aJ;rw[hp];rw[hp]at R;simp only[Dl];split
  ·exact h.of (h.wr (λ_=>(h.m .ve rfl).dec)) rfl (λx hx=>by cases hx) h.bC
  ·refine h.of (h.wr (λ_=>(h.m .ve rfl).dec)) rfl (λy hy => ?_) h.bC;split at hy<;>cases hy
end
def Gg(C:kY)(s:St):vN->Prop
 | .result | .next | .ve | .Gb=>True
 | .join f | .mark f=>f<C.F
 | .slot f k=>f<C.F/\k<8
 | .flag i | .top i | .bot i | .buf i=>i<C.N
 | .cap i g=>i<C.N/\g<=gen s i
 | .el i g n=>i<C.N/\g<=gen s i/\n<vW C g
def cH(C:kY)(s:St):vN->Int
 | .result=>0
 | .next=>1
 | .join f=>2+10*f
 | .mark f=>3+10*f
 | .slot f k=>4+10*f+k
 | .ve=>2+10*C.F
 | .Gb=>3+10*C.F
 | .flag i=>4+10*C.F+i
 | .top i=>xu C i
 | .bot i=>xu C i+1
 | .buf i=>xu C i+2
 | .cap i g=>s.base i g
 | .el i g n=>s.base i g+1+n
inductive Pu | fix (x:Int) | dq (i r:Nat) | gr (i g r:Nat)
def NQ(C:kY):vN->Pu
 | .result=>.fix 0
 | .next=>.fix 1
 | .join f=>.fix (2+10*f)
 | .mark f=>.fix (3+10*f)
 | .slot f k=>.fix (4+10*f+k)
 | .ve=>.fix (2+10*C.F)
 | .Gb=>.fix (3+10*C.F)
 | .flag i=>.fix (4+10*C.F+i)
 | .top i=>.dq i 0
 | .bot i=>.dq i 1
 | .buf i=>.dq i 2
 | .cap i g=>if g=0 then .dq i 3 else .gr i g 0
 | .el i g n=>if g=0 then .dq i (4+n)else .gr i g (1+n)
section
variable {C:kY}{s:St}
theorem LV{i:Nat}(h:i<C.N):xu C i+(4+C.first)<=S0 C:=by
 unfold xu S0;have:(i+1)*(4+C.first)<=C.N*(4+C.first):=sH _ h;rw[Gw]at this;omega
theorem Q4(i:Nat):4+10*C.F+C.N<=xu C i:=by unfold xu;omega
theorem KA{i j:Nat}(h:i<j):xu C i+(4+C.first)<=xu C j:=by
 unfold xu;have:(i+1)*(4+C.first)<=j*(4+C.first):=sH _ h;rw[Gw]at this;omega
def zin(C:kY)(s:St)(z:Pu)(x:Int):Prop:=
 match z with
 | .fix y=>x=y/\0<=y/\y<4+10*C.F+C.N
 | .dq i r=>i<C.N/\r<4+C.first/\x=xu C i+r
 | .gr i g r=>i<C.N/\1<=g/\g<=gen s i/\r<1+vW C g/\x=s.base i g+r
theorem LW(h:SZ C s){a:vN}(ha:Gg C s a):zin C s (NQ C a) (cH C s a):=by
 cases a with
 | result=>exact⟨rfl,I,I⟩
 | next=>exact⟨rfl,I,I⟩
 | ve=>exact⟨rfl,I,I⟩
 | Gb=>exact⟨rfl,I,I⟩
 | join f=>have:f<C.F:=ha;exact⟨rfl,I,I⟩
 | mark f=>have:f<C.F:=ha;exact⟨rfl,I,I⟩
 | slot f k=>have:f<C.F/\k<8:=ha;exact⟨rfl,I,I⟩
 | flag i=>have:i<C.N:=ha;exact⟨rfl,I,I⟩
 | top i=>exact⟨ha,I,by simp[cH]⟩
 | bot i=>exact⟨ha,I,by simp[cH]⟩
 | buf i=>exact⟨ha,I,by simp[cH]⟩
 | cap i g =>
  by_cases e:g=0
  ·subst e;simp only[NQ,if_true];exact⟨ha.1,I,by simp only[cH];rw[h.Vi i ha.1];omega⟩
  ·simp only[NQ,cu e];exact⟨ha.1,I,ha.2,I,by simp[cH]⟩
 | el i g n =>
  by_cases e:g=0
  ·subst e;simp only[NQ,if_true];exact⟨ha.1,by have:=ha.2.2;simp only[vW]at this;omega,by simp only[cH];rw[h.Vi i ha.1];omega⟩
  ·simp only[NQ,cu e];exact⟨ha.1,I,ha.2.1,by have:=ha.2.2;omega,by simp only[cH];omega⟩
theorem aaC(h:SZ C s){z:Pu}{x:Int}(hz:zin C s z x):0<=x/\x<s.size:=by
 have hs:(S0 C:Int)<=s.size:=by rw[h.size];omega
 have h0:4+10*C.F+C.N<=S0 C:=by unfold S0;omega
 cases z with
 | fix y=>obtain⟨rfl,a,b⟩:=hz;omega
 | dq i r=>obtain⟨a,b,rfl⟩:=hz;have:=LV a;omega
 | gr i g r=>obtain⟨a,b,c,d,rfl⟩:=hz;have:=h.bs i a g b c;omega
theorem XH(h:SZ C s){z z':Pu}{x:Int}(hz:zin C s z x)(RJ:zin C s z' x):z=z':=by
 have h0:4+10*C.F+C.N<=S0 C:=by unfold S0;omega
 cases z with
 | fix y =>
  obtain⟨rfl,a,b⟩:=hz;cases z' with
  | fix y'=>obtain⟨rfl,_,_⟩:=RJ;rfl
  | dq i r=>obtain⟨a',b',c'⟩:=RJ;have:=Q4 (C:=C) i;omega
  | gr i g r=>obtain⟨a',b',c',d',e'⟩:=RJ;have:=h.bs i a' g b' c';omega
 | dq i r =>
  obtain⟨a,b,c⟩:=hz;have hi:=LV a;cases z' with
  | fix y'=>obtain⟨rfl,_,_⟩:=RJ;have:=Q4 (C:=C) i;omega
  | dq i' r' =>
   obtain⟨a',b',c'⟩:=RJ;rcases Nat.lt_trichotomy i i' with e | e | e
   ·have:=KA (C:=C) e;omega
   ·subst e;have:r=r':=by omega
    rw[this]
   ·have:=KA (C:=C) e;omega
  | gr i' g r'=>obtain⟨a',b',c',d',e'⟩:=RJ;have:=h.bs i' a' g b' c';omega
 | gr i g r =>
  obtain⟨a,b,c,d,e⟩:=hz;have hb:=h.bs i a g b c;cases z' with
  | fix y'=>obtain⟨rfl,_,_⟩:=RJ;omega
  | dq i' r'=>obtain⟨a',b',c'⟩:=RJ;have:=LV a';omega
  | gr i' g' r' =>
   obtain⟨a',b',c',d',e'⟩:=RJ;by_cases hh:i≠i'∨g≠g'
   ·have:=h.dj i i' g g' a a' b b' c c' hh;omega
   ·have e1:i=i':=Decidable.byContradiction λe=>hh (.inl e);have e2:g=g':=Decidable.byContradiction λe=>hh (.inr e);subst e1;subst e2;have:r=r':=by omega
    rw[this]
theorem Vj(h:SZ C s){a b:vN}(ha:Gg C s a)(hb:Gg C s b)(e:NQ C a=NQ C b):a=b:=by
 cases a<;>cases b<;>simp only[NQ]at e<;>simp only[Gg]at ha hb<;>(try rfl)<;>(repeat' split at e)<;>simp only[Pu.fix.injEq,Pu.dq.injEq,Pu.gr.injEq,reduceCtorEq]at e<;>first
  | omega
  | (exfalso;revert e ha hb;simp;done)
  | (simp only[vN.join.injEq,vN.mark.injEq,vN.slot.injEq,vN.flag.injEq,vN.top.injEq,vN.bot.injEq,vN.buf.injEq,vN.cap.injEq,vN.el.injEq];first | omega | (refine⟨?_,?_⟩<;>omega) | (refine⟨?_,?_,?_⟩<;>omega))
theorem Sr(h:SZ C s){a b:vN}(ha:Gg C s a)(hb:Gg C s b)(e:cH C s a=cH C s b):a=b:=
 Vj h ha hb (XH h (LW h ha) (e▸ LW h hb))
theorem E6(h:SZ C s){a:vN}(ha:Gg C s a):0<=cH C s a/\cH C s a<s.size:=aaC h (LW h ha)
structure CL(C:kY)(s:St)(c:List Int):Prop where
 len:(c.length:Int)=s.size
 get:∀a,Gg C s a->c.getD (cH C s a).toNat 0=s.mem a
theorem CL.Gh{c:List Int}(h:CL C s c)(hz:SZ C s){a:vN}(ha:Gg C s a):0<=cH C s a/\cH C s a<c.length/\(cH C s a).toNat<c.length:=by
 have:=E6 hz ha;have:=h.len;omega
theorem CL.of{s':St}{c:List Int}(h:CL C s c)(h1:s'.mem=s.mem)(h2:s'.size=s.size)(h3:s'.base=s.base)(h4:gen s'=gen s):CL C s' c:=by
 have e1:∀a,Gg C s' a=Gg C s a:=λa=>by cases a<;>simp only[Gg,h4]
 have e2:∀a,cH C s' a=cH C s a:=λa=>by cases a<;>simp only[cH,h3]
 exact⟨by rw[h2];exact h.len,λa ha=>by rw[e2,h1];exact h.get a (e1 a▸ ha)⟩
theorem CL.set{s':St}{c:List Int}{b:vN}{v:Int}(h:CL C s c)(hz:SZ C s)(hb:Gg C s b)(h1:s'.mem=cI s.mem b v)(h2:s'.size=s.size)(h3:s'.base=s.base)(h4:gen s'=gen s):CL C s' (c.set (cH C s b).toNat v):=by
 have e1:∀a,Gg C s' a=Gg C s a:=λa=>by cases a<;>simp only[Gg,h4]
 have e2:∀a,cH C s' a=cH C s a:=λa=>by cases a<;>simp only[cH,h3]
 refine⟨by rw[h2,hU];exact h.len,λa ha => ?_⟩;rw[e1]at ha;rw[e2,h1,cS,List.getD_eq_getElem?_getD,List.getElem?_set];have la:=h.Gh hz ha;have lb:=h.Gh hz hb;by_cases e:a=b
 ·subst e;rw[aP rfl,aP la.2.2,aP rfl];rfl
 ·have hne:(cH C s b).toNat≠(cH C s a).toNat:=λe'=>e (Sr hz ha hb I);rw[cu hne,cu e,<-List.getD_eq_getElem?_getD];exact h.get a ha
theorem CL.grow{s':St}{c:List Int}{i:Nat}(h:CL C s c)(hz:SZ C s)(hi:i<C.N)(hg:gen s i=s.cur i)
 (h1:∀a,s'.mem a=match a with | .cap i' g'=>if i'=i/\g'=s.cur i+1 then 0 else s.mem a | .el i' g' _=>if i'=i/\g'=s.cur i+1 then 0 else s.mem a | _=>s.mem a)
 (h2:s'.size=s.size+1+vW C (s.cur i+1)) (h3:s'.base=cI s.base i (cI (s.base i) (s.cur i+1) s.size)) (h4:gen s'=cI (gen s) i (s.cur i+1)):CL C s' (c++List.replicate (1+vW C (s.cur i+1)) 0):=by
 have hl:=h.len;have hnew:∀k,c.length<=k->(c++List.replicate (1+vW C (s.cur i+1)) (0:Int)).getD k 0=0:=λk hk=>by
  rw[List.getD_eq_getElem?_getD,List.getElem?_append_right hk,List.getElem?_replicate];split<;>rfl
 have hold:∀k,k<c.length->(c++List.replicate (1+vW C (s.cur i+1)) (0:Int)).getD k 0=c.getD k 0:=λk hk=>by
  rw[List.getD_eq_getElem?_getD,List.getElem?_append_left hk,<-List.getD_eq_getElem?_getD]
 refine⟨by rw[h2,j6,n7];omega,λa ha => ?_⟩;have key:∀a,Gg C s a->cH C s' a=cH C s a->s'.mem a=s.mem a->(c++List.replicate (1+vW C (s.cur i+1)) (0:Int)).getD (cH C s' a).toNat 0=s'.mem a:=λa hv hp hm=>by
  rw[hp,hm,hold _ (h.Gh hz hv).2.2];exact h.get a hv
 cases a with
 | cap j g =>
  have ha1:=ha.1;have ha2:=ha.2;rw[h4,cS]at ha2;by_cases e:j=i/\g=s.cur i+1
  ·obtain⟨rfl,rfl⟩:=e;rw[h1];simp only[and_self,if_true,cH];rw[h3,aU,aU];exact hnew _ I
  ·refine key _ ⟨ha1,?_⟩ ?_ (by rw[h1];exact cu e)
   ·split at ha2
    ·next e'=>subst e';rw[hg];have:g≠s.cur j+1:=λx=>e ⟨rfl,x⟩;omega
    ·exact ha2
   ·simp only[cH];rw[h3,cS];split
    ·next e'=>subst e';rw[aM (λx=>e ⟨rfl,x⟩)]
    ·rfl
 | el j g n =>
  have ha1:=ha.1;have ha2:=ha.2.1;rw[h4,cS]at ha2;by_cases e:j=i/\g=s.cur i+1
  ·obtain⟨rfl,rfl⟩:=e;rw[h1];simp only[and_self,if_true,cH];rw[h3,aU,aU];exact hnew _ I
  ·refine key _ ⟨ha1,?_,ha.2.2⟩ ?_ (by rw[h1];exact cu e)
   ·split at ha2
    ·next e'=>subst e';rw[hg];have:g≠s.cur j+1:=λx=>e ⟨rfl,x⟩;omega
    ·exact ha2
   ·simp only[cH];rw[h3,cS];split
    ·next e'=>subst e';rw[aM (λx=>e ⟨rfl,x⟩)]
    ·rfl
 | _=>exact key _ ha rfl (by rw[h1])
end
end Am
end
section
namespace Mo
open Go SL GX
def nE(i:ct):Am.Ins:=
 if i.aN=0 then .const i.A.toNat i.K else if i.aN=1 then .move i.A.toNat i.B.toNat else if i.aN=2 then .arith i.K i.A.toNat i.B.toNat i.C.toNat
 else if i.aN=3 then .jump i.A.toNat else if i.aN=4 then .branch i.A.toNat i.B.toNat else if i.aN=5 then .spawn i.A.toNat i.B.toNat i.C.toNat
 else if i.aN=6 then .sync else if i.aN=7 then .load i.A.toNat i.B.toNat else if i.aN=8 then .lX i.A.toNat else .ret i.A.toNat
def Vk(op x y:Int):Int:=match rM op x y with
 | some r=>r.1
 | none=>0
theorem I4{op:Int}(h0:0<=op)(h1:op<16)(x y:Int):rM op x y=some (Vk op x y,0):=by
 have d :∃a b,oy x y=some (a,b):=by
  unfold oy;by_cases h:y=0
  ·rw[aP h];exact⟨_,_,rfl⟩
  ·rw[cu h];split
   ·exact⟨_,_,rfl⟩
   ·exact⟨_,_,rfl⟩
 obtain⟨a,b,d⟩:=d;have e :∃v,uB op x y=some v:=by
  have it:∀{c:Prop} [Decidable c] {x y:Option Int},(∃v,x=some v)->(∃v,y=some v)->∃v,(if c then x else y)=some v:=λhx hy=>by
   split
   ·exact hx
   ·exact hy
  have tr:∀b:Bool,∃v,mI b=some v:=λb=>by cases b<;>exact⟨_,rfl⟩
  have ob:∀{x:Option Int},(∃v,x=some v)->∃v,ei x (λr=>some r)=some v:=λ⟨v,h⟩=>⟨v,by rw[h];rfl⟩;unfold uB;rw[d];exact it ⟨_,rfl⟩ (it ⟨_,rfl⟩ (it ⟨_,rfl⟩ (it ⟨_,rfl⟩ (it ⟨_,rfl⟩ (it ⟨_,rfl⟩ (it ⟨_,rfl⟩ (it ⟨_,rfl⟩ (it ⟨_,rfl⟩ (it ⟨_,rfl⟩ (it ⟨_,rfl⟩ (it ⟨_,rfl⟩ (it (ob (tr _)) (it (ob (tr _)) (it (ob (tr _)) (ob (tr _))))))))))))))))
 obtain⟨v,e⟩:=e;have:rM op x y=some (v,0):=by
  unfold rM Al;rw[aP h0,au,aP (tY h1),e,au]
 unfold Vk;rw[this]
def cfg(p:aE)(N F f m:Nat):Am.kY:=
 { N:=N,F:=F,first:=f,most:=m,QZ:=p.ah.length,len:=λg=>(J p.ah g).ai.length,params:=λg=>(J p.ah g).aS.toNat,bD:=λg=>(J p.ah g).dw.toNat,
   code:=λg a=>nE (J (J p.ah g).ai a),ap:=Vk,pd:=λx k=>wi (wi (wi (x*1000003)+(k:Int))+1)}
theorem Ed{x n:Int}(h:uf x n=true):0<=x/\x<n:=xU.1 h
theorem Vl{p:aE}{g:aB}(h:Code p g)(hs:Mi g){a:Nat}(ha:a<g.ai.length)(h3:¬(J g.ai a).aN=3)(h9:¬(J g.ai a).aN=9):a+1<g.ai.length:=by
 have en:=h.fin;unfold O7 at en;simp only[B4,B5]at en;by_cases e:a=g.ai.length-1
 ·rw[<-e]at en;rcases en with en | en
  ·exact absurd en h3
  ·exact absurd en h9
 ·omega
theorem Vm{p:aE}{N F f m:Nat}(hv:Valid p)(Om:1<=N)(hn:N<=64)(hf1:1<=F)(hf:F<=4096)(h1:1<=f)(Zm:f<=m)(hm:m<=4096):(cfg p N F f m).OK where
 n1:=Om
 n64:=hn
 f1:=hf1
 f4:=hf
 c1:=h1
 cm:=Zm
 m4:=hm
 fn0:=hv.n1
 aaB:=λg hg=>by have:=(hv.G3 g hg).c1;exact this
 LS:=λg hg=>by
  have a1:=(hv.G3 g hg).rp;have a2:=(hv.G3 g hg).r16;have a3:=(hv.G3 g hg).O;exact⟨by show(J p.ah g).aS.toNat<=(J p.ah g).dw.toNat;omega,by show(J p.ah g).dw.toNat<=16;omega⟩
 ins:=λg hg a ha=>by
  change g<p.ah.length at hg;change a<(J p.ah g).ai.length at ha;have hs:=hv.G3 g hg;have hc:=hv.code g hg;have hi:=(hc.ins a ha).1;have WH:=(hc.ins a ha).2;have hl:=Vl hc hs ha;have s8:=hs.s8;unfold nH at hi;unfold wz at WH;unfold Am.NN;show match nE (J (J p.ah g).ai a)with
   | .const x _=>x<(J p.ah g).dw.toNat/\a+1<(J p.ah g).ai.length
   | .lX x=>x<(J p.ah g).dw.toNat/\a+1<(J p.ah g).ai.length
   | .move x y=>x<(J p.ah g).dw.toNat/\y<(J p.ah g).dw.toNat/\a+1<(J p.ah g).ai.length
   | .arith op x y z=>x<(J p.ah g).dw.toNat/\y<(J p.ah g).dw.toNat/\z<(J p.ah g).dw.toNat/\a+1<(J p.ah g).ai.length
   | .jump t=>t<(J p.ah g).ai.length
   | .branch x t=>x<(J p.ah g).dw.toNat/\t<(J p.ah g).ai.length/\a+1<(J p.ah g).ai.length
   | .spawn s f c=>s<8/\f<p.ah.length/\((J p.ah f).aS.toNat=0∨c+(J p.ah f).aS.toNat<=(J p.ah g).dw.toNat)/\a+1<(J p.ah g).ai.length
   | .sync=>a+1<(J p.ah g).ai.length
   | .load x s=>x<(J p.ah g).dw.toNat/\s<8/\a+1<(J p.ah g).ai.length
   | .ret x=>x<(J p.ah g).dw.toNat
  have hk:=(Code.snd hs hc).kind (a:Int) I I;rw[cQ]at hk;generalize J (J p.ah g).ai a=c at *;have hk:c.aN=0∨c.aN=1∨c.aN=2∨c.aN=3∨c.aN=4∨c.aN=5∨c.aN=6∨c.aN=7∨c.aN=8∨c.aN=9:=by omega
  unfold nE;rcases hk with k | k | k | k | k | k | k | k | k | k<;>simp[k,uf]at hi WH hl⊢
  ·omega
  ·omega
  ·omega
  ·omega
  ·omega
  ·have:=(hv.G3 c.B.toNat I).O;omega
  ·omega
  ·omega
  ·omega
  ·omega
def nt(M:af)(c:List Int)(k a x y:Int)(ok:Bool):af:={M with cell:=c,log:=if M.watched=true then M.log++[⟨M.ua,k,a,x,y,ok⟩]else M.log}
structure AR(C:Am.kY)(s:Am.St)(M:af)(sz n:Nat):Prop where
 size:M.nA=sz
 s1:sz<=1048576
 fit:s.size<=sz
 mark:M.fE=(M.cell.length:Int)
 cl:Am.CL C s M.cell
 lg:M.log.length<=n
section
variable {C:Am.kY}{s:Am.St}{M:af}{sz n:Nat}
theorem Ao(h:M.log.length<=2000000000)(c:List Int)(k a x y:Int)(ok:Bool):gz {M with cell:=c} k a x y ok=some (nt M c k a x y ok):=by
 unfold gz nt;by_cases e:M.watched=true
 ·rw[aP e,aP e,aP (by show(M.log.length+1)*48<=_;omega)]
 ·rw[cu e,cu e]
theorem AR.XI(h:AR C s M sz n)(hz:Am.SZ C s){a:Am.vN}(ha:Am.Gg C s a):bI (Am.cH C s a) M.cell.length/\Am.cH C s a<1048576/\J M.cell (Am.cH C s a).toNat=s.mem a:=by
 have l:=h.cl.Gh hz ha;have p:=Am.E6 hz ha;have f:=h.fit;have s1:=h.s1;exact⟨⟨l.1,l.2.1⟩,I,h.cl.get a ha⟩
theorem AR.out(h:AR C s M sz n)(hz:Am.SZ C s){a:Am.vN}(ha:Am.Gg C s a):iC M (Am.cH C s a)=some false:=by
 have l:=h.cl.Gh hz ha;unfold iC rK;rw[h.mark,p7,tY I,au];rfl
theorem zK(h:AR C s M sz n)(hz:Am.SZ C s)(hn:n<=2000000000){a:Am.vN}(ha:Am.Gg C s a):gS M (Am.cH C s a)=some (s.mem a,0,nt M M.cell 0 (Am.cH C s a) (s.mem a) 0 true):=by
 obtain⟨i1,_,i3⟩:=h.XI hz ha;have lg:=h.lg;unfold gS;rw[h.out hz ha,au,cu eC,aP i1,i3];have:=Ao (M:=M) I M.cell 0 (Am.cH C s a) (s.mem a) 0 true;rw[show gz M 0 (Am.cH C s a) (s.mem a) 0 true=_ from this,au]
theorem wD(h:AR C s M sz n)(hz:Am.SZ C s)(hn:n<=2000000000){a:Am.vN}(ha:Am.Gg C s a)(v:Int):eB M (Am.cH C s a) v=some (0,nt M (M.cell.set (Am.cH C s a).toNat v) 1 (Am.cH C s a) v 0 true):=by
 obtain⟨i1,_,i3⟩:=h.XI hz ha;have lg:=h.lg;unfold eB;rw[h.out hz ha,au,cu eC,aP i1,Ao I,au]
theorem KB(h:AR C s M sz n)(hz:Am.SZ C s)(hn:n<=2000000000){a:Am.vN}(ha:Am.Gg C s a){d v:Int}(hv:wi (s.mem a+d)=v):je M (Am.cH C s a) d=some (v,0,nt M (M.cell.set (Am.cH C s a).toNat v) 3 (Am.cH C s a) d v true):=by
 obtain⟨i1,_,i3⟩:=h.XI hz ha;have lg:=h.lg;have l:=h.cl.Gh hz ha;unfold je;rw[h.out hz ha,au,cu eC,aP i1,i3,hv,aP (by rw[hU];exact i1),Ao I,au];have hin:bI (Am.cH C s a) (nt M (M.cell.set (Am.cH C s a).toNat v) 3 (Am.cH C s a) d v true).cell.length:=by
  show bI _ (M.cell.set _ v).length;rw[hU];exact i1
 rw[aP hin];have:J (nt M (M.cell.set (Am.cH C s a).toNat v) 3 (Am.cH C s a) d v true).cell (Am.cH C s a).toNat=v:=by
  show J (M.cell.set _ v) _=v;rw[rf I,aP rfl]
 rw[this]
theorem Vn(h:AR C s M sz n)(hz:Am.SZ C s)(hn:n<=2000000000){a:Am.vN}(ha:Am.Gg C s a)(o v:Int):oz M (Am.cH C s a) o v=some (s.mem a==o,0,nt M (if s.mem a=o then M.cell.set (Am.cH C s a).toNat v else M.cell) 2 (Am.cH C s a) o v (s.mem a==o)):=by
 obtain⟨i1,_,i3⟩:=h.XI hz ha;have lg:=h.lg;unfold oz;rw[h.out hz ha,au,cu eC,aP i1,i3];by_cases e:s.mem a=o
 ·rw[aP e,aP e,Ao I,au]
 ·rw[cu e,cu e];have:=Ao (M:=M) I M.cell 2 (Am.cH C s a) o v (s.mem a==o);rw[show gz M 2 (Am.cH C s a) o v (s.mem a==o)=_ from this,au]
theorem acU(h:AR C s M sz n)(hn:n<=2000000000){k:Nat}(hk:1<=k)(hf:M.cell.length+k<=sz):fY M (k:Int)=some (s.size,0,{nt M (M.cell++List.replicate k 0) 4 s.size k 0 true with fE:=s.size+k}):=by
 have lg:=h.lg;have s1:=h.s1;have hl:=h.cl.len;unfold fY nr qE;rw[jC,ef,h.mark,h.size,eO (x:=(sz:Int)-(M.cell.length:Int)) I,ef,au,aP rfl,eR,aP ⟨I,by show(M.cell.length+(k:Int).toNat)*8<=_;omega⟩,cQ];have:=Ao (M:={M with fE:=wi (((M.cell.length:Nat):Int)+k)}) (by show M.log.length<=_;omega) (M.cell++List.replicate k 0) 4 (M.cell.length:Int) k 0 true;have e:gz ({({M with fE:=wi (((M.cell.length:Nat):Int)+k)}:af)with cell:=M.cell++List.replicate k 0}) 4 ((M.cell.length:Nat):Int) (k:Int) 0 true=_:=this;obtain⟨z1,z2,z3,z4,z5,z6⟩:=M;simp only at e h hf hl lg s1⊢;have hs:=h.size;have hm:=h.mark;simp only at hs hm;subst hs;subst hm;rw[e,au,eO I,hl];rfl
theorem AR.same{s':Am.St}(h:AR C s M sz n)(h1:s'.mem=s.mem)(h2:s'.size=s.size)(h3:s'.base=s.base)(h4:Am.gen s'=Am.gen s)(k a x y:Int)(ok:Bool):AR C s' (nt M M.cell k a x y ok) sz (n+1):=
 ⟨h.size,h.s1,by rw[h2];exact h.fit,h.mark,h.cl.of h1 h2 h3 h4,by
  have:=h.lg;show(if M.watched=true then M.log++[_]else M.log).length<=_;split
  ·rw[j6];simp;omega
  ·omega⟩
theorem AR.keep{s':Am.St}(h:AR C s M sz n)(h1:s'.mem=s.mem)(h2:s'.size=s.size)(h3:s'.base=s.base)(h4:Am.gen s'=Am.gen s):AR C s' M sz (n+1):=
 ⟨h.size,h.s1,by rw[h2];exact h.fit,h.mark,h.cl.of h1 h2 h3 h4,Nat.le_succ_of_le h.lg⟩
theorem AR.set{s':Am.St}{b:Am.vN}{v:Int}(h:AR C s M sz n)(hz:Am.SZ C s)(hb:Am.Gg C s b)(h1:s'.mem=Am.cI s.mem b v)(h2:s'.size=s.size)(h3:s'.base=s.base)(h4:Am.gen s'=Am.gen s)(k a x y:Int)(ok:Bool) :
 AR C s' (nt M (M.cell.set (Am.cH C s b).toNat v) k a x y ok) sz (n+1):=
 ⟨h.size,h.s1,by rw[h2];exact h.fit,by show M.fE=((M.cell.set _ _).length:Nat);rw[hU];exact h.mark,h.cl.set hz hb h1 h2 h3 h4,by
  have:=h.lg;show(if M.watched=true then M.log++[_]else M.log).length<=_;split
  ·rw[j6];simp;omega
  ·omega⟩
end
def DO(C:Am.kY)(v:Nat)(k st:Int)(o:bX):Prop:=o.kind=k/\o.J=st/\o.ox=Am.xu C v/\o.oR=C.most
def TO(C:Am.kY)(k st:Int)(f:Nat)(o:cz):Prop:=o.eK=1/\o.eD=C.F/\o.gK=f/\o.aA=st/\o.kind=k
def LO(C:Am.kY)(i:Nat)(k st kk:Int)(o:cg):Prop:=o.bV=2+10*(C.F:Int)/\o.ck=C.N/\o.gL=i/\o.dI=k/\o.az=st/\o.dD=kk
def NR(C:Am.kY)(v:Nat):cA:=⟨Am.xu C v,C.most⟩
def RO(C:Am.kY)(i:Nat)(st kk:Int)(a:bH):Prop:=a.aI=12/\LO C i 1 st kk a.cR/\∀v,v<C.N->J a.cR.dK v=NR C v
def ring(C:Am.kY)(i j:Nat)(k:Nat):Prop:=1<=k/\k<C.N/\(i+k)%C.N=j
def ph(C:Am.kY)(i:Nat)(p:Am.Pc)(tr:Nat)(cj:Nat)(bs:Nat->Nat->Int)(a:bH):Prop:=
 match p with
 | .halted=>a.aI=13
 | .full=>a.aI=14
 | .start x=>a.aI=0/\a.from_=x
 | .run=>a.aI=1
 | .fork c=>a.aI=2/\a.cr=c
 | .ru=>a.aI=5/\TO C 3 2 a.ay.toNat a.dP
 | .out p c=>a.aI=6/\a.done=c/\TO C 2 2 p a.dP
 | .take p c=>a.aI=6/\a.done=c/\TO C 2 3 p a.dP
 | .done=>a.aI=7/\LO C i 4 10 1 a.cR
 | .tell j=>a.aI=7/\∃k:Nat,LO C i 4 9 k a.cR/\ring C i j k
 | .zj j=>a.aI=7/\∃k:Nat,LO C i 4 7 k a.cR/\ring C i j k
 | .DL c=>a.aI=3/\a.cr=c/\DO C i 1 1 a.bx/\a.bx.v=c
 | .BE c b=>a.aI=3/\a.cr=c/\DO C i 1 2 a.bx/\a.bx.v=c/\a.bx.b=b
 | .uJ c b t=>a.aI=3/\a.cr=c/\DO C i 1 3 a.bx/\a.bx.v=c/\a.bx.b=b/\a.bx.t=t
 | .uK c b t=>a.aI=3/\a.cr=c/\DO C i 1 4 a.bx/\a.bx.v=c/\a.bx.b=b/\a.bx.t=t/\a.bx.a=bs i cj
 | .grow c b t cc=>a.aI=3/\a.cr=c/\DO C i 1 5 a.bx/\a.bx.v=c/\a.bx.b=b/\a.bx.t=t/\a.bx.a=bs i cj/\a.bx.c=cc/\a.bx.c2=Am.jF C cc
 | .p9 c b t cc=>a.aI=3/\a.cr=c/\DO C i 1 6 a.bx/\a.bx.v=c/\a.bx.b=b/\a.bx.t=t/\a.bx.a=bs i cj/\a.bx.c=cc/\a.bx.c2=Am.jF C cc/\a.bx.a2=bs i (cj+1)
 | .nM c b t cc n=>a.aI=3/\a.cr=c/\DO C i 1 7 a.bx/\a.bx.v=c/\a.bx.b=b/\a.bx.t=t/\a.bx.a=bs i cj/\a.bx.c=cc/\a.bx.c2=Am.jF C cc/\a.bx.a2=bs i (cj+1)/\a.bx.i=n
 | .nU c b t cc n x=>a.aI=3/\a.cr=c/\DO C i 1 8 a.bx/\a.bx.v=c/\a.bx.b=b/\a.bx.t=t/\a.bx.a=bs i cj/\a.bx.c=cc/\a.bx.c2=Am.jF C cc/\a.bx.a2=bs i (cj+1)/\a.bx.i=n/\a.bx.x=x
 | .qP c b t cc=>a.aI=3/\a.cr=c/\DO C i 1 9 a.bx/\a.bx.v=c/\a.bx.b=b/\a.bx.c2=Am.jF C cc/\a.bx.a2=bs i (cj+1)
 | .nN c b cc=>a.aI=3/\a.cr=c/\DO C i 1 10 a.bx/\a.bx.v=c/\a.bx.b=b/\a.bx.a=bs i cj/\a.bx.c=cc
 | .ry c b=>a.aI=3/\a.cr=c/\DO C i 1 11 a.bx/\a.bx.b=b
 | .IY=>a.aI=4/\LO C i 2 8 1 a.cR
 | .vG j=>a.aI=4/\∃k:Nat,LO C i 2 9 k a.cR/\ring C i j k
 | .xY j=>a.aI=4/\∃k:Nat,LO C i 2 7 k a.cR/\ring C i j k
 | .E3=>a.aI=8/\DO C i 2 1 a.bx/\a.bx.i=0/\a.bx.BI=false
 | .yE b=>a.aI=8/\DO C i 2 3 a.bx/\a.bx.i=0/\a.bx.BI=false/\a.bx.b=b
 | .sQ b=>a.aI=8/\DO C i 2 11 a.bx/\a.bx.i=0/\a.bx.BI=false/\a.bx.b=b/\a.bx.a=bs i cj
 | .Eb b=>a.aI=8/\DO C i 2 2 a.bx/\a.bx.b=b/\a.bx.a=bs i cj/\a.bx.BI=false
 | .rN t=>a.aI=8/\DO C i 2 11 a.bx/\a.bx.i=1/\a.bx.t=t/\a.bx.b<t/\a.bx.BI=false
 | .wo b t=>a.aI=8/\DO C i 2 4 a.bx/\a.bx.i=1/\a.bx.b=b/\a.bx.t=t/\a.bx.a=bs i cj
 | .sF b t cc=>a.aI=8/\DO C i 2 12 a.bx/\a.bx.i=1/\a.bx.b=b/\a.bx.t=t/\a.bx.a=bs i cj/\a.bx.c=cc
 | .uT b t x=>a.aI=8/\DO C i 2 13 a.bx/\a.bx.i=1/\a.bx.b=b/\a.bx.t=t/\a.bx.x=x
 | .tc t x BI=>a.aI=8/\DO C i 2 11 a.bx/\a.bx.i=1/\a.bx.t=t/\t<=a.bx.b/\a.bx.x=x/\a.bx.BI=BI
 | .oB=>a.aI=9/\a.gu=tr/\tr<3
 | .xq v t=>a.aI=10/\(a.gu=tr/\tr<3)/\a.fO=v/\DO C v 3 1 a.bx/\a.bx.t=t
 | .sR v t=>a.aI=10/\(a.gu=tr/\tr<3)/\a.fO=v/\DO C v 3 3 a.bx/\a.bx.t=t
 | .rO v t g=>a.aI=10/\(a.gu=tr/\tr<3)/\a.fO=v/\DO C v 3 4 a.bx/\a.bx.t=t/\a.bx.a=bs v g
 | .pG v t g cc=>a.aI=10/\(a.gu=tr/\tr<3)/\a.fO=v/\DO C v 3 12 a.bx/\a.bx.t=t/\a.bx.a=bs v g/\a.bx.c=cc
 | .oK v t x=>a.aI=10/\(a.gu=tr/\tr<3)/\a.fO=v/\DO C v 3 13 a.bx/\a.bx.t=t/\a.bx.x=x
 | .Gc=>a.aI=11/\a.gu=tr/\a.cR.dI=3/\a.cR.az=3/\a.cR.bV=2+10*(C.F:Int)/\a.cR.ck=C.N
 | .flag=>(a.aI=9/\C.N=1)∨(RO C i 1 0 a/\a.parked=false)
 | .sleep=>RO C i 2 0 a/\a.parked=false
 | .wZ=>RO C i 3 0 a/\a.parked=false
 | .GF j=>a.parked=false/\∃k:Nat,RO C i 4 k a/\ring C i j k/\DO C j 4 2 a.cR.look
 | .E4 j t=>a.parked=false/\∃k:Nat,RO C i 4 k a/\ring C i j k/\DO C j 4 1 a.cR.look/\a.cR.look.t=t
 | .parked=>a.parked=true/\∃k:Int,RO C i 5 k a
 | .back h=>a.parked=false/\∃k:Int,RO C i 6 k a/\a.cR.jV=if h then 17 else 16
 | .xZ h=>a.parked=false/\∃k:Int,RO C i 7 k a/\a.cR.jV=if h then 17 else 16
def fi(h:Option Nat):Int:=match h with
 | some f=>(f:Int)
 | none=>-1
structure aOK(C:Am.kY)(s:Am.St)(i:Nat)(a:bH):Prop where
 self:a.bz=i
 ay:a.ay=fi (s.hold i)
 ph:ph C i (s.pc i) (s.gu i) (s.cur i) s.base a
structure Ss(x:Am.Fr)(f:Nat)(t:aY):Prop where
 fn:t.fn=x.fn
 J:t.J=x.J
 par:t.parent=if f=0 then -1 else(x.par:Int)
 slot:t.slot=x.slot
 bC:t.bC=x.bC
 lX:t.lX=x.lX
 bD:∀r,r<16->GX.J t.bD r=x.bD r
structure Vo(C:Am.kY)(p:aE)(s:Am.St)(S:ag):Prop where
 code:S.code=p.ah
 res:S.result=0
 tb:S.dL=1
 tf:S.cW=C.F
 lb:S.fH=2+10*(C.F:Int)
 lw:S.cT=C.N
 dl:S.dK.length=C.N
 dq:∀v,v<C.N->GX.J S.dK v=NR C v
 tl:S.aK.length=C.F
 tk:∀f,f<s.nf->Ss (s.fr f) f (GX.J S.aK f)
 wl:S.aj.length=C.N
 wk:∀i,i<C.N->aOK C s i (GX.J S.aj i)
 left:S.left=s.val.isSome
 val:S.value=s.val.getD 0
section
variable {C:Am.kY}{s:Am.St}{p:aE}{S:ag}{i:Nat}
theorem ph.keep{j:Nat}{bs bs':Nat->Nat->Int}{pc:Am.Pc}{tr cj:Nat}{a:bH}(h:ph C j pc tr cj bs a)(h1:∀g,g<=cj+1->bs' j g=bs j g)(h2:∀v t g,pc= .rO v t g->bs' v g=bs v g)(h3:∀v t g cc,pc= .pG v t g cc->bs' v g=bs v g):ph C j pc tr cj bs' a:=by
 unfold ph at h⊢;have e0:=h1 cj I;have e1:=h1 (cj+1) I;cases pc<;>first
  | exact h
  | (simp only[e0,e1]at h⊢;exact h)
  | (simp only[h2 _ _ _ rfl]at h⊢;exact h)
  | (simp only[h3 _ _ _ _ rfl]at h⊢;exact h)
end
section
variable {K:Nat}{M M':af}{o:bX}{v x:Int}
theorem dnz(h:o.kind≠0):¬o=(⟨0,0,0,0,0,0,0,0,0,0,0,0,0,false,0,0⟩:bX):=λe=>h (by rw[e])
theorem qQ{k a:Int}(hk:o.kind=k)(ha:o.J=a)(hk0:k≠0)(ha0:a≠0)(hx:bE o M=some (v,0,M')){o':bX}
 (hn:(if k=1 then fo o v else if k=2 then fq o v else if k=3 then ga o v else mJ o v)=some o'):fJ M o=some (o',M'):=by
 unfold fJ bL;rw[cu (dnz (by rw[hk];exact hk0)),cu (by rw[ha];exact ha0),fA,hx,dr,aP rfl,hk];split at hn
 ·rename_i h;rw[aP h,hn,au]
 ·rename_i h;rw[cu h];split at hn
  ·rename_i h;rw[aP h,hn,au]
  ·rename_i h;rw[cu h];split at hn
   ·rename_i h;rw[aP h,hn,au]
   ·rename_i h;rw[cu h,hn,au]
theorem NS(hk:o.kind≠0)(ha:o.J≠0):oV o=some (0,0):=by
 unfold oV bL;rw[cu (dnz hk),cu ha]
theorem Pv(hk:o.kind≠0)(ha:o.J=0):oV o=some (o.code,o.value):=by
 unfold oV bL;rw[cu (dnz hk),aP ha]
theorem Vp{a c n:Int}(ha0:0<=a)(ha:a<=1048576)(hc:1<=c)(ME:c<=4096)(hn:-1000000000000<=n/\n<=1000000000000):qH a c n=some (a+1+(Am.ix n c:Int)):=by
 have e1:=B7 n (b:=c) I;have e2:=Dx n (show 0<c by omega);have e3:(Am.ix n c:Int)=n%c:=by unfold Am.ix;omega
 have e4:n.tmod c=if 0<=n∨c∣n then n%c else n%c-c:=by
  rw[Ke];split
  ·omega
  ·rw[show((c.natAbs:Nat):Int)=c by omega]
 unfold qH;rw[p7,e3];by_cases h:0<=n∨c∣n
 ·rw[e4,aP h,ef,eO (x:=a+1) I,eO I]
 ·rw[e4,cu h,p7,eO (x:=a+1) I,eO (x:=n%c-c+c) I,eO I];congr 1;omega
end
section
variable {C:Am.kY}{s:Am.St}{M:af}{sz n:Nat}{o:bX}{i:Nat}
theorem AR.cast(h:AR C s M sz n)(hz:Am.SZ C s){a:Am.vN}(ha:Am.Gg C s a){x:Int}(hx:x=Am.cH C s a):wi x=Am.cH C s a:=by
 have p:=Am.E6 hz ha;have f:=h.fit;have s1:=h.s1;rw[hx,eO I]
theorem CE(s:Am.St)(i:Nat):s.cur i<=Am.gen s i:=by unfold Am.gen;omega
theorem HD(h:AR C s M sz n)(hz:Am.SZ C s)(hn:n<=2000000000)(hi:i<C.N)(ha:o.J=1)(hb:o.ox=Am.xu C i):bE o M=some (s.mem (.bot i),0,nt M M.cell 0 (Am.cH C s (.bot i)) (s.mem (.bot i)) 0 true):=by
 unfold bE;rw[aP ha,h.cast hz (a:=.bot i) hi (by rw[hb];rfl),zK h hz hn (a:=.bot i) hi,dr]
theorem HE(h:AR C s M sz n)(hz:Am.SZ C s)(hn:n<=2000000000)(hi:i<C.N)(ha:o.J=2)(hb:o.ox=Am.xu C i):bE o M=some (s.mem (.top i),0,nt M M.cell 0 (Am.cH C s (.top i)) (s.mem (.top i)) 0 true):=by
 unfold bE;rw[dR ha,aP ha,h.cast hz (a:=.top i) hi (by rw[hb,Int.add_zero];rfl),zK h hz hn (a:=.top i) hi,dr]
theorem LX(h:AR C s M sz n)(hz:Am.SZ C s)(hn:n<=2000000000)(hi:i<C.N)(ha:o.J=3)(hb:o.ox=Am.xu C i):bE o M=some (s.mem (.buf i),0,nt M M.cell 0 (Am.cH C s (.buf i)) (s.mem (.buf i)) 0 true):=by
 unfold bE;rw[dR ha,dR ha,aP ha,h.cast hz (a:=.buf i) hi (by rw[hb];rfl),zK h hz hn (a:=.buf i) hi,dr]
theorem LY{g:Nat}(h:AR C s M sz n)(hz:Am.SZ C s)(hn:n<=2000000000)(hi:i<C.N)(hg:g<=Am.gen s i)(ha:o.J=4)(hb:o.a=s.base i g):bE o M=some (s.mem (.cap i g),0,nt M M.cell 0 (Am.cH C s (.cap i g)) (s.mem (.cap i g)) 0 true):=by
 unfold bE;rw[dR ha,dR ha,dR ha,aP ha,hb,show s.base i g=Am.cH C s (.cap i g)from rfl,zK h hz hn (a:=.cap i g) ⟨hi,hg⟩,dr]
theorem XJ{k:Nat}(h:AR C s M sz n)(hn:n<=2000000000)(ha:o.J=5)(hk:o.c2=k)(hf:M.cell.length+(1+k)<=sz):bE o M=some (s.size,0,{nt M (M.cell++List.replicate (1+k) 0) 4 s.size ((1+k:Nat):Int) 0 true with fE:=s.size+((1+k:Nat):Int)}):=by
 have s1:=h.s1;unfold bE;rw[dR ha,dR ha,dR ha,dR ha,aP ha,hk,show wi (1+(k:Int))=((1+k:Nat):Int) by rw[eO I];omega,acU h hn I hf,dr]
theorem Pw{g:Nat}(h:AR C s M sz n)(hz:Am.SZ C s)(hn:n<=2000000000)(hi:i<C.N)(hg:g<=Am.gen s i)(ha:o.J=6)(hb:o.a2=s.base i g):bE o M=some (0,0,nt M (M.cell.set (Am.cH C s (.cap i g)).toNat o.c2) 1 (Am.cH C s (.cap i g)) o.c2 0 true):=by
 unfold bE;rw[dR ha,dR ha,dR ha,dR ha,dR ha,aP ha,hb,show s.base i g=Am.cH C s (.cap i g)from rfl,wD h hz hn (a:=.cap i g) ⟨hi,hg⟩,eR]
theorem CW(h:AR C s M sz n)(hz:Am.SZ C s)(hC:C.OK)(hi:i<C.N){g:Nat}(hg:g<=Am.gen s i){c x:Int}(hc:c=Am.vW C g)(hx:-1000000000000<=x/\x<=1000000000000):qH (s.base i g) c x=some (Am.cH C s (.el i g (Am.ix x c)))/\Am.Gg C s (.el i g (Am.ix x c)):=by
 have b1:=h.XI hz (a:=.cap i g) ⟨hi,hg⟩;have p:=Am.E6 hz (a:=.cap i g) ⟨hi,hg⟩;have c1:=Am.HC hC g;have c2:=Am.Pr hC g;have m4:=hC.m4;have e2:=Dx x (show 0<c by omega);have e1:=B7 x (b:=c) I;refine⟨Vp p.1 (by have:=b1.2.1;show Am.cH C s (.cap i g)<=_;omega) I I hx,hi,hg,?_⟩;unfold Am.ix;omega
theorem XK{g:Nat}(h:AR C s M sz n)(hz:Am.SZ C s)(hC:C.OK)(hn:n<=2000000000)(hi:i<C.N)(hg:g<=Am.gen s i)(ha:o.J=7)(hb:o.a=s.base i g)(hc:o.c=Am.vW C g)(hx:-1000000000000<=o.i/\o.i<=1000000000000) :
 bE o M=some (s.mem (.el i g (Am.ix o.i o.c)),0,nt M M.cell 0 (Am.cH C s (.el i g (Am.ix o.i o.c))) (s.mem (.el i g (Am.ix o.i o.c))) 0 true):=by
 obtain⟨e1,e2⟩:=CW h hz hC hi hg hc hx;unfold bE;rw[dR ha,dR ha,dR ha,dR ha,dR ha,dR ha,aP ha,hb,e1,au,zK h hz hn e2,dr]
theorem XL{g:Nat}(h:AR C s M sz n)(hz:Am.SZ C s)(hC:C.OK)(hn:n<=2000000000)(hi:i<C.N)(hg:g<=Am.gen s i)(ha:o.J=8)(hb:o.a2=s.base i g)(hc:o.c2=Am.vW C g)(hx:-1000000000000<=o.i/\o.i<=1000000000000) :
 bE o M=some (0,0,nt M (M.cell.set (Am.cH C s (.el i g (Am.ix o.i o.c2))).toNat o.x) 1 (Am.cH C s (.el i g (Am.ix o.i o.c2))) o.x 0 true):=by
 obtain⟨e1,e2⟩:=CW h hz hC hi hg hc hx;unfold bE;rw[dR ha,dR ha,dR ha,dR ha,dR ha,dR ha,dR ha,aP ha,hb,e1,au,wD h hz hn e2,eR]
theorem Px(h:AR C s M sz n)(hz:Am.SZ C s)(hn:n<=2000000000)(hi:i<C.N)(ha:o.J=9)(hb:o.ox=Am.xu C i):bE o M=some (0,0,nt M (M.cell.set (Am.cH C s (.buf i)).toNat o.a2) 1 (Am.cH C s (.buf i)) o.a2 0 true):=by
 unfold bE;rw[dR ha,dR ha,dR ha,dR ha,dR ha,dR ha,dR ha,dR ha,aP ha,h.cast hz (a:=.buf i) hi (by rw[hb];rfl),wD h hz hn (a:=.buf i) hi,eR]
theorem XM{g:Nat}(h:AR C s M sz n)(hz:Am.SZ C s)(hC:C.OK)(hn:n<=2000000000)(hi:i<C.N)(hg:g<=Am.gen s i)(ha:o.J=10)(hb:o.a=s.base i g)(hc:o.c=Am.vW C g)(hx:-1000000000000<=o.b/\o.b<=1000000000000) :
 bE o M=some (0,0,nt M (M.cell.set (Am.cH C s (.el i g (Am.ix o.b o.c))).toNat o.v) 1 (Am.cH C s (.el i g (Am.ix o.b o.c))) o.v 0 true):=by
 obtain⟨e1,e2⟩:=CW h hz hC hi hg hc hx;unfold bE;rw[dR ha,dR ha,dR ha,dR ha,dR ha,dR ha,dR ha,dR ha,dR ha,aP ha,hb,e1,au,wD h hz hn e2,eR]
theorem Bm(h:AR C s M sz n)(hz:Am.SZ C s)(hn:n<=2000000000)(hi:i<C.N)(ha:o.J=11)(hb:o.ox=Am.xu C i){v:Int}(hv:jD o=some v):bE o M=some (0,0,nt M (M.cell.set (Am.cH C s (.bot i)).toNat v) 1 (Am.cH C s (.bot i)) v 0 true):=by
 unfold bE;rw[dR ha,dR ha,dR ha,dR ha,dR ha,dR ha,dR ha,dR ha,dR ha,dR ha,aP ha,hv,au,h.cast hz (a:=.bot i) hi (by rw[hb];rfl),wD h hz hn (a:=.bot i) hi,eR]
theorem NT{g:Nat}{x:Int}(h:AR C s M sz n)(hz:Am.SZ C s)(hC:C.OK)(hn:n<=2000000000)(hi:i<C.N)(hg:g<=Am.gen s i)(ha:o.J=12)(hb:o.a=s.base i g)(hc:o.c=Am.vW C g)(hk:x=if o.kind=2 then o.b else o.t)(hx:-1000000000000<=x/\x<=1000000000000) :
 bE o M=some (s.mem (.el i g (Am.ix x o.c)),0,nt M M.cell 0 (Am.cH C s (.el i g (Am.ix x o.c))) (s.mem (.el i g (Am.ix x o.c))) 0 true):=by
 obtain⟨e1,e2⟩:=CW h hz hC hi hg hc hx;have e3:(if o.kind=2 then some o.b else some o.t)=some x:=by rw[hk];split<;>rfl
 unfold bE;rw[dR ha,dR ha,dR ha,dR ha,dR ha,dR ha,dR ha,dR ha,dR ha,dR ha,dR ha,aP ha,e3,au,hb,e1,au,zK h hz hn e2,dr]
theorem Q5(h:AR C s M sz n)(hz:Am.SZ C s)(hn:n<=2000000000)(hi:i<C.N)(ha:o.J=13)(hb:o.ox=Am.xu C i)(ht:-1000000000000<=o.t/\o.t<=1000000000000):bE o M=some (if s.mem (.top i)=o.t then 1 else 0,0,nt M (if s.mem (.top i)=o.t then M.cell.set (Am.cH C s (.top i)).toNat (o.t+1)else M.cell) 2 (Am.cH C s (.top i)) o.t (o.t+1) (s.mem (.top i)==o.t)):=by
 unfold bE;rw[dR ha,dR ha,dR ha,dR ha,dR ha,dR ha,dR ha,dR ha,dR ha,dR ha,dR ha,dR ha,eO (x:=o.t+1) I,h.cast hz (a:=.top i) hi (by rw[hb,Int.add_zero];rfl),Vn h hz hn (a:=.top i) hi,dr];by_cases e:s.mem (.top i)=o.t
 ·rw[aP (by rw[e];simp),aP e,aP e]
 ·rw[cu (by simpa using e),cu e,cu e]
end
def Dm:Option Am.Ev->aq
 | none=>⟨0,0,0,0,0,0⟩
 | some e=>⟨0,0,e.kind,e.ay,e.x,e.v⟩
def Vq(i:Nat):Option Am.Ev->aq
 | none=>⟨0,0,0,0,0,0⟩
 | some e=>⟨0,i,e.kind,e.ay,e.x,e.v⟩
def Vr(e:Option Am.Ev):Prop:=match e with
 | none=>True
 | some e=>e.kind≠0
def Zn(C:Am.kY)(s:Am.St)(w:Int)(a:Am.Acc):aW:=⟨w,a.kind,Am.cH C s a.a,a.x,a.y,a.ok⟩
def Lg(C:Am.kY)(s:Am.St)(M M':af)(acc:Option Am.Acc):Prop:=
 M'.ua=M.ua/\M'.watched=M.watched/\M'.log=if M.watched=true then M.log++(acc.toList.map (Zn C s M.ua))else M.log
def jN(C:Am.kY)(p:aE)(sz n:Nat)(M:af)(o:Am.Out)(r:Option (aq×ag×af)):Prop:=
 ∃S' M',r=some (Dm o.ev,S',M')/\Vo C p o.s S'/\AR C o.s M' sz (n+1)/\Lg C o.s M M' o.acc/\Vr o.ev
structure xJ(C:Am.kY)(p:aE)(s:Am.St)(S:ag)(M:af)(sz n:Nat):Prop where
 ok:C.OK
 ku:Vo C p s S
 ar:AR C s M sz n
 z:Am.SZ C s
 bd:Am.BD s n
 dt:Am.DT C s
 fi:(Am.view s).FI C.N C.F
 fr:Am.FR C s
 n:n<=1000000000
 vd:Valid p
 cf:C=cfg p C.N C.F C.first C.most
 room :∃ag2,(sz:Int)=Am.S0 C+C.N*Am.tot C ag2/\Am.vW C ag2=C.most
section
variable {K:Nat}{C:Am.kY}{p:aE}{s:Am.St}{S:ag}{M:af}{sz n i:Nat}{D:aT}
theorem Lg.nt{s':Am.St}{c:List Int}{k:Nat}{a:Am.vN}{x y pl:Int}{ok:Bool}(h:Am.cH C s' a=pl):Lg C s' M (nt M c k pl x y ok) (some ⟨k,a,x,y,ok⟩):=by
 refine⟨rfl,rfl,?_⟩;show(if M.watched=true then M.log++[_]else M.log)=_;simp only[Option.toList_some,Bs,B3,Zn,h]
theorem Lg.none_{s':Am.St}:Lg C s' M M none:=by
 refine⟨rfl,rfl,?_⟩;simp
def gP(S:ag)(i:Nat)(a:bH):ag:={S with aj:=S.aj.set i a}
abbrev act(S:ag)(i:Nat):bH:=J S.aj i
theorem j5(i:Nat)(a:bH):(gP S i a).aj.length=S.aj.length:=hU
theorem ot{a:bH}(h:i<S.aj.length):act (gP S i a) i=a:=by
 show J (S.aj.set i a) i=a;rw[rf h,aP rfl]
theorem NU{a b:bH}:gP (gP S i a) i b=gP S i b:=by
 show {S with aj:=(S.aj.set i a).set i b}=_;rw[iX];rfl
theorem Vo.act{s':Am.St}{a:bH}{q:Am.Pc}(h:Vo C p s S)(ht:Am.DT C s)(hi:i<C.N)(ha:aOK C s' i a)(hpc:s'.pc=Am.cI s.pc i q)(hh:∀j,j≠i->s'.hold j=s.hold j)(Su:∀j,j≠i->s'.gu j=s.gu j)
 (hc:∀j,j≠i->s'.cur j=s.cur j) (hb:∀j g,(j≠i∨g<=s.cur i)->s'.base j g=s.base j g) (hf:s'.fr=s.fr) (hn:s'.nf=s.nf) (hv:s'.val=s.val):Vo C p s' (gP S i a):=by
 have hl:=h.wl;refine⟨h.code,h.res,h.tb,h.tf,h.lb,h.lw,h.dl,h.dq,h.tl,λf hf'=>by rw[hf];exact h.tk f (hn▸ hf'),by rw[j5];exact h.wl,λj hj => ?_,by rw[hv];exact h.left,by rw[hv];exact h.val⟩;show aOK C s' j (GX.J (S.aj.set i a) j);by_cases e:j=i
 ·subst e;rw[rf I,aP rfl];exact ha
 ·rw[rf I,cu e];obtain⟨w1,w2,w3⟩:=h.wk j hj;have ep:s'.pc j=s.pc j:=by rw[hpc];exact Am.aM e
  refine⟨w1,by rw[hh j e];exact w2,?_⟩;rw[ep,Su j e,hc j e];have T:=ht.2 j hj;refine w3.keep (λg _=>hb j g (.inl e)) (λv t g hq => ?_) (λv t g cc hq => ?_)
  ·unfold Am.Th at T;rw[hq]at T;simp only at T;by_cases ev:v=i
   ·subst ev;exact hb v g (.inr T.2.2.2.1)
   ·exact hb v g (.inl ev)
  ·unfold Am.Th at T;rw[hq]at T;simp only at T;by_cases ev:v=i
   ·subst ev;exact hb v g (.inr T.2.2.2.1)
   ·exact hb v g (.inl ev)
theorem wE{o':bX}{M':af}{c v:Int}(h1:fJ M (act S i).bx=some (o',M'))(h2:oV o'=some (c,v)) :
 mw S M (i:Int)=some (c,v,gP S i {act S i with bx:=o' },M'):=by
 unfold mw j3 an;rw[cQ,h1,eR];simp only;rw[h2,eR];rfl
theorem LZ{o':cz}{M':af}{c v:Int}(h1:dm M (act S i).dP=some (o',M'))(h2:ji o'=some (c,v)) :
 fg S M (i:Int)=some (c,v,gP S i {act S i with dP:=o' },M'):=by
 unfold fg j3 an;rw[cQ,h1,eR];simp only;rw[h2,eR];rfl
theorem zk{o':cg}{M':af}{c v:Int}(h1:eV M (act S i).cR=some (o',M'))(h2:qJ o'=some (c,v)) :
 jM S M (i:Int)=some (c,v,gP S i {act S i with cR:=o' },M'):=by
 unfold jM j3 an;rw[cQ,h1,eR];simp only;rw[h2,eR];rfl
theorem xJ.BW(b:xJ C p s S M sz n)(hi:i<C.N):bI (i:Int) S.aj.length:=⟨I,by rw[b.ku.wl];omega⟩
theorem xJ.wl(b:xJ C p s S M sz n)(hi:i<C.N):i<S.aj.length:=by rw[b.ku.wl];exact hi
theorem xJ.cN(b:xJ C p s S M sz n):n<=2000000000:=by have:=b.n;omega
theorem xJ.LS(b:xJ C p s S M sz n){x:Int}(h:x∈Am.hH (s.pc i)):-1000000000000<=x/\x<=1000000000000:=by
 have:=b.bd.r i x h;have hn:=b.n;unfold Am.LU at this;omega
theorem xJ.NP(b:xJ C p s S M sz n){a:Am.vN}(h:a.NP=true):-1000000000000<=s.mem a/\s.mem a<=1000000000000:=by
 have:=b.bd.m a h;have hn:=b.n;unfold Am.LU at this;omega
theorem Vs{s':Am.St}{q:Am.Pc}(h:s'.pc=Am.cI s.pc i q)(hc:s'.cur=s.cur)(hg:Am.mh q=Am.mh (s.pc i)):Am.gen s'=Am.gen s:=by
 funext j;unfold Am.gen;rw[h,hc,Am.cS];split
 ·next e=>rw[e,hg]
 ·rfl
theorem Vt(C:Am.kY){a b:Nat}(h:a<=b):Am.tot C a<=Am.tot C b:=by
 induction b with
 | zero=>rw[show a=0 by omega];exact jU _
 | succ b ih =>
  by_cases e:a=b+1
  ·rw[e];exact jU _
  ·have:=ih I;show _<=Am.tot C b+1+Am.vW C (b+1);omega
theorem NV{ag2:Nat}(hz:Am.SZ C s)(h1:(sz:Int)=Am.S0 C+C.N*Am.tot C ag2)(h2:Am.vW C ag2=C.most):s.size<=sz:=by
 have key:∀j,j<C.N->Am.tot C (Am.gen s j)<=Am.tot C ag2:=λj hj=>by
  rcases Dv ag2 (Am.gen s j)with h | h
  ·have:=hz.gm j hj ag2 h;omega
  ·exact Vt C h
 have:=Am.Q2 (f:=λj=>Am.tot C (Am.gen s j)) (k:=Am.tot C ag2) (n:=C.N) key;rw[hz.size,h1];have e:((C.N*Am.tot C ag2:Nat):Int)=(C.N:Int)*(Am.tot C ag2:Int):=by simp
 omega
theorem jN.mk{a:bH}{M':af}{o:Am.Out}{q:Am.Pc}{r:Option (aq×ag×af)}(b:xJ C p s S M sz n)(hi:i<C.N)(hr:r=some (Dm o.ev,gP S i a,M'))
 (HO:a.bz=i) (hfr:a.ay=fi (o.s.hold i)) (hq:o.s.pc=Am.cI s.pc i q) (hph:ph C i q (o.s.gu i) (o.s.cur i) o.s.base a) (har:AR C o.s M' sz (n+1)) (Py:Lg C o.s M M' o.acc) (Q6:Vr o.ev)
 (hh:∀j,j≠i->o.s.hold j=s.hold j:=by intros;rfl) (Su:∀j,j≠i->o.s.gu j=s.gu j:=by intros;rfl) (hc:∀j,j≠i->o.s.cur j=s.cur j:=by intros;rfl)
 (hb:∀j g,(j≠i∨g<=s.cur i)->o.s.base j g=s.base j g:=by intros;rfl) (hf:o.s.fr=s.fr:=by rfl) (hn:o.s.nf=s.nf:=by rfl) (hv:o.s.val=s.val:=by rfl):jN C p sz n M o r:=
 ⟨_,_,hr,b.ku.act b.dt hi ⟨HO,hfr,by rw[hq,Am.aU];exact hph⟩ hq hh Su hc hb hf hn hv,har,Py,Q6⟩
theorem xJ.zQ(b:xJ C p s S M sz n){s':Am.St}{q:Am.Pc}(hq:s'.pc=Am.cI s.pc i q)(hg:Am.mh q=Am.mh (s.pc i))(k a x y:Int)(ok:Bool)(h1:s'.mem=s.mem:=by rfl)(h2:s'.size=s.size:=by rfl)(h3:s'.base=s.base:=by rfl)(h4:s'.cur=s.cur:=by rfl) :
 AR C s' (nt M M.cell k a x y ok) sz (n+1):=b.ar.same h1 h2 h3 (Vs hq h4 hg) k a x y ok
theorem xJ.BS(b:xJ C p s S M sz n){s':Am.St}{q:Am.Pc}{c:Am.vN}{v:Int}(hq:s'.pc=Am.cI s.pc i q)(hg:Am.mh q=Am.mh (s.pc i))(hb:Am.Gg C s c)(k a x y:Int)(ok:Bool)(h1:s'.mem=Am.cI s.mem c v:=by rfl)(h2:s'.size=s.size:=by rfl)(h3:s'.base=s.base:=by rfl)(h4:s'.cur=s.cur:=by rfl) :
 AR C s' (nt M (M.cell.set (Am.cH C s c).toNat v) k a x y ok) sz (n+1):=b.ar.set b.z hb h1 h2 h3 (Vs hq h4 hg) k a x y ok
end
section
variable {K:Nat}{C:Am.kY}{p:aE}{s:Am.St}{S:ag}{M:af}{sz n i:Nat}{D:aT}{d:Int}
theorem I5(b:xJ C p s S M sz n)(hi:i<C.N){c:Nat}(hg:(Am.view s).g i= .push c):c<s.nf:=by
 have z:=b.fi.ps i c hi hg;rcases Dv c s.nf with h | h
 ·exact h
 ·have:=b.fi.free c h;rw[this]at z;exact absurd z.2.1 (by simp)
theorem xJ.task(b:xJ C p s S M sz n){f:Nat}(hf:f<s.nf):bI (f:Int) S.aK.length:=⟨I,by rw[b.ku.tl];have:s.nf<=C.F:=b.fi.yj;omega⟩
theorem sU(b:xJ C p s S M sz n)(hi:i<C.N){c:Nat}(hc:(act S i).cr=c)(hg:(Am.view s).g i= .push c){o':bX}{M':af}(h1:fJ M (act S i).bx=some (o',M'))(h2:o'.kind=1)(h3:o'.J≠0) :
 cF S M (i:Int) D=some (Dm none,gP S i {act S i with bx:=o' },M'):=by
 have hin:bI (act S i).cr S.aK.length:=by rw[hc];exact b.task (I5 b hi hg)
 unfold cF eG j3 an;rw[cQ,aP hin,jC,aP hin,wE h1 (NS (by rw[h2];decide) h3),gH,aP rfl];rfl
section
variable (b:xJ C p s S M sz n)(hi:i<C.N)
include b hi
theorem Vu{c:Nat}(hp:s.pc i= .DL c):jN C p sz n M (Am.aJ C s i d) (cF S M (i:Int) D):=by
 obtain⟨w1,w2,w3⟩:=b.ku.wk i hi;rw[hp]at w3;obtain⟨a1,a2,⟨o1,o2,o3,o4⟩,a3⟩:=w3;have hs:=qQ o1 o2 eC eC (HD b.ar b.z b.cN hi o2 o3) (o':={(act S i).bx with J:=2,b:=s.mem (.bot i)}) (by
  rw[aP rfl];unfold fo;rw[aP o2])
 unfold Am.aJ;rw[hp];simp only;exact .mk b hi (sU b hi a2 (by show Am.sig (s.pc i)=_;rw[hp];rfl) hs o1 (by show(2:Int)≠0;decide)) w1 w2 rfl ⟨a1,a2,⟨o1,rfl,o3,o4⟩,a3,rfl⟩ (b.zQ rfl (by rw[hp];rfl) _ _ _ _ _) (Lg.nt rfl) trivial
theorem Vv{c:Nat}{bb:Int}(hp:s.pc i= .BE c bb):jN C p sz n M (Am.aJ C s i d) (cF S M (i:Int) D):=by
 obtain⟨w1,w2,w3⟩:=b.ku.wk i hi;rw[hp]at w3;obtain⟨a1,a2,⟨o1,o2,o3,o4⟩,a3,a4⟩:=w3;have hs:=qQ o1 o2 eC eC (HE b.ar b.z b.cN hi o2 o3) (o':={(act S i).bx with J:=3,t:=s.mem (.top i)}) (by
  rw[aP rfl];unfold fo;rw[dR o2,aP o2])
 unfold Am.aJ;rw[hp];simp only;exact .mk b hi (sU b hi a2 (by show Am.sig (s.pc i)=_;rw[hp];rfl) hs o1 (by show(3:Int)≠0;decide)) w1 w2 rfl ⟨a1,a2,⟨o1,rfl,o3,o4⟩,a3,a4,rfl⟩ (b.zQ rfl (by rw[hp];rfl) _ _ _ _ _) (Lg.nt rfl) trivial
theorem Pz{c:Nat}{bb t:Int}(hp:s.pc i= .uJ c bb t):jN C p sz n M (Am.aJ C s i d) (cF S M (i:Int) D):=by
 obtain⟨w1,w2,w3⟩:=b.ku.wk i hi;rw[hp]at w3;obtain⟨a1,a2,⟨o1,o2,o3,o4⟩,a3,a4,a5⟩:=w3;have hs:=qQ o1 o2 eC eC (LX b.ar b.z b.cN hi o2 o3) (o':={(act S i).bx with J:=4,a:=s.mem (.buf i)}) (by
  rw[aP rfl];unfold fo;rw[dR o2,dR o2,aP o2])
 unfold Am.aJ;rw[hp];simp only;exact .mk b hi (sU b hi a2 (by show Am.sig (s.pc i)=_;rw[hp];rfl) hs o1 (by show(4:Int)≠0;decide)) w1 w2 rfl ⟨a1,a2,⟨o1,rfl,o3,o4⟩,a3,a4,a5,(b.dt.1 i hi).Gd⟩ (b.zQ rfl (by rw[hp];rfl) _ _ _ _ _) (Lg.nt rfl) trivial
end
end
theorem XN{o:bX}{v:Int}(ha:o.J=4)(h1:1<=v)(h2:v<=4096)(hb:-4000000000000<=o.b-o.t/\o.b-o.t<=4000000000000):fo o v=if o.b-o.t<v then some {o with J:=10,c:=v}else if o.oR<=v then some {o with J:=0,c:=v,code:=3,value:=0}
 else some {o with J:=5,c:=v,c2:=if o.oR<2*v then o.oR else 2*v}:=by
 unfold fo eU;rw[dR ha,dR ha,dR ha,aP ha,ef,eO (x:=o.b-o.t) I,eO (x:=2*v) I];rfl
theorem XO{o:bX}{v:Int}(ha:o.J=8)(hb:-4000000000000<=o.i/\o.i<=4000000000000):fo o v=if o.i+1=o.b then some {o with J:=9,i:=o.i+1}else some {o with J:=7,i:=o.i+1}:=by
 unfold fo;rw[dR ha,dR ha,dR ha,dR ha,dR ha,dR ha,dR ha,aP ha,eO (x:=o.i+1) I]
section
variable {K:Nat}{C:Am.kY}{p:aE}{s:Am.St}{S:ag}{M:af}{sz n i:Nat}{D:aT}{d:Int}
variable (b:xJ C p s S M sz n)(hi:i<C.N)
include b hi
theorem Zo:s.mem (.cap i (s.cur i))=Am.vW C (s.cur i)/\(1:Int)<=s.mem (.cap i (s.cur i))/\s.mem (.cap i (s.cur i))<=C.most/\(C.most:Int)<=4096:=by
 have h:=Am.Gf b.z hi;have h1:=Am.HC b.ok (s.cur i);have h2:=Am.Pr b.ok (s.cur i);have h3:=b.ok.m4;change s.mem (.cap i (s.cur i))=_ at h;omega
theorem Sv{c:Nat}(hc:(act S i).cr=c)(hg:(Am.view s).g i= .push c){o':bX}{M':af}(h1:fJ M (act S i).bx=some (o',M'))(h2:o'.kind=1)(h3:o'.J=0)(h4:o'.code=3) :
 cF S M (i:Int) D=some (Dm (Am.ev 11 c 1 0),gP S i {{act S i with bx:=o' }with aI:=14},M'):=by
 have hin:bI (act S i).cr S.aK.length:=by rw[hc];exact b.task (I5 b hi hg)
 have hw:=b.wl hi;unfold cF eG j3 an;rw[cQ,aP hin,jC,aP hin,wE h1 (Pv (by rw[h2];decide) h3),gH,h4,cu eC,aP rfl,aP (by rw[j5];exact b.BW hi)];rw[show J (gP S i {act S i with bx:=o' }).aj i={act S i with bx:=o' }from ot hw];show some (_,gP (gP S i _) i _,_)=_;rw[NU];show some ((⟨0,0,11,(act S i).cr,1,0⟩:aq),_,_)=_;rw[hc];rfl
theorem PA{c:Nat}{bb t:Int}(hp:s.pc i= .uK c bb t):jN C p sz n M (Am.aJ C s i d) (cF S M (i:Int) D):=by
 obtain⟨w1,w2,w3⟩:=b.ku.wk i hi;rw[hp]at w3;obtain⟨a1,a2,⟨o1,o2,o3,o4⟩,a3,a4,a5,a6⟩:=w3;obtain⟨c0,c1,c2,c3⟩:=Zo b hi;have r1:=b.LS (i:=i) (x:=bb) (by rw[hp];simp[Am.hH]);have r2:=b.LS (i:=i) (x:=t) (by rw[hp];simp[Am.hH]);have hg:(Am.view s).g i= .push c:=by show Am.sig (s.pc i)=_;rw[hp];rfl
 have hs:∀o',fo (act S i).bx (s.mem (.cap i (s.cur i)))=some o'->_:=λo' h=>qQ o1 o2 eC eC (LY b.ar b.z b.cN hi (CE s i) o2 a6) (o':=o') (by rw[aP rfl];exact h);have e0:=XN o2 (v:=s.mem (.cap i (s.cur i))) c1 I (by rw[a4,a5];omega);unfold Am.aJ;rw[hp];simp only;by_cases h1:bb-t<s.mem (.cap i (s.cur i))
 ·rw[aP h1];rw[aP (by rw[a4,a5];exact h1)]at e0;exact .mk b hi (sU b hi a2 hg (hs _ e0) o1 (by show(10:Int)≠0;decide)) w1 w2 rfl ⟨a1,a2,⟨o1,rfl,o3,o4⟩,a3,a4,a6,rfl⟩ (b.zQ rfl (by rw[hp];rfl) _ _ _ _ _) (Lg.nt rfl) trivial
 ·rw[cu h1];rw[cu (by rw[a4,a5];exact h1)]at e0;by_cases h2:(C.most:Int)<=s.mem (.cap i (s.cur i))
  ·rw[aP h2];rw[aP (by rw[o4];exact h2)]at e0;exact .mk b hi (Sv b hi a2 hg (hs _ e0) o1 rfl rfl) w1 w2 rfl rfl (b.zQ rfl (by rw[hp];rfl) _ _ _ _ _) (Lg.nt rfl) (by show(11:Nat)≠0;decide)
  ·rw[cu h2];rw[cu (by rw[o4];exact h2)]at e0;refine .mk b hi (sU b hi a2 hg (hs _ e0) o1 (by show(5:Int)≠0;decide)) w1 w2 rfl ⟨a1,a2,⟨o1,rfl,o3,o4⟩,a3,a4,a5,a6,rfl,?_⟩ (b.zQ rfl (by rw[hp];rfl) _ _ _ _ _) (Lg.nt rfl) trivial;show(if(act S i).bx.oR<_ then(act S i).bx.oR else _)=_;rw[o4];unfold Am.jF;split<;>split<;>omega
theorem L0{c:Nat}{bb t cc:Int}(h:Am.E5 C s i bb t cc):cc=Am.vW C (s.cur i)/\Am.jF C cc=Am.vW C (s.cur i+1)/\(1:Int)<=Am.jF C cc/\Am.jF C cc<=4096:=by
 have e:=h.2.2.2.2.1;rw[Am.Gf b.z hi]at e;have h1:=Am.HC b.ok (s.cur i+1);have h2:=Am.Pr b.ok (s.cur i+1);have h3:=b.ok.m4;refine⟨e,by rw[e];exact Am.Bl C _,?_,?_⟩<;>rw[e,Am.Bl C]<;>omega
theorem XP{c:Nat}{bb t cc:Int}(hp:s.pc i= .grow c bb t cc):jN C p sz n M (Am.aJ C s i d) (cF S M (i:Int) D):=by
 obtain⟨w1,w2,w3⟩:=b.ku.wk i hi;rw[hp]at w3;obtain⟨a1,a2,⟨o1,o2,o3,o4⟩,a3,a4,a5,a6,a7,a8⟩:=w3;have P:=(b.dt.1 i hi).ph;unfold Am.rz at P;rw[hp]at P;simp only at P;obtain⟨g1,g2,g3,g4⟩:=L0 b hi (c:=c) P;have hg:(Am.view s).g i= .push c:=by show Am.sig (s.pc i)=_;rw[hp];rfl
 have PB:Am.gen s i=s.cur i:=by unfold Am.gen;rw[hp];rfl
 obtain⟨ag2,q1,q2⟩:=b.room;have RJ:=b.z.aJ b.ok b.dt hi d;have hsz:=NV RJ q1 q2;have hlen:=b.ar.cl.len;have hss:(Am.aJ C s i d).s.size=s.size+1+Am.vW C (s.cur i+1):=by unfold Am.aJ;rw[hp];show s.size+1+Am.jF C cc=_;rw[g2]
 have hs:=qQ o1 o2 eC eC (XJ (k:=Am.vW C (s.cur i+1)) b.ar b.cN o2 (by rw[a8];exact g2) I) (o':={(act S i).bx with J:=6,a2:=s.size}) (by
  rw[aP rfl];unfold fo;rw[dR o2,dR o2,dR o2,dR o2,aP o2])
 have hgs:Am.gen (Am.aJ C s i d).s=Am.cI (Am.gen s) i (s.cur i+1):=by
  unfold Am.aJ;rw[hp];simp only
  funext j;rw[Am.cS];unfold Am.gen;simp only[Am.St.to,Am.cS]
  split
  ·next e=>subst e;rfl
  ·rfl
 have WH:=b.ar.cl.grow (s':=(Am.aJ C s i d).s) b.z hi PB (λa=>by unfold Am.aJ;rw[hp];cases a<;>rfl) hss (by unfold Am.aJ;rw[hp];rfl) hgs;have hbs:(Am.aJ C s i d).s.base=Am.cI s.base i (Am.cI (s.base i) (s.cur i+1) s.size):=by unfold Am.aJ;rw[hp];rfl
 have har:AR C (Am.aJ C s i d).s {nt M (M.cell++List.replicate (1+Am.vW C (s.cur i+1)) 0) 4 s.size ((1+Am.vW C (s.cur i+1):Nat):Int) 0 true with fE:=s.size+((1+Am.vW C (s.cur i+1):Nat):Int)} sz (n+1):=by
  refine⟨b.ar.size,b.ar.s1,hsz,?_,WH,?_⟩
  ·show s.size+((1+Am.vW C (s.cur i+1):Nat):Int)=(((M.cell++List.replicate _ 0).length:Nat):Int);rw[j6,n7];omega
  ·have:=b.ar.lg;show(if M.watched=true then M.log++[_]else M.log).length<=_;split
   ·rw[j6];simp;omega
   ·omega
 have Py:Lg C (Am.aJ C s i d).s M {nt M (M.cell++List.replicate (1+Am.vW C (s.cur i+1)) 0) 4 s.size ((1+Am.vW C (s.cur i+1):Nat):Int) 0 true with fE:=s.size+((1+Am.vW C (s.cur i+1):Nat):Int)} (Am.aax (.cap i (s.cur i+1)) (1+Am.jF C cc)):=by
  have pl:Am.cH C (Am.aJ C s i d).s (.cap i (s.cur i+1))=s.size:=by show(Am.aJ C s i d).s.base i (s.cur i+1)=_;rw[hbs,Am.aU,Am.aU]
  have e:((1+Am.vW C (s.cur i+1):Nat):Int)=1+Am.jF C cc:=by rw[g2];omega
  rw[e];exact Lg.nt (M:=M) (c:=M.cell++List.replicate (1+Am.vW C (s.cur i+1)) 0) pl
 have hb:∀j g,(j≠i∨g<=s.cur i)->(Am.aJ C s i d).s.base j g=s.base j g:=λj g h=>by
  rw[hbs,Am.cS];split
  ·next e=>subst e;rw[Am.aM I]
  ·rfl
 have acV:(Am.aJ C s i d).s.cur=s.cur:=by unfold Am.aJ;rw[hp];rfl
 have hpc:(Am.aJ C s i d).s.pc=Am.cI s.pc i (.p9 c bb t cc):=by unfold Am.aJ;rw[hp];rfl
 have Q6:(Am.aJ C s i d).ev=none:=by unfold Am.aJ;rw[hp]
 have hac:(Am.aJ C s i d).acc=Am.aax (.cap i (s.cur i+1)) (1+Am.jF C cc):=by unfold Am.aJ;rw[hp]
 refine jN.mk (a:={act S i with bx:={(act S i).bx with J:=6,a2:=s.size}}) b hi (by rw[Q6];exact sU b hi a2 hg hs o1 (by show(6:Int)≠0;decide)) w1 (by show(act S i).ay=_;rw[w2];unfold Am.aJ;rw[hp];rfl) hpc ?_ har (by rw[hac];exact Py) (by rw[Q6];trivial)
  (by unfold Am.aJ;rw[hp];intros;rfl) (by unfold Am.aJ;rw[hp];intros;rfl) (λj _=>by rw[acV]) hb (by unfold Am.aJ;rw[hp];rfl) (by unfold Am.aJ;rw[hp];rfl) (by unfold Am.aJ;rw[hp];rfl)
 rw[acV];refine⟨a1,a2,⟨o1,rfl,o3,o4⟩,a3,a4,a5,?_,a7,a8,?_⟩
 ·rw[hb i (s.cur i) (.inr (jU _))];exact a6
 ·show s.size=_;rw[hbs,Am.aU,Am.aU]
theorem PC{c:Nat}{bb t cc:Int}(hp:s.pc i= .p9 c bb t cc):jN C p sz n M (Am.aJ C s i d) (cF S M (i:Int) D):=by
 obtain⟨w1,w2,w3⟩:=b.ku.wk i hi;rw[hp]at w3;obtain⟨a1,a2,⟨o1,o2,o3,o4⟩,a3,a4,a5,a6,a7,a8,a9⟩:=w3;have hg:(Am.view s).g i= .push c:=by show Am.sig (s.pc i)=_;rw[hp];rfl
 have PB:s.cur i+1<=Am.gen s i:=by unfold Am.gen;rw[hp];exact jU _
 have hs:=qQ o1 o2 eC eC (Pw b.ar b.z b.cN hi PB o2 a9) (o':={(act S i).bx with J:=7,i:=(act S i).bx.t}) (by
  rw[aP rfl];unfold fo;rw[dR o2,dR o2,dR o2,dR o2,dR o2,aP o2])
 rw[a8]at hs;unfold Am.aJ;rw[hp];simp only;exact .mk b hi (sU b hi a2 hg hs o1 (by show(7:Int)≠0;decide)) w1 w2 rfl ⟨a1,a2,⟨o1,rfl,o3,o4⟩,a3,a4,a5,a6,a7,a8,a9,a5⟩ (b.BS (c:=.cap i (s.cur i+1)) rfl (by rw[hp];rfl) ⟨hi,PB⟩ _ _ _ _ _) (Lg.nt rfl) trivial
theorem NW{c:Nat}{bb t cc m:Int}(hp:s.pc i= .nM c bb t cc m):jN C p sz n M (Am.aJ C s i d) (cF S M (i:Int) D):=by
 obtain⟨w1,w2,w3⟩:=b.ku.wk i hi;rw[hp]at w3;obtain⟨a1,a2,⟨o1,o2,o3,o4⟩,a3,a4,a5,a6,a7,a8,a9,WI⟩:=w3;have P:=(b.dt.1 i hi).ph;unfold Am.rz at P;rw[hp]at P;simp only at P;obtain⟨g1,g2,g3,g4⟩:=L0 b hi (c:=c) P.1;have r1:=b.LS (i:=i) (x:=m) (by rw[hp];simp[Am.hH]);have hg:(Am.view s).g i= .push c:=by show Am.sig (s.pc i)=_;rw[hp];rfl
 have hs:=qQ o1 o2 eC eC (XK b.ar b.z b.ok b.cN hi (CE s i) o2 a6 (by rw[a7];exact g1) (by rw[WI];exact r1)) (o':={(act S i).bx with J:=8,x:=s.mem (.el i (s.cur i) (Am.ix (act S i).bx.i (act S i).bx.c))}) (by
  rw[aP rfl];unfold fo;rw[dR o2,dR o2,dR o2,dR o2,dR o2,dR o2,aP o2])
 rw[a7,WI]at hs;unfold Am.aJ;rw[hp];simp only;exact .mk b hi (sU b hi a2 hg hs o1 (by show(8:Int)≠0;decide)) w1 w2 rfl ⟨a1,a2,⟨o1,rfl,o3,o4⟩,a3,a4,a5,a6,a7,a8,a9,WI,rfl⟩ (b.zQ rfl (by rw[hp];rfl) _ _ _ _ _) (Lg.nt rfl) trivial
theorem L1{c:Nat}{bb t cc m x:Int}(hp:s.pc i= .nU c bb t cc m x):jN C p sz n M (Am.aJ C s i d) (cF S M (i:Int) D):=by
 obtain⟨w1,w2,w3⟩:=b.ku.wk i hi;rw[hp]at w3;obtain⟨a1,a2,⟨o1,o2,o3,o4⟩,a3,a4,a5,a6,a7,a8,a9,WI,a11⟩:=w3;have P:=(b.dt.1 i hi).ph;unfold Am.rz at P;rw[hp]at P;simp only at P;obtain⟨g1,g2,g3,g4⟩:=L0 b hi (c:=c) P.1;have r1:=b.LS (i:=i) (x:=m) (by rw[hp];simp[Am.hH]);have hg:(Am.view s).g i= .push c:=by show Am.sig (s.pc i)=_;rw[hp];rfl
 have PB:s.cur i+1<=Am.gen s i:=by unfold Am.gen;rw[hp];exact jU _
 have hac:=XL b.ar b.z b.ok b.cN hi PB o2 a9 (by rw[a8];exact g2) (by rw[WI];exact r1);rw[a8,WI,a11]at hac;have hv:=(CW (x:=m) b.ar b.z b.ok hi PB g2 r1).2;have e0:=XO o2 (v:=0) (by rw[WI];omega);have hlt:=P.2.2.2.1;unfold Am.aJ;rw[hp];simp only;by_cases e:m+1<bb
 ·rw[aP e];rw[cu (by rw[WI,a4];omega)]at e0;have hs:=qQ o1 o2 eC eC hac (o':=_) (by rw[aP rfl];exact e0);exact .mk b hi (sU b hi a2 hg hs o1 (by show(7:Int)≠0;decide)) w1 w2 rfl ⟨a1,a2,⟨o1,rfl,o3,o4⟩,a3,a4,a5,a6,a7,a8,a9,by rw[<-WI]⟩ (b.BS (c:=.el i (s.cur i+1) (Am.ix m (Am.jF C cc))) rfl (by rw[hp];rfl) hv _ _ _ _ _) (Lg.nt rfl) trivial
 ·rw[cu e];rw[aP (by rw[WI,a4];omega)]at e0;have hs:=qQ o1 o2 eC eC hac (o':=_) (by rw[aP rfl];exact e0);exact .mk b hi (sU b hi a2 hg hs o1 (by show(9:Int)≠0;decide)) w1 w2 rfl ⟨a1,a2,⟨o1,rfl,o3,o4⟩,a3,a4,a8,a9⟩ (b.BS (c:=.el i (s.cur i+1) (Am.ix m (Am.jF C cc))) rfl (by rw[hp];rfl) hv _ _ _ _ _) (Lg.nt rfl) trivial
theorem PD{c:Nat}{bb t cc:Int}(hp:s.pc i= .qP c bb t cc):jN C p sz n M (Am.aJ C s i d) (cF S M (i:Int) D):=by
 obtain⟨w1,w2,w3⟩:=b.ku.wk i hi;rw[hp]at w3;obtain⟨a1,a2,⟨o1,o2,o3,o4⟩,a3,a4,a8,a9⟩:=w3;have hg:(Am.view s).g i= .push c:=by show Am.sig (s.pc i)=_;rw[hp];rfl
 have hs:=qQ o1 o2 eC eC (Px b.ar b.z b.cN hi o2 o3) (o':={(act S i).bx with J:=10,a:=(act S i).bx.a2,c:=(act S i).bx.c2}) (by
  rw[aP rfl];unfold fo;rw[dR o2,dR o2,dR o2,dR o2,dR o2,dR o2,dR o2,dR o2,aP o2])
 unfold Am.aJ;rw[hp];simp only;have hcu:Am.cI s.cur i (s.cur i+1) i=s.cur i+1:=Am.aU _ _ _;refine .mk b hi (sU b hi a2 hg hs o1 (by show(10:Int)≠0;decide)) w1 w2 (q:=.nN c bb (Am.jF C cc)) rfl ?_ ?_ ?_ trivial (hc:=λj hj=>Am.aM hj)
 ·show ph C i _ _ (Am.cI s.cur i (s.cur i+1) i) _ _;rw[hcu];exact⟨a1,a2,⟨o1,rfl,o3,o4⟩,a3,a4,a9,a8⟩
 ·rw[a9];refine b.ar.set (s':=({s.wr (.buf i) (s.base i (s.cur i+1))with cur:=Am.cI s.cur i (s.cur i+1)}:Am.St).to i (.nN c bb (Am.jF C cc))) b.z (b:=.buf i) (v:=s.base i (s.cur i+1)) hi rfl rfl rfl ?_ _ _ _ _ _
  funext j;unfold Am.gen;simp only[Am.St.to,Am.St.wr,Am.cS]
  split
  ·next e=>subst e;rw[hp];rfl
  ·rfl
 ·rw[a9];exact Lg.nt rfl
theorem NX{c:Nat}{bb cc:Int}(hp:s.pc i= .nN c bb cc):jN C p sz n M (Am.aJ C s i d) (cF S M (i:Int) D):=by
 obtain⟨w1,w2,w3⟩:=b.ku.wk i hi;rw[hp]at w3;obtain⟨a1,a2,⟨o1,o2,o3,o4⟩,a3,a4,a6,a7⟩:=w3;have P:=(b.dt.1 i hi).ph;unfold Am.rz at P;rw[hp]at P;simp only at P;have Tq:cc=Am.vW C (s.cur i):=P.2.2.2.trans (Am.Gf b.z hi);have r1:=b.LS (i:=i) (x:=bb) (by rw[hp];simp[Am.hH]);have hg:(Am.view s).g i= .push c:=by show Am.sig (s.pc i)=_;rw[hp];rfl
 have hv:=(CW (x:=bb) b.ar b.z b.ok hi (CE s i) Tq r1).2;have hs:=qQ o1 o2 eC eC (XM b.ar b.z b.ok b.cN hi (CE s i) o2 a6 (by rw[a7];exact Tq) (by rw[a4];exact r1)) (o':={(act S i).bx with J:=11}) (by
  rw[aP rfl];unfold fo;rw[dR o2,dR o2,dR o2,dR o2,dR o2,dR o2,dR o2,dR o2,dR o2,aP o2])
 rw[a7,a4,a3]at hs;unfold Am.aJ;rw[hp];simp only;exact .mk b hi (sU b hi a2 hg hs o1 (by show(11:Int)≠0;decide)) w1 w2 rfl ⟨a1,a2,⟨o1,rfl,o3,o4⟩,a4⟩ (b.BS (c:=.el i (s.cur i) (Am.ix bb cc)) rfl (by rw[hp];rfl) hv _ _ _ _ _) (Lg.nt rfl) trivial
end
theorem acW{o:bX}(hk:o.kind=1)(hb:-4000000000000<=o.b/\o.b<=4000000000000):jD o=some (o.b+1):=by
 unfold jD;rw[aP hk,eO I]
theorem acX{o:bX}(hk:o.kind=2)(hi:o.i=0):jD o=some o.b:=by
 unfold jD;rw[dR hk,aP hi]
theorem acY{o:bX}(hk:o.kind=2)(hi:o.i=1)(h:o.b<o.t):jD o=some o.t:=by
 unfold jD;rw[dR hk,dR hi,p7]
theorem acZ{o:bX}(hk:o.kind=2)(hi:o.i=1)(h:o.t<=o.b)(hb:-4000000000000<=o.t/\o.t<=4000000000000):jD o=some (o.t+1):=by
 unfold jD;rw[dR hk,dR hi,ef,eO I]
section
variable {o:bX}{v:Int}
theorem ac0(ha:o.J=1)(hv:-4000000000000<=v/\v<=4000000000000):fq o v=some {o with J:=3,b:=v-1}:=by
 unfold fq;rw[aP ha,eO I]
theorem ac1(ha:o.J=3):fq o v=some {o with J:=11,a:=v}:=by
 unfold fq;rw[dR ha,aP ha]
theorem PE(ha:o.J=11):fq o v=if o.i=0 then some {o with J:=2}else if o.BI=true then some {o with J:=0,code:=4,value:=o.x}else some {o with J:=0,code:=5,value:=0}:=by
 unfold fq eU;rw[dR ha,dR ha,aP ha];rfl
theorem ac2(ha:o.J=2):fq o v=if v>o.b then some {o with J:=11,t:=v,i:=1}else some {o with J:=4,t:=v,i:=1}:=by
 unfold fq;rw[dR ha,dR ha,dR ha,aP ha]
theorem ac3(ha:o.J=4)(hv:1<=v):fq o v=some {o with J:=12,c:=v}:=by
 unfold fq;rw[dR ha,dR ha,dR ha,dR ha,aP ha,ef]
theorem aaD(ha:o.J=12):fq o v=if o.t<o.b then some {o with J:=0,x:=v,code:=4,value:=v}else some {o with J:=13,x:=v}:=by
 unfold fq eU;rw[dR ha,dR ha,dR ha,dR ha,dR ha,aP ha];rfl
theorem aaE(ha:o.J=13):fq o v=some {o with J:=11,BI:=v==1}:=by
 unfold fq;rw[dR ha,dR ha,dR ha,dR ha,dR ha,dR ha,aP ha]
theorem ac4(ha:o.J=2):ga o v=some {o with J:=1,t:=v}:=by unfold ga;rw[aP ha]
theorem ac5(ha:o.J=1):ga o v=if o.t>=v then some {o with J:=0,b:=v,code:=5,value:=0}else some {o with J:=3,b:=v}:=by
 unfold ga eU;rw[dR ha,aP ha];rfl
theorem ac6(ha:o.J=3):ga o v=some {o with J:=4,a:=v}:=by
 unfold ga;rw[dR ha,dR ha,aP ha]
theorem ac7(ha:o.J=4)(hv:1<=v):ga o v=some {o with J:=12,c:=v}:=by
 unfold ga;rw[dR ha,dR ha,dR ha,aP ha,ef]
theorem aaF(ha:o.J=12):ga o v=some {o with J:=13,x:=v}:=by
 unfold ga;rw[dR ha,dR ha,dR ha,dR ha,aP ha]
theorem aaG(ha:o.J=13):ga o v=if v=1 then some {o with J:=0,code:=4,value:=o.x}else some {o with J:=0,code:=6,value:=0}:=by
 unfold ga eU;rw[dR ha,dR ha,dR ha,dR ha,dR ha,aP ha];rfl
end
section
variable {K:Nat}{C:Am.kY}{p:aE}{s:Am.St}{S:ag}{M M':af}{sz n i:Nat}{D:aT}{d:Int}{o':bX}
theorem xJ.XQ(b:xJ C p s S M sz n)(hi:i<C.N):wh (⟨S.fH,S.cT⟩:fz) (i:Int)=some (⟨2+10*(C.F:Int),C.N,i,2,8,1,0,0,0,List.replicate 64 ⟨0,0⟩,⟨0,0,0,0,0,0,0,0,0,0,0,0,0,false,0,0⟩⟩:cg):=by
 have h1:=b.ok.n1;have h2:=b.ok.n64;unfold wh nC nQ cE bL;rw[b.ku.lb,b.ku.lw];simp only;rw[ef,ef,au,eO (x:=2+(C.N:Int)) I,p7,p7,tY I,au,aP rfl]
def ac8(C:Am.kY)(i:Nat):cg:=⟨2+10*(C.F:Int),C.N,i,2,8,1,0,0,0,List.replicate 64 ⟨0,0⟩,⟨0,0,0,0,0,0,0,0,0,0,0,0,0,false,0,0⟩⟩
variable (b:xJ C p s S M sz n)(hi:i<C.N)
include b hi
theorem Sw{c:Nat}(hc:(act S i).cr=c)(hg:(Am.view s).g i= .push c)(h1:fJ M (act S i).bx=some (o',M'))(h2:o'.kind=1)(h3:o'.J=0)(h4:o'.code=2){f:Nat}(hf:(act S i).ay=f) :
 cF S M (i:Int) D=some (Dm (Am.ev 2 c f (s.fr c).lX),gP S i {act S i with bx:=o',cR:=ac8 C i,aI:=4},M'):=by
 have hcn:=I5 b hi hg;have hin:bI (act S i).cr S.aK.length:=by rw[hc];exact b.task hcn
 have hw:=b.wl hi;have HO:=(b.ku.wk i hi).self;have ht:=(b.ku.tk c hcn).lX;have hwk:=b.XQ hi;unfold cF eG j3 an;rw[cQ,aP hin,jC,aP hin,wE h1 (Pv (by rw[h2];decide) h3),gH,h4,cu eC,cu eC,aP rfl,aP (by rw[j5];exact b.BW hi)];rw[show J (gP S i {act S i with bx:=o' }).aj i={act S i with bx:=o' }from ot hw];have afm:wh (⟨S.fH,S.cT⟩:fz) (act S i).bz=some (ac8 C i):=by rw[show(act S i).bz=i from HO];exact hwk
 show ei (wh (⟨S.fH,S.cT⟩:fz) (act S i).bz) _=_;rw[afm,au];show some ((⟨0,0,2,(act S i).cr,(act S i).ay,(J S.aK (act S i).cr.toNat).lX⟩:aq),({S with aj:=((S.aj.set i _).set i _).set i _}:ag),M')=_;rw[iX,iX,hf,hc,cQ,ht];rfl
theorem PF{c:Nat}{bb:Int}(hp:s.pc i= .ry c bb):jN C p sz n M (Am.aJ C s i d) (cF S M (i:Int) D):=by
 obtain⟨w1,w2,w3⟩:=b.ku.wk i hi;rw[hp]at w3;obtain⟨a1,a2,⟨o1,o2,o3,o4⟩,a4⟩:=w3;have r1:=b.LS (i:=i) (x:=bb) (by rw[hp];simp[Am.hH]);have hg:(Am.view s).g i= .push c:=by show Am.sig (s.pc i)=_;rw[hp];rfl
 obtain⟨f,hh⟩:=Am.sG b.fi hi (by rw[hp];rfl);have hac:=Bm b.ar b.z b.cN hi o2 o3 (acW o1 (by rw[a4];omega));rw[a4]at hac;have hs:=qQ o1 o2 eC eC hac (o':={(act S i).bx with J:=0,code:=2,value:=0}) (by
  rw[aP rfl];unfold fo eU;rw[dR o2,dR o2,dR o2,dR o2,dR o2,dR o2,dR o2,dR o2,dR o2,dR o2,aP o2];rfl)
 unfold Am.aJ;rw[hp];simp only[hh,pK];exact .mk b hi (Sw b hi a2 hg hs o1 rfl rfl (f:=f) (by rw[show(act S i).ay=fi (s.hold i)from w2,hh];rfl)) w1 w2 rfl ⟨rfl,rfl,rfl,rfl,rfl,rfl,rfl⟩ (b.BS (c:=.bot i) rfl (by rw[hp];rfl) hi _ _ _ _ _) (Lg.nt rfl) (by show(2:Nat)≠0;decide)
theorem wF(h1:fJ M (act S i).bx=some (o',M'))(h2:o'.kind=2)(h3:o'.J≠0):cZ S M (i:Int) D=some (Dm none,gP S i {act S i with bx:=o' },M'):=by
 unfold cZ j3 an;rw[wE h1 (NS (by rw[h2];decide) h3),gH,aP rfl];rfl
theorem Q7(h1:fJ M (act S i).bx=some (o',M'))(h2:o'.kind=2)(h3:o'.J=0)(h4:o'.code=4) :
 cZ S M (i:Int) D=some (Dm none,gP S i {act S i with bx:=o',ay:=o'.value,from_:=-1,aI:=0},M'):=by
 have hw:=b.wl hi;unfold cZ j3 an;rw[wE h1 (Pv (by rw[h2];decide) h3),gH,h4,cu eC,aP rfl,aP (by rw[j5];exact b.BW hi),cQ];rw[show J (gP S i {act S i with bx:=o' }).aj i={act S i with bx:=o' }from ot hw];show some (_,({S with aj:=(((S.aj.set i _).set i _).set i _).set i _}:ag),M')=_;rw[iX,iX,iX];rfl
theorem pop_empty(h1:fJ M (act S i).bx=some (o',M'))(h2:o'.kind=2)(h3:o'.J=0)(h4:o'.code=5) :
 cZ S M (i:Int) D=some (Dm none,gP S i {act S i with bx:=o',gu:=0,aI:=9},M'):=by
 have hw:=b.wl hi;unfold cZ j3 an;rw[wE h1 (Pv (by rw[h2];decide) h3),gH,h4,cu eC,cu eC,aP rfl,aP (by rw[j5];exact b.BW hi),cQ];rw[show J (gP S i {act S i with bx:=o' }).aj i={act S i with bx:=o' }from ot hw];show some (_,({S with aj:=((S.aj.set i _).set i _).set i _}:ag),M')=_;rw[iX,iX];rfl
theorem XR(hp:s.pc i= .E3):jN C p sz n M (Am.aJ C s i d) (cZ S M (i:Int) D):=by
 obtain⟨w1,w2,w3⟩:=b.ku.wk i hi;rw[hp]at w3;obtain⟨a1,⟨o1,o2,o3,o4⟩,a3,a4⟩:=w3;have r:=b.NP (a:=.bot i) rfl;have hs:=qQ o1 o2 eC eC (HD b.ar b.z b.cN hi o2 o3) (by rw[cu eC,aP rfl];exact ac0 o2 I);unfold Am.aJ;rw[hp];simp only;exact .mk b hi (wF b hi hs o1 (by show(3:Int)≠0;decide)) w1 w2 rfl ⟨a1,⟨o1,rfl,o3,o4⟩,a3,a4,rfl⟩ (b.zQ rfl (by rw[hp];rfl) _ _ _ _ _) (Lg.nt rfl) trivial
theorem Sx{bb:Int}(hp:s.pc i= .yE bb):jN C p sz n M (Am.aJ C s i d) (cZ S M (i:Int) D):=by
 obtain⟨w1,w2,w3⟩:=b.ku.wk i hi;rw[hp]at w3;obtain⟨a1,⟨o1,o2,o3,o4⟩,a3,a4,a5⟩:=w3;have hs:=qQ o1 o2 eC eC (LX b.ar b.z b.cN hi o2 o3) (by rw[cu eC,aP rfl];exact ac1 o2);unfold Am.aJ;rw[hp];simp only;exact .mk b hi (wF b hi hs o1 (by show(11:Int)≠0;decide)) w1 w2 rfl ⟨a1,⟨o1,rfl,o3,o4⟩,a3,a4,a5,(b.dt.1 i hi).Gd⟩ (b.zQ rfl (by rw[hp];rfl) _ _ _ _ _) (Lg.nt rfl) trivial
theorem NY{bb:Int}(hp:s.pc i= .sQ bb):jN C p sz n M (Am.aJ C s i d) (cZ S M (i:Int) D):=by
 obtain⟨w1,w2,w3⟩:=b.ku.wk i hi;rw[hp]at w3;obtain⟨a1,⟨o1,o2,o3,o4⟩,a3,a4,a5,a6⟩:=w3;have hac:=Bm b.ar b.z b.cN hi o2 o3 (acX o1 a3);rw[a5]at hac;have hs:=qQ o1 o2 eC eC hac (by rw[cu eC,aP rfl,PE o2,aP a3]);unfold Am.aJ;rw[hp];simp only;exact .mk b hi (wF b hi hs o1 (by show(2:Int)≠0;decide)) w1 w2 rfl ⟨a1,⟨o1,rfl,o3,o4⟩,a5,a6,a4⟩ (b.BS (c:=.bot i) rfl (by rw[hp];rfl) hi _ _ _ _ _) (Lg.nt rfl) trivial
theorem XS{bb:Int}(hp:s.pc i= .Eb bb):jN C p sz n M (Am.aJ C s i d) (cZ S M (i:Int) D):=by
 obtain⟨w1,w2,w3⟩:=b.ku.wk i hi;rw[hp]at w3;obtain⟨a1,⟨o1,o2,o3,o4⟩,a5,a6,a4⟩:=w3;have hac:=HE b.ar b.z b.cN hi o2 o3;have hs:=λo' h=>qQ o1 o2 eC eC hac (o':=o') (by rw[cu eC,aP rfl];exact h);have e:=ac2 o2 (v:=s.mem (.top i));unfold Am.aJ;rw[hp];simp only;by_cases h1:s.mem (.top i)<bb
 ·rw[aP h1];rw[cu (by rw[a5];omega)]at e;exact .mk b hi (wF b hi (hs _ e) o1 (by show(4:Int)≠0;decide)) w1 w2 rfl ⟨a1,⟨o1,rfl,o3,o4⟩,rfl,a5,rfl,a6⟩ (b.zQ rfl (by rw[hp];rfl) _ _ _ _ _) (Lg.nt rfl) trivial
 ·rw[cu h1];by_cases h2:s.mem (.top i)=bb
  ·rw[aP h2];rw[cu (by rw[a5];omega)]at e;exact .mk b hi (wF b hi (hs _ e) o1 (by show(4:Int)≠0;decide)) w1 w2 rfl ⟨a1,⟨o1,rfl,o3,o4⟩,rfl,a5,rfl,a6⟩ (b.zQ rfl (by rw[hp];rfl) _ _ _ _ _) (Lg.nt rfl) trivial
  ·rw[cu h2];rw[aP (by rw[a5];omega)]at e;exact .mk b hi (wF b hi (hs _ e) o1 (by show(11:Int)≠0;decide)) w1 w2 rfl ⟨a1,⟨o1,rfl,o3,o4⟩,rfl,rfl,by show(act S i).bx.b<_;rw[show(act S i).bx.b=bb from a5];omega,a4⟩ (b.zQ rfl (by rw[hp];rfl) _ _ _ _ _) (Lg.nt rfl) trivial
theorem E7{tr cj:Nat}{bs:Nat->Nat->Int}{a:bH}(h1:a.aI=9)(h2:a.gu=0)(h3:tr=0):ph C i (if C.N=1 then .flag else .oB) tr cj bs a:=by
 by_cases e:C.N=1
 ·rw[aP e];exact .inl ⟨h1,e⟩
 ·rw[cu e];exact⟨h1,by rw[h2,h3];rfl,I⟩
theorem E8{q:Am.Pc}(h:Am.mh q=false):Am.mh (if C.N=1 then .flag else .oB)=Am.mh q:=by rw[h];split<;>rfl
theorem NZ{t:Int}(hp:s.pc i= .rN t):jN C p sz n M (Am.aJ C s i d) (cZ S M (i:Int) D):=by
 obtain⟨w1,w2,w3⟩:=b.ku.wk i hi;rw[hp]at w3;obtain⟨a1,⟨o1,o2,o3,o4⟩,a3,a5,a6,a4⟩:=w3;have hac:=Bm b.ar b.z b.cN hi o2 o3 (acY o1 a3 (by rw[a5];exact a6));rw[a5]at hac;have hs:=qQ o1 o2 eC eC hac (by rw[cu eC,aP rfl,PE o2,dR a3,dR a4]);unfold Am.aJ;rw[hp];simp only;exact .mk b hi (pop_empty b hi hs o1 rfl rfl) w1 w2 rfl (E7 b hi rfl rfl (Am.aU _ _ _)) (b.BS (c:=.bot i) rfl (by rw[hp];exact E8 b hi rfl) hi _ _ _ _ _) (Lg.nt rfl) trivial (Su:=λj hj=>Am.aM hj)
theorem Sy{bb t:Int}(hp:s.pc i= .wo bb t):jN C p sz n M (Am.aJ C s i d) (cZ S M (i:Int) D):=by
 obtain⟨w1,w2,w3⟩:=b.ku.wk i hi;rw[hp]at w3;obtain⟨a1,⟨o1,o2,o3,o4⟩,a3,a4,a5,a6⟩:=w3;obtain⟨c0,c1,c2,c3⟩:=Zo b hi;have hs:=qQ o1 o2 eC eC (LY b.ar b.z b.cN hi (CE s i) o2 a6) (by rw[cu eC,aP rfl];exact ac3 o2 c1);unfold Am.aJ;rw[hp];simp only;exact .mk b hi (wF b hi hs o1 (by show(12:Int)≠0;decide)) w1 w2 rfl ⟨a1,⟨o1,rfl,o3,o4⟩,a3,a4,a5,a6,rfl⟩ (b.zQ rfl (by rw[hp];rfl) _ _ _ _ _) (Lg.nt rfl) trivial
theorem PG{bb t cc:Int}(hp:s.pc i= .sF bb t cc):jN C p sz n M (Am.aJ C s i d) (cZ S M (i:Int) D):=by
 obtain⟨w1,w2,w3⟩:=b.ku.wk i hi;rw[hp]at w3;obtain⟨a1,⟨o1,o2,o3,o4⟩,a3,a4,a5,a6,a7⟩:=w3;have P:=(b.dt.1 i hi).ph;unfold Am.rz at P;rw[hp]at P;simp only at P;have Tq:cc=Am.vW C (s.cur i):=P.2.trans (Am.Gf b.z hi);have r1:=b.LS (i:=i) (x:=bb) (by rw[hp];simp[Am.hH]);have hac:=NT (x:=bb) b.ar b.z b.ok b.cN hi (CE s i) o2 a6 (by rw[a7];exact Tq) (by rw[aP o1];exact a4.symm) r1;rw[a7]at hac;have hs:=λo' h=>qQ o1 o2 eC eC hac (o':=o') (by rw[cu eC,aP rfl];exact h);have e:=aaD o2 (v:=s.mem (.el i (s.cur i) (Am.ix bb cc)));unfold Am.aJ;rw[hp];simp only;by_cases h1:t<bb
 ·rw[aP h1];rw[aP (by rw[a4,a5];exact h1)]at e;obtain⟨x,hx,he⟩:=(P.1.2.2.2.1 h1).2.2;rw[<-P.2]at he;have hn:fi (some (s.mem (.el i (s.cur i) (Am.ix bb cc))).toNat)=s.mem (.el i (s.cur i) (Am.ix bb cc)):=by rw[he];rfl
  exact .mk b hi (Q7 b hi (hs _ e) o1 rfl rfl) w1 (by show s.mem _=fi (Am.cI s.hold i _ i);rw[Am.aU];exact hn.symm) rfl ⟨rfl,rfl⟩ (b.zQ rfl (by rw[hp];rfl) _ _ _ _ _) (Lg.nt rfl) trivial (hh:=λj hj=>Am.aM hj)
 ·rw[cu h1];rw[cu (by rw[a4,a5];exact h1)]at e;exact .mk b hi (wF b hi (hs _ e) o1 (by show(13:Int)≠0;decide)) w1 w2 rfl ⟨a1,⟨o1,rfl,o3,o4⟩,a3,a4,a5,rfl⟩ (b.zQ rfl (by rw[hp];rfl) _ _ _ _ _) (Lg.nt rfl) trivial
theorem Sz{bb t x:Int}(hp:s.pc i= .uT bb t x):jN C p sz n M (Am.aJ C s i d) (cZ S M (i:Int) D):=by
 obtain⟨w1,w2,w3⟩:=b.ku.wk i hi;rw[hp]at w3;obtain⟨a1,⟨o1,o2,o3,o4⟩,a3,a4,a5,a6⟩:=w3;have P:=(b.dt.1 i hi).ph;unfold Am.rz at P;rw[hp]at P;simp only at P;have r1:=b.LS (i:=i) (x:=t) (by rw[hp];simp[Am.hH]);have hac:=Q5 b.ar b.z b.cN hi o2 o3 (by rw[a5];exact r1);rw[a5]at hac;have hs:=qQ o1 o2 eC eC hac (by rw[cu eC,aP rfl];exact aaE o2);have htb:t<=(act S i).bx.b:=by rw[show(act S i).bx.b=bb from a4];omega
 unfold Am.aJ;rw[hp];simp only;by_cases h1:s.mem (.top i)=t
 ·rw[aP h1];rw[aP h1,aP h1]at hs;exact .mk b hi (wF b hi hs o1 (by show(11:Int)≠0;decide)) w1 w2 rfl ⟨a1,⟨o1,rfl,o3,o4⟩,a3,a5,htb,a6,rfl⟩ (b.BS (c:=.top i) rfl (by rw[hp];rfl) hi _ _ _ _ _) (by rw[show(s.mem (.top i)==t)=true by rw[h1];simp];exact Lg.nt rfl) trivial
 ·rw[cu h1];rw[cu h1,cu h1]at hs;exact .mk b hi (wF b hi hs o1 (by show(11:Int)≠0;decide)) w1 w2 rfl ⟨a1,⟨o1,rfl,o3,o4⟩,a3,a5,htb,a6,rfl⟩ (b.zQ rfl (by rw[hp];rfl) _ _ _ _ _) (by rw[show(s.mem (.top i)==t)=false by simpa using h1];exact Lg.nt rfl) trivial
theorem SA{t x:Int}{BI:Bool}(hp:s.pc i= .tc t x BI):jN C p sz n M (Am.aJ C s i d) (cZ S M (i:Int) D):=by
 obtain⟨w1,w2,w3⟩:=b.ku.wk i hi;rw[hp]at w3;obtain⟨a1,⟨o1,o2,o3,o4⟩,a3,a5,a8,a6,a7⟩:=w3;have P:=(b.dt.1 i hi).ph;unfold Am.rz at P;rw[hp]at P;simp only at P;have r1:=b.LS (i:=i) (x:=t) (by rw[hp];simp[Am.hH]);have hac:=Bm b.ar b.z b.cN hi o2 o3 (acZ o1 a3 (by rw[a5];exact a8) (by rw[a5];omega));rw[a5]at hac;have e:=PE o2 (v:=0);rw[dR a3]at e;have hs:=λo' h=>qQ o1 o2 eC eC hac (o':=o') (by rw[cu eC,aP rfl];exact h);unfold Am.aJ;rw[hp];simp only;cases BI with
 | true =>
  rw[aP a7]at e;have hx:=(P.2.2.2 rfl).2;have hn:fi (some x.toNat)=x:=by show((x.toNat:Nat):Int)=x;omega
  exact .mk b hi (Q7 b hi (hs _ e) o1 rfl rfl) w1 (by show(act S i).bx.x=fi (Am.cI s.hold i _ i);rw[Am.aU,show(act S i).bx.x=x from a6];exact hn.symm) rfl ⟨rfl,rfl⟩ (b.BS (c:=.bot i) rfl (by rw[hp];rfl) hi _ _ _ _ _) (Lg.nt rfl) trivial (hh:=λj hj=>Am.aM hj) (Su:=λj hj=>Am.aM hj)
 | false =>
  rw[dR a7]at e;exact .mk b hi (pop_empty b hi (hs _ e) o1 rfl rfl) w1 w2 rfl (E7 b hi rfl rfl (Am.aU _ _ _)) (b.BS (c:=.bot i) rfl (by rw[hp];exact E8 b hi rfl) hi _ _ _ _ _) (Lg.nt rfl) trivial (Su:=λj hj=>Am.aM hj)
end
theorem Vw{x n:Int}(h1:1<=n)(h2:n<=1000):wC x n=some (x%n):=by
 have e1:=B7 x (b:=n) I;have e2:=Dx x (show 0<n by omega);have e4:x.tmod n=if 0<=x∨n∣x then x%n else x%n-n:=by
  rw[Ke];split
  ·omega
  ·rw[show((n.natAbs:Nat):Int)=n by omega]
 unfold wC;rw[ef,p7,e4];by_cases h:0<=x∨n∣x
 ·rw[aP h,ef]
 ·rw[cu h,p7,eO I];congr 1;omega
def aaH(C:Am.kY):cg:=⟨2+10*(C.F:Int),C.N,0,3,3,0,0,0,0,List.replicate 64 ⟨0,0⟩,⟨0,0,0,0,0,0,0,0,0,0,0,0,0,false,0,0⟩⟩
def E9(C:Am.kY)(k a:Int)(v:Nat)(x:Int):bX:=⟨k,a,Am.xu C v,C.most,x,0,0,0,0,0,0,0,0,false,0,0⟩
section
variable {K:Nat}{C:Am.kY}{p:aE}{s:Am.St}{S:ag}{M M':af}{sz n i:Nat}{D:aT}{d:Int}{o':bX}
variable (b:xJ C p s S M sz n)(hi:i<C.N)
include b
theorem CF(k a:Int)(v:Nat)(x:Int):po k a (NR C v) x=some (E9 C k a v x):=by
 have h1:=b.ok.c1;have h2:=b.ok.cm;have h3:=b.ok.m4;unfold po NR;simp only;rw[ef,ef];rfl
theorem XT:yh (⟨S.fH,S.cT⟩:fz)=some (aaH C):=by
 have h1:=b.ok.n1;have h2:=b.ok.n64;unfold yh nQ cE bL;rw[b.ku.lb,b.ku.lw];simp only;rw[ef,ef,au,eO (x:=2+(C.N:Int)) I,ef];rfl
include hi
theorem CX(h1:fJ M (act S i).bx=some (o',M'))(h2:o'.kind=3)(h3:o'.J≠0):cL S M (i:Int) D=some (Dm none,gP S i {act S i with bx:=o' },M'):=by
 unfold cL j3 an;rw[wE h1 (NS (by rw[h2];decide) h3),gH,aP rfl];rfl
theorem SB(h1:fJ M (act S i).bx=some (o',M'))(h2:o'.kind=3)(h3:o'.J=0)(h4:o'.code=4){v:Nat}(hv:(act S i).fO=v) :
 cL S M (i:Int) D=some (Dm (Am.ev 8 o'.value v 0),gP S i {act S i with bx:=o',ay:=o'.value,from_:=(v:Int),aI:=0},M'):=by
 have hw:=b.wl hi;unfold cL j3 an;rw[wE h1 (Pv (by rw[h2];decide) h3),gH,h4,cu eC,aP rfl,aP (by rw[j5];exact b.BW hi),cQ];rw[show J (gP S i {act S i with bx:=o' }).aj i={act S i with bx:=o' }from ot hw];show some ((⟨0,0,8,o'.value,(act S i).fO,0⟩:aq),({S with aj:=(((S.aj.set i _).set i _).set i {act S i with bx:=o',ay:=o'.value,from_:=(act S i).fO}).set i {act S i with bx:=o',ay:=o'.value,from_:=(act S i).fO,aI:=0}}:ag),M')=_;rw[iX,iX,iX,hv];rfl
theorem I6(h1:fJ M (act S i).bx=some (o',M'))(h2:o'.kind=3)(h3:o'.J=0)(h4:o'.code=5∨o'.code=6){t:Nat}(ht:(act S i).gu=t/\t<3) :
 cL S M (i:Int) D=some (Dm none,gP S i {act S i with bx:=o',gu:=(t:Int)+1,cR:=aaH C,aI:=11},M'):=by
 have hw:=b.wl hi;have hpk:=XT b;unfold cL j3 an;have hc:(if o'.code=5 then some (o'.code==5)else some (o'.code==6))=some true:=by
  rcases h4 with h | h
  ·rw[aP h,h];rfl
  ·rw[dR h,h];rfl
 rw[wE h1 (Pv (by rw[h2];decide) h3),gH,cu (by rcases h4 with h | h<;>rw[h]<;>decide),cu (by rcases h4 with h | h<;>rw[h]<;>decide),hc,au,aP rfl,aP (by rw[j5];exact b.BW hi),cQ];rw[show J (gP S i {act S i with bx:=o' }).aj i={act S i with bx:=o' }from ot hw];show ei (yh (⟨S.fH,S.cT⟩:fz)) _=_;rw[hpk,au];show some (_,({S with aj:=(((S.aj.set i _).set i _).set i _).set i {act S i with bx:=o',gu:=wi ((act S i).gu+1),cR:=aaH C,aI:=11}}:ag),M')=_;rw[iX,iX,iX,ht.1,eO I];rfl
theorem SC{v:Nat}{t:Int}(hp:s.pc i= .xq v t):jN C p sz n M (Am.aJ C s i d) (cL S M (i:Int) D):=by
 obtain⟨w1,w2,w3⟩:=b.ku.wk i hi;rw[hp]at w3;obtain⟨a1,a2,a3,⟨o1,o2,o3,o4⟩,a4⟩:=w3;have T:=b.dt.2 i hi;unfold Am.Th at T;rw[hp]at T;simp only at T;have hac:=HD b.ar b.z b.cN T.1 o2 o3;have hs:=λo' h=>qQ o1 o2 eC eC hac (o':=o') (by rw[cu eC,cu eC,aP rfl];exact h);have e:=ac5 o2 (v:=s.mem (.bot v));unfold Am.aJ;rw[hp];simp only;by_cases h1:s.mem (.bot v)<=t
 ·rw[aP h1];rw[aP (by rw[a4];exact h1)]at e;exact .mk b hi (I6 b hi (hs _ e) o1 rfl (.inl rfl) a2) w1 w2 rfl ⟨rfl,by show(_:Int)=((Am.cI s.gu i (s.gu i+1) i:Nat):Int);rw[Am.aU];rfl,rfl,rfl,rfl,rfl⟩ (b.zQ rfl (by rw[hp];rfl) _ _ _ _ _) (Lg.nt rfl) trivial (Su:=λj hj=>Am.aM hj)
 ·rw[cu h1];rw[cu (by rw[a4];exact h1)]at e;exact .mk b hi (CX b hi (hs _ e) o1 (by show(3:Int)≠0;decide)) w1 w2 rfl ⟨a1,a2,a3,⟨o1,rfl,o3,o4⟩,a4⟩ (b.zQ rfl (by rw[hp];rfl) _ _ _ _ _) (Lg.nt rfl) trivial
theorem N0{v:Nat}{t:Int}(hp:s.pc i= .sR v t):jN C p sz n M (Am.aJ C s i d) (cL S M (i:Int) D):=by
 obtain⟨w1,w2,w3⟩:=b.ku.wk i hi;rw[hp]at w3;obtain⟨a1,a2,a3,⟨o1,o2,o3,o4⟩,a4⟩:=w3;have T:=b.dt.2 i hi;unfold Am.Th at T;rw[hp]at T;simp only at T;have hs:=qQ o1 o2 eC eC (LX b.ar b.z b.cN T.1 o2 o3) (by rw[cu eC,cu eC,aP rfl];exact ac6 o2);unfold Am.aJ;rw[hp];simp only;exact .mk b hi (CX b hi hs o1 (by show(4:Int)≠0;decide)) w1 w2 rfl ⟨a1,a2,a3,⟨o1,rfl,o3,o4⟩,a4,(b.dt.1 v T.1).Gd⟩ (b.zQ rfl (by rw[hp];rfl) _ _ _ _ _) (Lg.nt rfl) trivial
theorem N1{v g:Nat}{t:Int}(hp:s.pc i= .rO v t g):jN C p sz n M (Am.aJ C s i d) (cL S M (i:Int) D):=by
 obtain⟨w1,w2,w3⟩:=b.ku.wk i hi;rw[hp]at w3;obtain⟨a1,a2,a3,⟨o1,o2,o3,o4⟩,a4,a5⟩:=w3;have T:=b.dt.2 i hi;unfold Am.Th at T;rw[hp]at T;simp only at T;have hg:=Fu T.2.2.2.1 (CE s v);have h1:=(b.dt.1 v T.1).Bi g T.2.2.2.1;have hs:=qQ o1 o2 eC eC (LY b.ar b.z b.cN T.1 hg o2 a5) (by rw[cu eC,cu eC,aP rfl];exact ac7 o2 h1);unfold Am.aJ;rw[hp];simp only;exact .mk b hi (CX b hi hs o1 (by show(12:Int)≠0;decide)) w1 w2 rfl ⟨a1,a2,a3,⟨o1,rfl,o3,o4⟩,a4,a5,rfl⟩ (b.zQ rfl (by rw[hp];rfl) _ _ _ _ _) (Lg.nt rfl) trivial
theorem L2{v g:Nat}{t cc:Int}(hp:s.pc i= .pG v t g cc):jN C p sz n M (Am.aJ C s i d) (cL S M (i:Int) D):=by
 obtain⟨w1,w2,w3⟩:=b.ku.wk i hi;rw[hp]at w3;obtain⟨a1,a2,a3,⟨o1,o2,o3,o4⟩,a4,a5,a6⟩:=w3;have T:=b.dt.2 i hi;unfold Am.Th at T;rw[hp]at T;simp only at T;have hg:=Fu T.2.2.2.1 (CE s v);have Tq:cc=Am.vW C g:=T.2.2.2.2.1.trans (b.z.cap v T.1 g T.2.2.2.1);have r1:=b.LS (i:=i) (x:=t) (by rw[hp];simp[Am.hH]);have hac:=NT (x:=t) b.ar b.z b.ok b.cN T.1 hg o2 a5 (by rw[a6];exact Tq) (by rw[dR o1];exact a4.symm) r1;rw[a6]at hac;have hs:=qQ o1 o2 eC eC hac (by rw[cu eC,cu eC,aP rfl];exact aaF o2);unfold Am.aJ;rw[hp];simp only;exact .mk b hi (CX b hi hs o1 (by show(13:Int)≠0;decide)) w1 w2 rfl ⟨a1,a2,a3,⟨o1,rfl,o3,o4⟩,a4,rfl⟩ (b.zQ rfl (by rw[hp];rfl) _ _ _ _ _) (Lg.nt rfl) trivial
theorem N2{v:Nat}{t x:Int}(hp:s.pc i= .oK v t x):jN C p sz n M (Am.aJ C s i d) (cL S M (i:Int) D):=by
 obtain⟨w1,w2,w3⟩:=b.ku.wk i hi;rw[hp]at w3;obtain⟨a1,a2,a3,⟨o1,o2,o3,o4⟩,a4,a5⟩:=w3;have T:=b.dt.2 i hi;unfold Am.Th at T;rw[hp]at T;simp only at T;have r1:=b.LS (i:=i) (x:=t) (by rw[hp];simp[Am.hH]);have hac:=Q5 b.ar b.z b.cN T.1 o2 o3 (by rw[a4];exact r1);rw[a4]at hac;have hs:=λo' h=>qQ o1 o2 eC eC hac (o':=o') (by rw[cu eC,cu eC,aP rfl];exact h);have e:=aaG o2 (v:=if s.mem (.top v)=t then 1 else 0);unfold Am.aJ;rw[hp];simp only;by_cases h1:s.mem (.top v)=t
 ·rw[aP h1]at e hs;rw[aP rfl]at e;rw[aP h1]at hs;rw[aP h1];obtain⟨y,l,hq,hx⟩:=T.2.2.2 h1.symm;have hn:fi (some x.toNat)=x:=by rw[hx];rfl
  have ha:=SB b hi (D:=D) (hs _ e) o1 rfl rfl a3;simp only[a5]at ha;exact .mk b hi ha w1 (by show x=fi (Am.cI s.hold i _ i);rw[Am.aU];exact hn.symm) rfl ⟨rfl,rfl⟩ (b.BS (c:=.top v) rfl (by rw[hp];rfl) T.1 _ _ _ _ _) (by rw[show(s.mem (.top v)==t)=true by rw[h1];simp];exact Lg.nt rfl) (by show(8:Nat)≠0;decide) (hh:=λj hj=>Am.aM hj)
 ·rw[cu h1]at e hs;rw[cu eC]at e;rw[cu h1]at hs;rw[cu h1];exact .mk b hi (I6 b hi (hs _ e) o1 rfl (.inr rfl) a2) w1 w2 rfl ⟨rfl,by show(_:Int)=((Am.cI s.gu i (s.gu i+1) i:Nat):Int);rw[Am.aU];rfl,rfl,rfl,rfl,rfl⟩ (b.zQ rfl (by rw[hp];rfl) _ _ _ _ _) (by rw[show(s.mem (.top v)==t)=false by simpa using h1];exact Lg.nt rfl) trivial (Su:=λj hj=>Am.aM hj)
end
theorem CY{C:Am.kY}{i j k:Nat}(hi:i<C.N)(h:ring C i j k):(k+1=C.N/\Am.NK C j=i)∨(k+1<C.N/\Am.NK C j≠i/\ring C i (Am.NK C j) (k+1)):=by
 obtain⟨h1,h2,rfl⟩:=h;have e:Am.NK C ((i+k)%C.N)=(i+(k+1))%C.N:=by unfold Am.NK;rw[Nat.mod_add_mod,Nat.add_assoc]
 rw[e];by_cases hk:k+1=C.N
 ·left;exact⟨hk,by rw[hk,Nat.add_mod_right,HM hi]⟩
 ·right
  refine⟨I,λh => ?_,I,I,rfl⟩;rcases Dv (i+(k+1)) C.N with h' | h'
  ·rw[HM h']at h;omega
  ·rw[Nat.mod_eq_sub_mod h',HM I]at h;omega
theorem Ee{C:Am.kY}{i:Nat}(hi:i<C.N):(C.N=1/\Am.NK C i=i)∨(1<C.N/\Am.NK C i≠i/\ring C i (Am.NK C i) 1):=by
 unfold Am.NK ring;by_cases h:C.N=1
 ·left;refine⟨h,?_⟩;rw[h,Nat.mod_one];omega
 ·right
  refine⟨I,λh' => ?_,I,I,rfl⟩;rcases Dv (i+1) C.N with e | e
  ·rw[HM e]at h';omega
  ·rw[Nat.mod_eq_sub_mod e,HM I]at h';omega
theorem Fa{C:Am.kY}{i j k:Nat}(h:ring C i j k):j<C.N:=by obtain⟨h1,h2,rfl⟩:=h;exact Du _ I
section
variable {o o':cg}{M M':af}{v:Int}
theorem Ap{k a:Int}(hk:o.dI=k)(ha:o.az=a)(hk0:k≠0)(ha0:a≠0)(ha4:a≠4)(hx:cw o M=some (v,0,M'))
 (hn:(if k=1 then gD o v else if k=2 then jh o v else if k=3 then some {o with az:=0,eF:=if v=1 then 17 else 16,fG:=0}else iG o v)=some o'):eV M o=some (o',M'):=by
 subst hk;subst ha;unfold eV dS;rw[cu hk0,cu ha0,fA,cu ha4,hx,dr,aP rfl];split at hn
 ·rename_i h;rw[aP h,hn,au]
 ·rename_i h;rw[cu h];split at hn
  ·rename_i h;rw[aP h,hn,au]
  ·rename_i h;rw[cu h];split at hn
   ·rename_i h;rw[aP h,au];by_cases e:v=1
    ·rw[aP e];rw[aP e]at hn;cases hn;rfl
    ·rw[cu e];rw[cu e]at hn;cases hn;rfl
   ·rename_i h;rw[cu h,hn,au]
theorem aaI(ha:o.az=9){k:Int}(hk:wi (o.dD+1)=k):jh o v=if v=1 then some {o with az:=7}else if k=o.ck then some {o with az:=0,dD:=k,eF:=19,fG:=0}else some {o with dD:=k}:=by
 unfold jh dS;rw[dR ha,aP ha,hk];rfl
theorem Q8(hk:o.dI≠0)(ha:o.az≠0):qJ o=some (0,0):=by
 unfold qJ;rw[cu hk,cu ha]
theorem N3(hk:o.dI≠0)(ha:o.az=0):qJ o=some (o.eF,o.fG):=by
 unfold qJ;rw[cu hk,aP ha]
end
section
variable {C:Am.kY}{s:Am.St}{M:af}{sz n i:Nat}{o:cg}
theorem Q9(h:AR C s M sz n)(hz:Am.SZ C s){j:Nat}(hj:j<C.N)(hb:o.bV=2+10*(C.F:Int)):nD o (j:Int)=some (Am.cH C s (.flag j)):=by
 have p:=h.XI hz (a:=.flag j) hj;have e:Am.cH C s (.flag j)=2+10*(C.F:Int)+2+j:=by show(4:Int)+10*C.F+j=_;omega
 rw[e]at p;unfold nD;rw[hb,eO (x:=2+10*(C.F:Int)+2) I,eO I,e]
theorem aaJ(h:AR C s M sz n)(hz:Am.SZ C s)(hb:o.bV=2+10*(C.F:Int)):wi (o.bV+0)=Am.cH C s .ve:=by
 refine h.cast hz (a:=.ve) trivial ?_;rw[hb];show _=(2:Int)+10*C.F;omega
theorem ac9(h:AR C s M sz n)(hz:Am.SZ C s)(hb:o.bV=2+10*(C.F:Int)):wi (o.bV+1)=Am.cH C s .Gb:=by
 refine h.cast hz (a:=.Gb) trivial ?_;rw[hb];show _=(3:Int)+10*C.F;omega
theorem L4{j k:Nat}(hi:i<C.N)(hN:C.N<=64)(hw:o.ck=C.N)(hs:o.gL=i)(hk:o.dD=k)(hr:ring C i j k):lp o=some (j:Int):=by
 obtain⟨h1,h2,rfl⟩:=hr;unfold lp;rw[hw,hs,hk,p7,eO I]
 congr 1
theorem afn(h:AR C s M sz n)(hz:Am.SZ C s)(hn:n<=2000000000)(hi:i<C.N)(hb:o.bV=2+10*(C.F:Int))(hs:o.gL=i)(ha:o.az=1):cw o M=some (0,0,nt M (M.cell.set (Am.cH C s (.flag i)).toNat 1) 1 (Am.cH C s (.flag i)) 1 0 true):=by
 unfold cw;rw[aP ha,hs,Q9 h hz hi hb,au,wD h hz hn (a:=.flag i) hi,eR]
theorem afo(h:AR C s M sz n)(hz:Am.SZ C s)(hn:n<=2000000000)(hb:o.bV=2+10*(C.F:Int))(ha:o.az=2)(hv:-1000000000000<=s.mem .ve/\s.mem .ve<=1000000000000):cw o M=some (s.mem .ve+1,0,nt M (M.cell.set (Am.cH C s .ve).toNat (s.mem .ve+1)) 3 (Am.cH C s .ve) 1 (s.mem .ve+1) true):=by
 unfold cw;rw[dR ha,aP ha,aaJ h hz hb,KB h hz hn (a:=.ve) trivial (eO I),dr]
theorem ada(h:AR C s M sz n)(hz:Am.SZ C s)(hn:n<=2000000000)(hb:o.bV=2+10*(C.F:Int))(ha:o.az=3):cw o M=some (s.mem .Gb,0,nt M M.cell 0 (Am.cH C s .Gb) (s.mem .Gb) 0 true):=by
 unfold cw;rw[dR ha,dR ha,aP ha,ac9 h hz hb,zK h hz hn (a:=.Gb) trivial,dr]
theorem afp(h:AR C s M sz n)(hz:Am.SZ C s)(hn:n<=2000000000)(hi:i<C.N)(hb:o.bV=2+10*(C.F:Int))(hs:o.gL=i)(ha:o.az=5):cw o M=some (s.mem (.flag i),0,nt M M.cell 0 (Am.cH C s (.flag i)) (s.mem (.flag i)) 0 true):=by
 unfold cw;rw[dR ha,dR ha,dR ha,aP ha,hs,Q9 h hz hi hb,au,zK h hz hn (a:=.flag i) hi,dr]
theorem afq(h:AR C s M sz n)(hz:Am.SZ C s)(hn:n<=2000000000)(hi:i<C.N)(hb:o.bV=2+10*(C.F:Int))(hs:o.gL=i)(ha:o.az=6):cw o M=some (if s.mem (.flag i)=1 then 1 else 0,0,nt M (if s.mem (.flag i)=1 then M.cell.set (Am.cH C s (.flag i)).toNat 0 else M.cell) 2 (Am.cH C s (.flag i)) 1 0 (s.mem (.flag i)==1)):=by
 unfold cw;rw[dR ha,dR ha,dR ha,dR ha,aP ha,hs,Q9 h hz hi hb,au,Vn h hz hn (a:=.flag i) hi,dr];by_cases e:s.mem (.flag i)=1
 ·rw[aP (by rw[e];rfl),aP e,aP e]
 ·rw[cu (by simpa using e),cu e,cu e]
theorem aaK(h:AR C s M sz n)(hz:Am.SZ C s)(hn:n<=2000000000)(hb:o.bV=2+10*(C.F:Int))(ha:o.az=7)(hv:-1000000000000<=s.mem .ve/\s.mem .ve<=1000000000000):cw o M=some (s.mem .ve-1,0,nt M (M.cell.set (Am.cH C s .ve).toNat (s.mem .ve-1)) 3 (Am.cH C s .ve) (-1) (s.mem .ve-1) true):=by
 unfold cw;rw[dR ha,dR ha,dR ha,dR ha,dR ha,aP ha,aaJ h hz hb,KB h hz hn (a:=.ve) trivial (v:=s.mem .ve-1) (by rw[eO I];omega),dr]
theorem afr(h:AR C s M sz n)(hz:Am.SZ C s)(hn:n<=2000000000)(hb:o.bV=2+10*(C.F:Int))(ha:o.az=8):cw o M=some (s.mem .ve,0,nt M M.cell 0 (Am.cH C s .ve) (s.mem .ve) 0 true):=by
 unfold cw;rw[dR ha,dR ha,dR ha,dR ha,dR ha,dR ha,aP ha,aaJ h hz hb,zK h hz hn (a:=.ve) trivial,dr]
theorem adb{j:Nat}(h:AR C s M sz n)(hz:Am.SZ C s)(hn:n<=2000000000)(hb:o.bV=2+10*(C.F:Int))(hj:j<C.N)(ho:lp o=some (j:Int))(ha:o.az=9):cw o M=some (if s.mem (.flag j)=1 then 1 else 0,0,nt M (if s.mem (.flag j)=1 then M.cell.set (Am.cH C s (.flag j)).toNat 0 else M.cell) 2 (Am.cH C s (.flag j)) 1 0 (s.mem (.flag j)==1)):=by
 unfold cw;rw[dR ha,dR ha,dR ha,dR ha,dR ha,dR ha,dR ha,aP ha,ho,au,Q9 h hz hj hb,au,Vn h hz hn (a:=.flag j) hj,dr];by_cases e:s.mem (.flag j)=1
 ·rw[aP (by rw[e];rfl),aP e,aP e]
 ·rw[cu (by simpa using e),cu e,cu e]
theorem ade(h:AR C s M sz n)(hz:Am.SZ C s)(hn:n<=2000000000)(hb:o.bV=2+10*(C.F:Int))(ha:o.az=10):cw o M=some (0,0,nt M (M.cell.set (Am.cH C s .Gb).toNat 1) 1 (Am.cH C s .Gb) 1 0 true):=by
 unfold cw;rw[dR ha,dR ha,dR ha,dR ha,dR ha,dR ha,dR ha,dR ha,ac9 h hz hb,wD h hz hn (a:=.Gb) trivial,eR]
end
section
variable {K:Nat}{C:Am.kY}{p:aE}{s:Am.St}{S:ag}{M M':af}{sz n i:Nat}{D:aT}{d:Int}{o':cg}
variable (b:xJ C p s S M sz n)(hi:i<C.N)
include b hi
theorem I7(h1:eV M (act S i).cR=some (o',M'))(h2:o'.dI=2)(h3:o'.az≠0):eN S M (i:Int) D=some (Dm none,gP S i {act S i with cR:=o' },M'):=by
 unfold eN j3 an;rw[zk h1 (Q8 (by rw[h2];decide) h3),gH,aP rfl];rfl
theorem SD(h1:eV M (act S i).cR=some (o',M'))(h2:o'.dI=2)(h3:o'.az=0)(h4:o'.eF=18){f:Nat}(hf:(act S i).ay=f):eN S M (i:Int) D=some (Dm (Am.ev 3 f o'.fG 0),gP S i {act S i with cR:=o',aI:=1},M'):=by
 have hw:=b.wl hi;unfold eN j3 an;rw[zk h1 (N3 (by rw[h2];decide) h3),gH,h4,cu eC,aP rfl,aP (by rw[j5];exact b.BW hi),cQ];rw[show J (gP S i {act S i with cR:=o' }).aj i={act S i with cR:=o' }from ot hw];show some ((⟨0,0,3,(act S i).ay,o'.fG,0⟩:aq),({S with aj:=(S.aj.set i _).set i _}:ag),M')=_;rw[iX,hf];rfl
theorem KC(h1:eV M (act S i).cR=some (o',M'))(h2:o'.dI=2)(h3:o'.az=0)(h4:o'.eF=19):eN S M (i:Int) D=some (Dm none,gP S i {act S i with cR:=o',aI:=1},M'):=by
 have hw:=b.wl hi;unfold eN j3 an;rw[zk h1 (N3 (by rw[h2];decide) h3),gH,h4,cu eC,cu eC,aP rfl,aP (by rw[j5];exact b.BW hi),cQ];rw[show J (gP S i {act S i with cR:=o' }).aj i={act S i with cR:=o' }from ot hw];show some (_,({S with aj:=(S.aj.set i _).set i _}:ag),M')=_;rw[iX];rfl
theorem XU(hp:s.pc i= .IY):jN C p sz n M (Am.aJ C s i d) (eN S M (i:Int) D):=by
 obtain⟨w1,w2,w3⟩:=b.ku.wk i hi;rw[hp]at w3;obtain⟨a1,⟨l1,l2,l3,l4,l5,l6⟩⟩:=w3;have hs:=λo' h=>Ap l4 l5 eC eC eC (afr b.ar b.z b.cN l1 l5) (o':=o') (by rw[cu eC,aP rfl];exact h);have hw:∀v,jh (act S i).cR v=if v<=0 then some {(act S i).cR with az:=0,eF:=19,fG:=0}else if(act S i).cR.ck=1 then some {(act S i).cR with az:=0,eF:=19,fG:=0}else some {(act S i).cR with az:=9}:=λv=>by
  unfold jh dS;rw[aP l5];rfl
 have e:=hw (s.mem .ve);unfold Am.aJ;rw[hp];simp only;by_cases h0:0<s.mem .ve/\1<C.N
 ·rw[aP h0];rw[ef,cu (by rw[l2];omega)]at e;have hr:=(Ee hi).resolve_left (λh=>I);exact .mk b hi (I7 b hi (hs _ e) l4 (by show(9:Int)≠0;decide)) w1 w2 rfl ⟨a1,1,⟨l1,l2,l3,l4,rfl,l6⟩,hr.2.2⟩ (b.zQ rfl (by rw[hp];rfl) _ _ _ _ _) (Lg.nt rfl) trivial
 ·rw[cu h0];have e:jh (act S i).cR (s.mem .ve)=some {(act S i).cR with az:=0,eF:=19,fG:=0}:=by
   rw[e];by_cases h1:s.mem .ve<=0
   ·rw[aP h1]
   ·rw[cu h1,aP (by rw[l2];have:=b.ok.n1;omega)]
  exact .mk b hi (KC b hi (hs _ e) l4 rfl rfl) w1 w2 rfl rfl (b.zQ rfl (by rw[hp];rfl) _ _ _ _ _) (Lg.nt rfl) trivial
theorem PJ{j:Nat}(hp:s.pc i= .vG j):jN C p sz n M (Am.aJ C s i d) (eN S M (i:Int) D):=by
 obtain⟨w1,w2,w3⟩:=b.ku.wk i hi;rw[hp]at w3;obtain⟨a1,k,⟨l1,l2,l3,l4,l5,l6⟩,hr⟩:=w3;have hj:=Fa hr;have n64:=b.ok.n64;have hk:=hr.2.1;have hac:=adb b.ar b.z b.cN l1 hj (L4 hi n64 l2 l3 l6 hr) l5;have hs:=λo' h=>Ap l4 l5 eC eC eC hac (o':=o') (by rw[cu eC,aP rfl];exact h);have hw:=λv=>aaI (v:=v) l5 (k:=(k:Int)+1) (by rw[l6,eO I]);unfold Am.aJ;rw[hp];simp only;by_cases h1:s.mem (.flag j)=1
 ·have e:=hw 1;rw[aP rfl]at e;rw[aP h1,aP h1]at hs;rw[aP h1];exact .mk b hi (I7 b hi (hs _ e) l4 (by show(7:Int)≠0;decide)) w1 w2 rfl ⟨a1,k,⟨l1,l2,l3,l4,rfl,l6⟩,hr⟩ (b.BS (c:=.flag j) rfl (by rw[hp];rfl) hj _ _ _ _ _) (by rw[show(s.mem (.flag j)==1)=true by rw[h1];rfl];exact Lg.nt rfl) trivial
 ·have e:=hw 0;rw[cu eC]at e;rw[cu h1,cu h1]at hs;rw[cu h1];have hb:(s.mem (.flag j)==1)=false:=by simpa using h1
  rcases CY hi hr with ⟨e1,e2⟩ | ⟨e1,e2,e3⟩
  ·rw[aP (by rw[l2];omega)]at e;rw[aP e2];exact .mk b hi (KC b hi (hs _ e) l4 rfl rfl) w1 w2 rfl rfl (b.zQ rfl (by rw[hp];rfl) _ _ _ _ _) (by rw[hb];exact Lg.nt rfl) trivial
  ·rw[cu (by rw[l2];omega)]at e;rw[cu e2];exact .mk b hi (I7 b hi (hs _ e) l4 (by show(act S i).cR.az≠0;rw[show(act S i).cR.az=9 from l5];decide)) w1 w2 rfl ⟨a1,k+1,⟨l1,l2,l3,l4,l5,by show(k:Int)+1=((k+1:Nat):Int);omega⟩,e3⟩ (b.zQ rfl (by rw[hp];rfl) _ _ _ _ _) (by rw[hb];exact Lg.nt rfl) trivial
theorem PK{j:Nat}(hp:s.pc i= .xY j):jN C p sz n M (Am.aJ C s i d) (eN S M (i:Int) D):=by
 obtain⟨w1,w2,w3⟩:=b.ku.wk i hi;rw[hp]at w3;obtain⟨a1,k,⟨l1,l2,l3,l4,l5,l6⟩,hr⟩:=w3;have n64:=b.ok.n64;obtain⟨f,hh⟩:=Am.sG b.fi hi (by rw[hp];rfl);have hac:=aaK b.ar b.z b.cN l1 l5 (b.NP rfl);have e:∀v,jh (act S i).cR v=some {(act S i).cR with az:=0,eF:=18,fG:=(j:Int)}:=λv=>by
  unfold jh dS;rw[dR l5,dR l5,aP l5,L4 hi n64 l2 l3 l6 hr];rfl
 have hs:=Ap l4 l5 eC eC eC hac (by rw[cu eC,aP rfl];exact e _);unfold Am.aJ;rw[hp];simp only[hh,pK];exact .mk b hi (SD b hi hs l4 rfl rfl (f:=f) (by rw[show(act S i).ay=fi (s.hold i)from w2,hh];rfl)) w1 w2 rfl rfl (b.BS (c:=.ve) rfl (by rw[hp];rfl) trivial _ _ _ _ _) (Lg.nt rfl) (by show(3:Nat)≠0;decide)
theorem Fb(h1:eV M (act S i).cR=some (o',M'))(h2:o'.dI=4)(h3:o'.az≠0):fK S M (i:Int) D=some (Dm none,gP S i {act S i with cR:=o' },M'):=by
 unfold fK;rw[zk h1 (Q8 (by rw[h2];decide) h3),gH,aP rfl];rfl
theorem I8(h1:eV M (act S i).cR=some (o',M'))(h2:o'.dI=4)(h3:o'.az=0)(h4:o'.eF=20):fK S M (i:Int) D=some (Dm (Am.ev 10 0 0 0),gP S i {act S i with cR:=o',aI:=13},M'):=by
 have hw:=b.wl hi;unfold fK lM;rw[zk h1 (N3 (by rw[h2];decide) h3),gH,h4,cu eC,aP rfl,aP (by rw[j5];exact b.BW hi),cQ];rw[show J (gP S i {act S i with cR:=o' }).aj i={act S i with cR:=o' }from ot hw,eR];show some (_,({S with aj:=(S.aj.set i _).set i _}:ag),M')=_;rw[iX];rfl
theorem adf{o:cg}(ha:o.az=10)(v:Int):iG o v=if o.dD>=o.ck then some {o with az:=0,eF:=20,fG:=0}else some {o with az:=9}:=by
 unfold iG dS;rw[aP ha,Qh];rfl
theorem afs{o:cg}(ha:o.az=9):iG o 1=some {o with az:=7}:=by
 unfold iG dS;rw[dR ha,aP ha,au];rfl
theorem adg{o:cg}{v:Int}(h:(o.az=9/\v≠1)∨o.az=7){k:Int}(hk:wi (o.dD+1)=k):iG o v=if k>=o.ck then some {o with az:=0,dD:=k,eF:=20,fG:=0}else some {o with az:=9,dD:=k}:=by
 have e:ei (if o.az=9 then some (v==1)else some false) (λg5=>if g5=true then some (Sum.inr {o with az:=7})else some (Sum.inl (wi (o.dD+1))))=some (.inl k):=by
  rw[<-hk];rcases h with ⟨h1,h2⟩ | h1
  ·rw[aP h1,au,cu (by simpa using h2)]
  ·rw[dR h1,au,cu eC]
 unfold iG dS;rw[cu (by rcases h with ⟨h1,_⟩ | h1<;>rw[h1]<;>decide),e,Qh];rfl
theorem XV(hp:s.pc i= .done):jN C p sz n M (Am.aJ C s i d) (fK S M (i:Int) D):=by
 obtain⟨w1,w2,w3⟩:=b.ku.wk i hi;rw[hp]at w3;obtain⟨a1,⟨l1,l2,l3,l4,l5,l6⟩⟩:=w3;have hac:=ade b.ar b.z b.cN l1 l5;have hs:=λo' h=>Ap l4 l5 eC eC eC hac (o':=o') (by rw[cu eC,cu eC,cu eC];exact h);have e:=adf b hi l5 0;unfold Am.aJ;rw[hp];simp only[Am.oX];rcases Ee hi with ⟨e1,e2⟩ | ⟨e1,e2,e3⟩
 ·rw[aP (by rw[l6,l2];omega)]at e;rw[aP e2];exact .mk b hi (I8 b hi (hs _ e) l4 rfl rfl) w1 w2 rfl rfl (b.BS (c:=.Gb) rfl (by rw[hp];rfl) trivial _ _ _ _ _) (Lg.nt rfl) (by show(10:Nat)≠0;decide)
 ·rw[cu (by rw[l6,l2];omega)]at e;rw[cu e2];exact .mk b hi (Fb b hi (hs _ e) l4 (by show(9:Int)≠0;decide)) w1 w2 rfl ⟨a1,1,⟨l1,l2,l3,l4,rfl,l6⟩,e3⟩ (b.BS (c:=.Gb) rfl (by rw[hp];rfl) trivial _ _ _ _ _) (Lg.nt rfl) trivial
theorem XW{j:Nat}(hp:s.pc i= .tell j):jN C p sz n M (Am.aJ C s i d) (fK S M (i:Int) D):=by
 obtain⟨w1,w2,w3⟩:=b.ku.wk i hi;rw[hp]at w3;obtain⟨a1,k,⟨l1,l2,l3,l4,l5,l6⟩,hr⟩:=w3;have hj:=Fa hr;have n64:=b.ok.n64;have hk:=hr.2.1;have hac:=adb b.ar b.z b.cN l1 hj (L4 hi n64 l2 l3 l6 hr) l5;have hs:=λo' h=>Ap l4 l5 eC eC eC hac (o':=o') (by rw[cu eC,cu eC,cu eC];exact h);unfold Am.aJ;rw[hp];simp only[Am.oX];by_cases h1:s.mem (.flag j)=1
 ·have e:=afs b hi l5;rw[aP h1,aP h1]at hs;rw[aP h1];exact .mk b hi (Fb b hi (hs _ e) l4 (by show(7:Int)≠0;decide)) w1 w2 rfl ⟨a1,k,⟨l1,l2,l3,l4,rfl,l6⟩,hr⟩ (b.BS (c:=.flag j) rfl (by rw[hp];rfl) hj _ _ _ _ _) (by rw[show(s.mem (.flag j)==1)=true by rw[h1];rfl];exact Lg.nt rfl) trivial
 ·have e:=adg b hi (v:=0) (.inl ⟨l5,eC⟩) (k:=(k:Int)+1) (by rw[l6,eO I]);rw[cu h1,cu h1]at hs;rw[cu h1];have hb:(s.mem (.flag j)==1)=false:=by simpa using h1
  rcases CY hi hr with ⟨e1,e2⟩ | ⟨e1,e2,e3⟩
  ·rw[aP (by rw[l2];omega)]at e;rw[aP e2];exact .mk b hi (I8 b hi (hs _ e) l4 rfl rfl) w1 w2 rfl rfl (b.zQ rfl (by rw[hp];rfl) _ _ _ _ _) (by rw[hb];exact Lg.nt rfl) (by show(10:Nat)≠0;decide)
  ·rw[cu (by rw[l2];omega)]at e;rw[cu e2];exact .mk b hi (Fb b hi (hs _ e) l4 (by show(9:Int)≠0;decide)) w1 w2 rfl ⟨a1,k+1,⟨l1,l2,l3,l4,rfl,by show(k:Int)+1=((k+1:Nat):Int);omega⟩,e3⟩ (b.zQ rfl (by rw[hp];rfl) _ _ _ _ _) (by rw[hb];exact Lg.nt rfl) trivial
theorem PL{j:Nat}(hp:s.pc i= .zj j):jN C p sz n M (Am.aJ C s i d) (fK S M (i:Int) D):=by
 obtain⟨w1,w2,w3⟩:=b.ku.wk i hi;rw[hp]at w3;obtain⟨a1,k,⟨l1,l2,l3,l4,l5,l6⟩,hr⟩:=w3;have n64:=b.ok.n64;have hk:=hr.2.1;have hac:=aaK b.ar b.z b.cN l1 l5 (b.NP rfl);have hs:=λo' h=>Ap l4 l5 eC eC eC hac (o':=o') (by rw[cu eC,cu eC,cu eC];exact h);have e:=adg b hi (v:=s.mem .ve-1) (.inr l5) (k:=(k:Int)+1) (by rw[l6,eO I]);unfold Am.aJ;rw[hp];simp only[Am.oX];rcases CY hi hr with ⟨e1,e2⟩ | ⟨e1,e2,e3⟩
 ·rw[aP (by rw[l2];omega)]at e;rw[aP e2];exact .mk b hi (I8 b hi (hs _ e) l4 rfl rfl) w1 w2 rfl rfl (b.BS (c:=.ve) rfl (by rw[hp];rfl) trivial _ _ _ _ _) (Lg.nt rfl) (by show(10:Nat)≠0;decide)
 ·rw[cu (by rw[l2];omega)]at e;rw[cu e2];exact .mk b hi (Fb b hi (hs _ e) l4 (by show(9:Int)≠0;decide)) w1 w2 rfl ⟨a1,k+1,⟨l1,l2,l3,l4,rfl,by show(k:Int)+1=((k+1:Nat):Int);omega⟩,e3⟩ (b.BS (c:=.ve) rfl (by rw[hp];rfl) trivial _ _ _ _ _) (Lg.nt rfl) trivial
end
theorem PM{α:Type}[Inhabited α]{N j:Nat}{g:Nat->α}(h:j<N):J ((List.range N).map g) j=g j:=by
 unfold J;rw[List.getD_eq_getElem?_getD,List.getElem?_map,List.getElem?_range h];rfl
theorem Fc{α:Type}[Inhabited α]{N j k:Nat}{l:List α}{y:α}(h:j<N):J (mN N l k y) j=if j=k then y else J l j:=PM h
theorem Zp{α:Type}[Inhabited α]{N j:Nat}{ys l:List α}(h:j<N):J (EE N ys l) j=if j<ys.length then J ys j else J l j:=PM h
theorem aaL{α:Type}[Inhabited α]{lo m j:Nat}{l:List α}(h:j<m):J (Ac l lo m) j=J l (lo+j):=PM h
def zDq:bX:=⟨0,0,0,0,0,0,0,0,0,0,0,0,0,false,0,0⟩
def SE(C:Am.kY)(i:Nat)(l:List cA):cg:=⟨2+10*(C.F:Int),C.N,i,1,1,0,0,0,0,l,zDq⟩
section
variable {K:Nat}{C:Am.kY}{p:aE}{s:Am.St}{S:ag}{M M':af}{sz n i:Nat}{D:aT}{d:Int}{o':cg}
variable (b:xJ C p s S M sz n)(hi:i<C.N)
include b
theorem Vx:∀(e k g:Nat) (l:List cA),g+e=C.N->e<k->(∀v,v<g->J l v=NR C v)->
 ∃l',qK K (⟨S.fH,S.cT⟩:fz) (i:Int) S.dK k l (g:Int)=some (⟨S.fH,S.cT,i,1,1,0,0,0,0,l',zDq⟩:cg)/\∀v,v<C.N->J l' v=NR C v
 | e,k,g,l,he,hk,hl=>by
  obtain⟨k,rfl⟩ :∃m,k=m+1:=⟨k-1,I⟩;have n64:=b.ok.n64;have h1:=b.ok.c1;have h2:=b.ok.cm;have h3:=b.ok.m4;rw[qK,b.ku.dl];by_cases hg:g<C.N
  ·obtain⟨e,rfl⟩ :∃m,e=m+1:=⟨e-1,I⟩;have hd:=b.ku.dq g hg;have ih:=Vx e k (g+1) (mN 64 l g (NR C g)) I I (λv hv=>by
    rw[Fc I];split
    ·next e=>rw[e]
    ·exact hl v I)
   have hin:bI (g:Int) C.N:=⟨I,I⟩;have Vy:bI (g:Int) 64:=⟨I,I⟩;rw[p7,aP hin,cQ,hd,AX I];by_cases eg:(g:Int)=(i:Int)
   ·rw[aP eg,aP Vy];exact ih
   ·rw[cu eg,cu (by show ¬(C.most:Int)<1;omega),cu (by show ¬(C.most:Int)>4096;omega),aP Vy];exact ih
  ·rw[ef];exact⟨l,rfl,λv hv=>hl v I⟩
include hi
theorem XX(hK:100<K) :∃l,wj K (⟨S.fH,S.cT⟩:fz) (i:Int) S.dK=some (SE C i l)/\∀v,v<C.N->J l v=NR C v:=by
 have h1:=b.ok.n1;have h2:=b.ok.n64;obtain⟨l,e1,e2⟩:=Vx (K:=K) (i:=i) b C.N K 0 (List.replicate 64 ⟨0,0⟩) I I (λv hv=>I);refine⟨l,?_,e2⟩;unfold wj nC nQ;rw[cu (by show ¬S.cT<1;rw[b.ku.lw];omega),cu (by show ¬S.cT>64;rw[b.ku.lw];omega),au,aP (by show wi (2+S.cT)>0;rw[b.ku.lw,eO I];omega),p7,tY (by show(i:Int)<S.cT;rw[b.ku.lw];omega),au,aP rfl,aP (by show((S.dK.length:Nat):Int)=S.cT;rw[b.ku.lw,b.ku.dl]),fA];rw[pL]at e1;rw[e1,b.ku.lb,b.ku.lw];rfl
theorem Vz(hK:100<K){S0:ag}{a:bH}(h0:S0=gP S i a)(ha:a.bz=i) :∃l,(∀M',pF K S0 M' (i:Int)=some (gP S i {a with cR:=SE C i l,parked:=false,aI:=12}))/\∀v,v<C.N->J l v=NR C v:=by
 obtain⟨l,e1,e2⟩:=XX (K:=K) b hi hK;refine⟨l,λM' => ?_,e2⟩;subst h0;unfold pF j3 an;rw[cQ,show J (gP S i a).aj i=a from ot (b.wl hi)];show ei (wj K (⟨S.fH,S.cT⟩:fz) a.bz S.dK) _=_;rw[show wj K (⟨S.fH,S.cT⟩:fz) a.bz S.dK=some (SE C i l) by rw[ha];exact e1,au];show some ({S with aj:=(((S.aj.set i _).set i _).set i _).set i _}:ag)=_;rw[iX,iX,iX];rfl
theorem SF(h1:eV M (act S i).cR=some (o',M'))(h2:o'.dI=3)(h3:o'.az=0)(h4:o'.eF=17):fL K S M (i:Int) D=some (Dm (Am.ev 10 0 0 0),gP S i {act S i with cR:=o',aI:=13},M'):=by
 have hw:=b.wl hi;unfold fL lM;rw[zk h1 (N3 (by rw[h2];decide) h3),gH,h4,aP rfl,aP (by rw[j5];exact b.BW hi),cQ];rw[show J (gP S i {act S i with cR:=o' }).aj i={act S i with cR:=o' }from ot hw,eR];show some (_,({S with aj:=(S.aj.set i _).set i _}:ag),M')=_;rw[iX];rfl
theorem SH(h1:eV M (act S i).cR=some (o',M'))(h2:o'.dI=3)(h3:o'.az=0)(h4:o'.eF=16)(ht:(act S i).gu<3):fL K S M (i:Int) D=some (Dm none,gP S i {act S i with cR:=o',aI:=9},M'):=by
 have hw:=b.wl hi;unfold fL;rw[zk h1 (N3 (by rw[h2];decide) h3),gH,h4,cu eC,aP rfl,aP (by rw[j5];exact b.BW hi),cQ];rw[show J (gP S i {act S i with cR:=o' }).aj i={act S i with cR:=o' }from ot hw,aP ht];show some (_,({S with aj:=(S.aj.set i _).set i _}:ag),M')=_;rw[iX];rfl
theorem VA(hK:100<K)(h1:eV M (act S i).cR=some (o',M'))(h2:o'.dI=3)(h3:o'.az=0)(h4:o'.eF=16)(ht:¬(act S i).gu<3) :∃l,fL K S M (i:Int) D=some (Dm none,gP S i {act S i with cR:=SE C i l,parked:=false,aI:=12},M')/\∀v,v<C.N->J l v=NR C v:=by
 have hw:=b.wl hi;obtain⟨l,e1,e2⟩:=Vz (K:=K) b hi hK (S0:=gP S i {act S i with cR:=o' }) rfl (b.ku.wk i hi).self;refine⟨l,?_,e2⟩;unfold fL;rw[zk h1 (N3 (by rw[h2];decide) h3),gH,h4,cu eC,aP rfl,aP (by rw[j5];exact b.BW hi),cQ];rw[show J (gP S i {act S i with cR:=o' }).aj i={act S i with cR:=o' }from ot hw,cu ht,e1,au];rfl
theorem XY(hK:100<K)(hp:s.pc i= .Gc):jN C p sz n M (Am.aJ C s i d) (fL K S M (i:Int) D):=by
 obtain⟨w1,w2,w3⟩:=b.ku.wk i hi;rw[hp]at w3;obtain⟨a1,a2,l4,l5,l1,l2⟩:=w3;have T:=b.dt.2 i hi;unfold Am.Th at T;rw[hp]at T;simp only at T;have hac:=ada b.ar b.z b.cN l1 l5;have hs:=Ap l4 l5 eC eC eC hac (by rw[cu eC,cu eC,aP rfl]);unfold Am.aJ;rw[hp];simp only;by_cases h1:s.mem .Gb=1
 ·rw[aP h1];rw[aP h1]at hs;exact .mk b hi (SF b hi hs l4 rfl rfl) w1 w2 rfl rfl (b.zQ rfl (by rw[hp];rfl) _ _ _ _ _) (Lg.nt rfl) (by show(10:Nat)≠0;decide)
 ·rw[cu h1];rw[cu h1]at hs;by_cases h2:s.gu i<3
  ·rw[aP h2];exact .mk b hi (SH b hi hs l4 rfl rfl (by rw[show(act S i).gu=s.gu i from a2];omega)) w1 w2 rfl ⟨rfl,a2,h2⟩ (b.zQ rfl (by rw[hp];rfl) _ _ _ _ _) (Lg.nt rfl) trivial
  ·rw[cu h2];obtain⟨l,e1,e2⟩:=VA (D:=D) b hi hK hs l4 rfl rfl (by rw[show(act S i).gu=s.gu i from a2];omega);exact .mk b hi e1 w1 w2 rfl (.inr ⟨⟨rfl,⟨rfl,rfl,rfl,rfl,rfl,rfl⟩,e2⟩,rfl⟩) (b.zQ rfl (by rw[hp];rfl) _ _ _ _ _) (Lg.nt rfl) trivial
section
variable {a:bH}
theorem Bn:J (gP S i a).aj (i:Int).toNat=a:=by rw[cQ];exact ot (b.wl hi)
theorem Fe{c v:Int}(h1:eV M a.cR=some (o',M'))(h2:qJ o'=some (c,v)):jM (gP S i a) M (i:Int)=some (c,v,gP S i {a with cR:=o' },M'):=by
 unfold jM j3 an;rw[Bn b hi,h1,eR];simp only;rw[h2,eR];show some (_,_,({S with aj:=(S.aj.set i a).set i {a with cR:=o' }}:ag),M')=_;rw[iX];rfl
theorem vJ(h1:eV M a.cR=some (o',M'))(h2:o'.dI=1)(h3:o'.az≠0)(h4:o'.az≠5∨a.parked=true):bZ (gP S i a) M (i:Int) D=some (Dm none,gP S i {a with cR:=o' },M'):=by
 unfold bZ wX j3 an;rw[Fe b hi h1 (Q8 (by rw[h2];decide) h3),gH,aP rfl,aP (by rw[j5];exact b.BW hi),Bn b hi];simp only;rw[aP h2,au];by_cases e:o'.az=5
 ·rw[aP (by rw[e];rfl),aP (h4.resolve_left (λh=>h e))];rfl
 ·rw[cu (by simpa using e)];rfl
theorem KD(h1:eV M a.cR=some (o',M'))(h2:o'.dI=1)(h3:o'.az=5)(h4:a.parked=false):bZ (gP S i a) M (i:Int) D=some (Dm (Am.ev 9 0 0 0),gP S i {a with cR:=o',parked:=true},M'):=by
 unfold bZ wX j3 an;rw[Fe b hi h1 (Q8 (by rw[h2];decide) (by rw[h3];decide)),gH,aP rfl,aP (by rw[j5];exact b.BW hi),Bn b hi];simp only;rw[aP h2,au,aP (by rw[h3];rfl),dR h4,cQ];show some (_,({S with aj:=(S.aj.set i _).set i _}:ag),M')=_;rw[iX];rfl
theorem Ef(h1:eV M a.cR=some (o',M'))(h2:o'.dI=1)(h3:o'.az=0)(h4:o'.eF=16):bZ (gP S i a) M (i:Int) D=some (Dm none,gP S i {a with cR:=o',gu:=0,aI:=9},M'):=by
 unfold bZ j3 an;rw[Fe b hi h1 (N3 (by rw[h2];decide) h3),gH,h4,cu eC,aP rfl,aP (by rw[j5];exact b.BW hi),Bn b hi,cQ];show some (_,({S with aj:=((S.aj.set i _).set i _).set i _}:ag),M')=_;rw[iX,iX];rfl
theorem KE(h1:eV M a.cR=some (o',M'))(h2:o'.dI=1)(h3:o'.az=0)(h4:o'.eF=17):bZ (gP S i a) M (i:Int) D=some (Dm (Am.ev 10 0 0 0),gP S i {a with cR:=o',aI:=13},M'):=by
 unfold bZ lM j3 an;rw[Fe b hi h1 (N3 (by rw[h2];decide) h3),gH,h4,cu eC,cu eC,aP rfl,aP (by rw[j5];exact b.BW hi),Bn b hi,eR,cQ];show some (_,({S with aj:=(S.aj.set i _).set i _}:ag),M')=_;rw[iX];rfl
end
theorem kr:gP S i (act S i)=S:=by
 have e:S.aj.set i (act S i)=S.aj:=by
  refine zS λk => ?_;rw[List.getElem?_set];have hw:=b.wl hi;by_cases h:i=k
  ·subst h;rw[aP rfl,aP hw];show _=_;rw[List.getElem?_eq_getElem hw];show some (J S.aj i)=_;unfold J;rw[List.getD_eq_getElem?_getD,List.getElem?_eq_getElem hw];rfl
  ·rw[cu h]
 show({S with aj:=S.aj.set i (act S i)}:ag)=S;rw[e]
end
section
variable {o o':cg}{M M':af}{v:Int}
theorem afu(ha:o.az=1):gD o v=some {o with az:=2}:=by unfold gD;rw[aP ha]
theorem afv(ha:o.az=2):gD o v=some {o with az:=3}:=by unfold gD;rw[dR ha,aP ha]
theorem afw(ha:o.az=3):gD o v=if v=1 then some {o with az:=6,jV:=17}else jE o:=by
 unfold gD qw;rw[dR ha,dR ha,aP ha];split
 ·rfl
 ·cases jE o<;>rfl
theorem afx(ha:o.az=5):gD o v=if v=1 then some o else some {o with az:=0,eF:=16,fG:=0}:=by
 unfold gD dS;rw[dR ha,dR ha,dR ha,aP ha];rfl
theorem adh(ha:o.az=6):gD o v=if v=1 then some {o with az:=7}else some {o with az:=0,eF:=o.jV,fG:=0}:=by
 unfold gD dS;rw[dR ha,dR ha,dR ha,dR ha,aP ha];rfl
theorem afy(ha:o.az=7):gD o v=some {o with az:=0,eF:=o.jV,fG:=0}:=by
 unfold gD dS;rw[dR ha,dR ha,dR ha,dR ha,dR ha,aP ha];rfl
theorem L5(hk:o.dI=1)(ha:o.az=4)(hx:lU o M=some (o',M')):eV M o=some (o',M'):=by
 unfold eV;rw[dR hk,dR ha,fA,aP ha,hx,eR]
theorem VB{l':bX}(h:fJ M o.look=some (l',M'))(hk:l'.kind=4):lU o M=if l'.J=0 then(if l'.code=0 then some ({o with look:=l' },M')else if l'.code=7 then some ({o with look:=l',az:=6,jV:=16},M')else if l'.code=8 then ei (jE {o with look:=l' }) (λr=>some (r,M'))else some ({o with look:=l',az:=0,eF:=1,fG:=0},M'))else some ({o with look:=l' },M'):=by
 unfold lU qw dS;rw[h,eR];by_cases e:l'.J=0
 ·rw[Pv (by rw[hk];decide) e,aP e,eR];rfl
 ·rw[NS (by rw[hk];decide) e,cu e,eR,aP rfl]
theorem afz{l:bX}(ha:l.J=2):mJ l v=some {l with J:=1,t:=v}:=by unfold mJ;rw[aP ha]
theorem afA{l:bX}(ha:l.J=1):mJ l v=if l.t<v then some {l with J:=0,code:=7,value:=0}else some {l with J:=0,code:=8,value:=0}:=by
 unfold mJ eU;rw[dR ha];rfl
end
section
variable {K:Nat}{C:Am.kY}{p:aE}{s:Am.St}{S:ag}{M M':af}{sz n i:Nat}{D:aT}{d:Int}{o:cg}
variable (b:xJ C p s S M sz n)(hi:i<C.N)
include b hi
theorem Ra{k:Nat}(hw:o.ck=C.N)(hk:o.dD=k)(h:k+1=C.N):jE o=some {o with az:=5,dD:=(k:Int)+1}:=by
 have n64:=b.ok.n64;have e:wi (o.dD+1)=(k:Int)+1:=by rw[hk,eO I]
 unfold jE;rw[e,aP (by rw[hw];omega)]
theorem Rb{k j:Nat}(hw:o.ck=C.N)(hs:o.gL=i)(hk:o.dD=k)(hd:∀v,v<C.N->J o.dK v=NR C v)(h:ring C i j (k+1)):jE o=some {o with az:=4,dD:=(k:Int)+1,look:=E9 C 4 2 j 0}:=by
 have n64:=b.ok.n64;have hj:=Fa h;have hlt:=h.2.1;have e:wi (o.dD+1)=(k:Int)+1:=by rw[hk,eO I]
 have ho:lp {o with az:=4,dD:=(k:Int)+1}=some (j:Int):=L4 (k:=k+1) hi n64 hw hs (by show(k:Int)+1=((k+1:Nat):Int);omega) h;unfold jE Bb;rw[e,cu (by rw[hw];omega),ho,au,aP ⟨I,I⟩,cQ,hd j hj,CF b,au];rfl
theorem KF{a:bH}(hr:RO C i 1 0 a)(hpk:a.parked=false):bZ (gP S i a) M (i:Int) D=some (Dm none,gP S i {a with cR:={a.cR with az:=2}},nt M (M.cell.set (Am.cH C s (.flag i)).toNat 1) 1 (Am.cH C s (.flag i)) 1 0 true):=by
 obtain⟨a1,⟨l1,l2,l3,l4,l5,l6⟩,a2⟩:=hr;exact vJ b hi (Ap l4 l5 eC eC eC (afn b.ar b.z b.cN hi l1 l3 l5) (by rw[aP rfl];exact afu l5)) l4 (by show(2:Int)≠0;decide) (.inl (by show(2:Int)≠5;decide))
theorem XZ(hp:s.pc i= .flag)(hr:RO C i 1 0 (act S i)/\(act S i).parked=false):jN C p sz n M (Am.aJ C s i d) (bZ S M (i:Int) D):=by
 obtain⟨w1,w2,w3⟩:=b.ku.wk i hi;have h:=KF (D:=D) b hi hr.1 hr.2;rw[kr b hi]at h;obtain⟨⟨a1,⟨l1,l2,l3,l4,l5,l6⟩,a2⟩,a3⟩:=hr;unfold Am.aJ;rw[hp];simp only;exact .mk b hi h w1 w2 rfl ⟨⟨a1,⟨l1,l2,l3,l4,rfl,l6⟩,a2⟩,a3⟩ (b.BS (c:=.flag i) rfl (by rw[hp];rfl) hi _ _ _ _ _) (Lg.nt rfl) trivial
theorem VC(hp:s.pc i= .sleep):jN C p sz n M (Am.aJ C s i d) (bZ S M (i:Int) D):=by
 obtain⟨w1,w2,w3⟩:=b.ku.wk i hi;rw[hp]at w3;obtain⟨⟨a1,⟨l1,l2,l3,l4,l5,l6⟩,a2⟩,a3⟩:=w3;have hs:=λo' h=>Ap l4 l5 eC eC eC (afo b.ar b.z b.cN l1 l5 (b.NP rfl)) (o':=o') (by rw[aP rfl];exact h);have h:=vJ (D:=D) b hi (a:=act S i) (hs _ (afv l5)) l4 (by show(3:Int)≠0;decide) (.inl (by show(3:Int)≠5;decide));rw[kr b hi]at h;unfold Am.aJ;rw[hp];simp only;exact .mk b hi h w1 w2 rfl ⟨⟨a1,⟨l1,l2,l3,l4,rfl,l6⟩,a2⟩,a3⟩ (b.BS (c:=.ve) rfl (by rw[hp];rfl) trivial _ _ _ _ _) (Lg.nt rfl) trivial
theorem N4(hp:s.pc i= .wZ):jN C p sz n M (Am.aJ C s i d) (bZ S M (i:Int) D):=by
 obtain⟨w1,w2,w3⟩:=b.ku.wk i hi;rw[hp]at w3;obtain⟨⟨a1,⟨l1,l2,l3,l4,l5,l6⟩,a2⟩,a3⟩:=w3;have hs:=λo' h=>Ap l4 l5 eC eC eC (ada b.ar b.z b.cN l1 l5) (o':=o') (by rw[aP rfl];exact h);have e:=afw l5 (v:=s.mem .Gb);unfold Am.aJ;rw[hp];simp only[Am.looking];by_cases h1:s.mem .Gb=1
 ·rw[aP h1]at e;rw[aP h1];have h:=vJ (D:=D) b hi (a:=act S i) (hs _ e) l4 (by show(6:Int)≠0;decide) (.inl (by show(6:Int)≠5;decide));rw[kr b hi]at h;exact .mk b hi h w1 w2 rfl ⟨a3,0,⟨a1,⟨l1,l2,l3,l4,rfl,l6⟩,a2⟩,rfl⟩ (b.zQ rfl (by rw[hp];rfl) _ _ _ _ _) (Lg.nt rfl) trivial
 ·rw[cu h1]at e;rw[cu h1];rcases Ee hi with ⟨e1,e2⟩ | ⟨e1,e2,e3⟩
  ·rw[Ra b hi l2 (k:=0) l6 I]at e;rw[aP e2];have h:=KD (D:=D) b hi (a:=act S i) (hs _ e) l4 rfl a3;rw[kr b hi]at h;exact .mk b hi h w1 w2 rfl ⟨rfl,_,a1,⟨l1,l2,l3,l4,rfl,rfl⟩,a2⟩ (b.zQ rfl (by rw[hp];rfl) _ _ _ _ _) (Lg.nt rfl) (by show(9:Nat)≠0;decide)
  ·rw[Rb b hi l2 l3 (k:=0) l6 a2 e3]at e;rw[cu e2];have h:=vJ (D:=D) b hi (a:=act S i) (hs _ e) l4 (by show(4:Int)≠0;decide) (.inl (by show(4:Int)≠5;decide));rw[kr b hi]at h;exact .mk b hi h w1 w2 rfl ⟨a3,1,⟨a1,⟨l1,l2,l3,l4,rfl,rfl⟩,a2⟩,e3,rfl,rfl,rfl,rfl⟩ (b.zQ rfl (by rw[hp];rfl) _ _ _ _ _) (Lg.nt rfl) trivial
theorem VD{j:Nat}(hp:s.pc i= .GF j):jN C p sz n M (Am.aJ C s i d) (bZ S M (i:Int) D):=by
 obtain⟨w1,w2,w3⟩:=b.ku.wk i hi;rw[hp]at w3;obtain⟨a3,k,⟨a1,⟨l1,l2,l3,l4,l5,l6⟩,a2⟩,hr,o1,o2,o3,o4⟩:=w3;have hj:=Fa hr;have hd:=qQ o1 o2 eC eC (HE b.ar b.z b.cN hj o2 o3) (by rw[cu eC,cu eC,cu eC];exact afz o2);have hl:=VB hd o1;rw[cu (by show ¬(1:Int)=0;decide)]at hl;have h:=vJ (D:=D) b hi (a:=act S i) (L5 l4 l5 hl) l4 (by show(act S i).cR.az≠0;rw[show(act S i).cR.az=4 from l5];decide) (.inl (by show(act S i).cR.az≠5;rw[show(act S i).cR.az=4 from l5];decide));rw[kr b hi]at h;unfold Am.aJ;rw[hp];simp only;exact .mk b hi h w1 w2 rfl ⟨a3,k,⟨a1,⟨l1,l2,l3,l4,l5,l6⟩,a2⟩,hr,⟨o1,rfl,o3,o4⟩,rfl⟩ (b.zQ rfl (by rw[hp];rfl) _ _ _ _ _) (Lg.nt rfl) trivial
theorem VE{j:Nat}{t:Int}(hp:s.pc i= .E4 j t):jN C p sz n M (Am.aJ C s i d) (bZ S M (i:Int) D):=by
 obtain⟨w1,w2,w3⟩:=b.ku.wk i hi;rw[hp]at w3;obtain⟨a3,k,⟨a1,⟨l1,l2,l3,l4,l5,l6⟩,a2⟩,hr,⟨o1,o2,o3,o4⟩,o5⟩:=w3;have hj:=Fa hr;have e:=afA o2 (v:=s.mem (.bot j));have hd:=λl' h=>qQ o1 o2 eC eC (HD b.ar b.z b.cN hj o2 o3) (o':=l') (by rw[cu eC,cu eC,cu eC];exact h);unfold Am.aJ;rw[hp];simp only[Am.looking];by_cases h1:t<s.mem (.bot j)
 ·rw[aP (by rw[o5];exact h1)]at e;rw[aP h1];have hl:=VB (hd _ e) o1;rw[aP rfl,cu (by show ¬(7:Int)=0;decide),aP rfl]at hl;have h:=vJ (D:=D) b hi (a:=act S i) (L5 l4 l5 hl) l4 (by show(6:Int)≠0;decide) (.inl (by show(6:Int)≠5;decide));rw[kr b hi]at h;exact .mk b hi h w1 w2 rfl ⟨a3,k,⟨a1,⟨l1,l2,l3,l4,rfl,l6⟩,a2⟩,rfl⟩ (b.zQ rfl (by rw[hp];rfl) _ _ _ _ _) (Lg.nt rfl) trivial
 ·rw[cu (by rw[o5];exact h1)]at e;rw[cu h1];have hl:=VB (hd _ e) o1;rw[aP rfl,cu (by show ¬(8:Int)=0;decide),cu (by show ¬(8:Int)=7;decide),aP rfl]at hl;rcases CY hi hr with ⟨e1,e2⟩ | ⟨e1,e2,e3⟩
  ·rw[Ra b hi (o:={(act S i).cR with look:={(act S i).cR.look with J:=0,code:=8,value:=0}}) l2 (k:=k) l6 e1,au]at hl;rw[aP e2];have h:=KD (D:=D) b hi (a:=act S i) (L5 l4 l5 hl) l4 rfl a3;rw[kr b hi]at h;exact .mk b hi h w1 w2 rfl ⟨rfl,_,a1,⟨l1,l2,l3,l4,rfl,rfl⟩,a2⟩ (b.zQ rfl (by rw[hp];rfl) _ _ _ _ _) (Lg.nt rfl) (by show(9:Nat)≠0;decide)
  ·rw[Rb b hi (o:={(act S i).cR with look:={(act S i).cR.look with J:=0,code:=8,value:=0}}) l2 l3 (k:=k) l6 a2 e3,au]at hl;rw[cu e2];have h:=vJ (D:=D) b hi (a:=act S i) (L5 l4 l5 hl) l4 (by show(4:Int)≠0;decide) (.inl (by show(4:Int)≠5;decide));rw[kr b hi]at h;exact .mk b hi h w1 w2 rfl ⟨a3,k+1,⟨a1,⟨l1,l2,l3,l4,rfl,by show(k:Int)+1=((k+1:Nat):Int);omega⟩,a2⟩,e3,rfl,rfl,rfl,rfl⟩ (b.zQ rfl (by rw[hp];rfl) _ _ _ _ _) (Lg.nt rfl) trivial
theorem SK(hp:s.pc i= .parked):jN C p sz n M (Am.aJ C s i d) (bZ S M (i:Int) D):=by
 obtain⟨w1,w2,w3⟩:=b.ku.wk i hi;rw[hp]at w3;obtain⟨a3,k,a1,⟨l1,l2,l3,l4,l5,l6⟩,a2⟩:=w3;have hs:=λo' h=>Ap l4 l5 eC eC eC (afp b.ar b.z b.cN hi l1 l3 l5) (o':=o') (by rw[aP rfl];exact h);have e:=afx l5 (v:=s.mem (.flag i));unfold Am.aJ;rw[hp];simp only;by_cases h1:s.mem (.flag i)=1
 ·rw[aP h1]at e;rw[aP h1];have h:=vJ (D:=D) b hi (a:=act S i) (hs _ e) l4 (by rw[show(act S i).cR.az=5 from l5];decide) (.inr a3);rw[kr b hi]at h;exact .mk (a:=act S i) b hi (by rw[kr b hi];exact h) w1 w2 (q:=.parked) (by show s.pc=_;rw[<-hp,Am.rQ]) ⟨a3,k,a1,⟨l1,l2,l3,l4,l5,l6⟩,a2⟩ (b.ar.same rfl rfl rfl rfl _ _ _ _ _) (Lg.nt rfl) trivial
 ·rw[cu h1]at e;rw[cu h1];have h:=Ef (D:=D) b hi (a:=act S i) (hs _ e) l4 rfl rfl;rw[kr b hi]at h;exact .mk b hi h w1 w2 rfl (E7 b hi rfl rfl (Am.aU _ _ _)) (b.zQ rfl (by rw[hp];exact E8 b hi rfl) _ _ _ _ _) (Lg.nt rfl) trivial (Su:=λj hj=>Am.aM hj)
theorem X0{w:Bool}(hp:s.pc i= .back w):jN C p sz n M (Am.aJ C s i d) (bZ S M (i:Int) D):=by
 obtain⟨w1,w2,w3⟩:=b.ku.wk i hi;rw[hp]at w3;obtain⟨a3,k,⟨a1,⟨l1,l2,l3,l4,l5,l6⟩,a2⟩,a4⟩:=w3;have hs:=λo' h=>Ap l4 l5 eC eC eC (afq b.ar b.z b.cN hi l1 l3 l5) (o':=o') (by rw[aP rfl];exact h);unfold Am.aJ;rw[hp];simp only[Am.Dl];by_cases h1:s.mem (.flag i)=1
 ·have e:=adh l5 (v:=1);rw[aP rfl]at e;rw[aP h1,aP h1]at hs;rw[aP h1];have h:=vJ (D:=D) b hi (a:=act S i) (hs _ e) l4 (by show(7:Int)≠0;decide) (.inl (by show(7:Int)≠5;decide));rw[kr b hi]at h;exact .mk b hi h w1 w2 rfl ⟨a3,k,⟨a1,⟨l1,l2,l3,l4,rfl,l6⟩,a2⟩,a4⟩ (b.BS (c:=.flag i) rfl (by rw[hp];rfl) hi _ _ _ _ _) (by rw[show(s.mem (.flag i)==1)=true by rw[h1];rfl];exact Lg.nt rfl) trivial
 ·have e:=adh l5 (v:=0);rw[cu eC]at e;rw[cu h1,cu h1]at hs;rw[cu h1];have hb:(s.mem (.flag i)==1)=false:=by simpa using h1
  cases w with
  | true =>
   have h:=KE (D:=D) b hi (a:=act S i) (hs _ e) l4 rfl a4;rw[kr b hi]at h;exact .mk b hi h w1 w2 rfl rfl (b.zQ rfl (by rw[hp];rfl) _ _ _ _ _) (by rw[hb];exact Lg.nt rfl) (by show(10:Nat)≠0;decide)
  | false =>
   have h:=Ef (D:=D) b hi (a:=act S i) (hs _ e) l4 rfl a4;rw[kr b hi]at h;exact .mk b hi h w1 w2 rfl (E7 b hi rfl rfl (Am.aU _ _ _)) (b.zQ rfl (by rw[hp];exact E8 b hi rfl) _ _ _ _ _) (by rw[hb];exact Lg.nt rfl) trivial (Su:=λj hj=>Am.aM hj)
theorem PN{w:Bool}(hp:s.pc i= .xZ w):jN C p sz n M (Am.aJ C s i d) (bZ S M (i:Int) D):=by
 obtain⟨w1,w2,w3⟩:=b.ku.wk i hi;rw[hp]at w3;obtain⟨a3,k,⟨a1,⟨l1,l2,l3,l4,l5,l6⟩,a2⟩,a4⟩:=w3;have hs:=Ap l4 l5 eC eC eC (aaK b.ar b.z b.cN l1 l5 (b.NP rfl)) (by rw[aP rfl];exact afy l5);unfold Am.aJ;rw[hp];simp only[Am.Dl];cases w with
 | true =>
  have h:=KE (D:=D) b hi (a:=act S i) hs l4 rfl a4;rw[kr b hi]at h;exact .mk b hi h w1 w2 rfl rfl (b.BS (c:=.ve) rfl (by rw[hp];rfl) trivial _ _ _ _ _) (Lg.nt rfl) (by show(10:Nat)≠0;decide)
 | false =>
  have h:=Ef (D:=D) b hi (a:=act S i) hs l4 rfl a4;rw[kr b hi]at h;exact .mk b hi h w1 w2 rfl (E7 b hi rfl rfl (Am.aU _ _ _)) (b.BS (c:=.ve) rfl (by rw[hp];exact E8 b hi rfl) trivial _ _ _ _ _) (Lg.nt rfl) trivial (Su:=λj hj=>Am.aM hj)
def N5(C:Am.kY)(p:aE)(sz n:Nat)(M:af)(D':aT)(o:Am.Out)(r:Option (aq×ag×af×aT)):Prop:=
 ∃S' M',r=some (Dm o.ev,S',M',D')/\Vo C p o.s S'/\AR C o.s M' sz (n+1)/\Lg C o.s M M' o.acc/\Vr o.ev
theorem jN.draw{o:Am.Out}{r:Option (aq×ag×af)}{r':Option (aq×ag×af×aT)}(h:jN C p sz n M o r)(hr:r'=qd r (λa b c=>some (a,b,c,D))):N5 C p sz n M D o r':=by
 obtain⟨S',M',rfl,h⟩:=h;exact⟨S',M',by rw[hr,dr],h⟩
theorem VF(hK:100<K)(hp:s.pc i= .flag)(h9:(act S i).aI=9/\C.N=1):N5 C p sz n M D (Am.aJ C s i d) (gp K S M (i:Int) D):=by
 obtain⟨w1,w2,w3⟩:=b.ku.wk i hi;obtain⟨l,e1,e2⟩:=Vz (K:=K) b hi hK (S0:=S) (a:=act S i) (kr b hi).symm w1;have hr:RO C i 1 0 {act S i with cR:=SE C i l,parked:=false,aI:=12}:=⟨rfl,⟨rfl,rfl,rfl,rfl,rfl,rfl⟩,e2⟩;have h:=KF (D:=D) b hi hr rfl;have hg:gp K S M (i:Int) D=qd (bZ (gP S i {act S i with cR:=SE C i l,parked:=false,aI:=12}) M (i:Int) D) (λa b c=>some (a,b,c,D)):=by
  unfold gp my j3 an;rw[au,aP (by rw[b.ku.wl];omega),e1 M,au,aP (by rw[j5];exact b.BW hi)]
 refine jN.draw b hi ?_ hg;unfold Am.aJ;rw[hp];simp only;exact .mk b hi h w1 w2 rfl ⟨⟨rfl,⟨rfl,rfl,rfl,rfl,rfl,rfl⟩,e2⟩,rfl⟩ (b.BS (c:=.flag i) rfl (by rw[hp];rfl) hi _ _ _ _ _) (Lg.nt rfl) trivial
theorem SM(hp:s.pc i= .oB):N5 C p sz n M (Js D) (Am.aJ C s i (DZ D)) (gp K S M (i:Int) D):=by
 obtain⟨w1,w2,w3⟩:=b.ku.wk i hi;rw[hp]at w3;obtain⟨a1,a2,a3⟩:=w3;have T:=b.dt.2 i hi;unfold Am.Th at T;rw[hp]at T;simp only at T;have n1:=b.ok.n1;have n64:=b.ok.n64;obtain⟨v,hv⟩ :∃v,v=(i+1+(DZ D%((C.N:Int)-1)).toNat)%C.N:=⟨_,rfl⟩;have hvN:v<C.N:=by rw[hv];exact Du _ I
 have m0:=B7 (DZ D) (b:=(C.N:Int)-1) I;have m1:=Dx (DZ D) (show 0<(C.N:Int)-1 by omega);have afB:((i:Int)+1+DZ D%((C.N:Int)-1))%(C.N:Int)=(v:Int):=by
  rw[hv];have:(i:Int)+1+DZ D%((C.N:Int)-1)=((i+1+(DZ D%((C.N:Int)-1)).toNat:Nat):Int):=by omega
  rw[this];rfl
 have hlen:=b.ku.wl;have hs:=qQ (o:=E9 C 3 2 v 0) (M:=M) (k:=3) (a:=2) rfl rfl eC eC (HE b.ar b.z b.cN hvN rfl rfl) (by rw[cu eC,cu eC,aP rfl];exact ac4 rfl);have hact:act (gP S i {act S i with fO:=(v:Int),bx:=E9 C 3 2 v 0,aI:=10}) i={act S i with fO:=(v:Int),bx:=E9 C 3 2 v 0,aI:=10}:=ot (b.wl hi);have hst:cL (gP S i {act S i with fO:=(v:Int),bx:=E9 C 3 2 v 0,aI:=10}) M (i:Int) (Js D)=some (Dm none,gP S i {act S i with fO:=(v:Int),bx:={E9 C 3 2 v 0 with J:=1,t:=s.mem (.top v)},aI:=10},nt M M.cell 0 (Am.cH C s (.top v)) (s.mem (.top v)) 0 true):=by
  unfold cL j3 an;rw[wE (by rw[hact];exact hs) (NS (by show(3:Int)≠0;decide) (by show(1:Int)≠0;decide)),gH,aP rfl,hact,NU];rfl
 have hg:gp K S M (i:Int) D=qd (cL (gP S i {act S i with fO:=(v:Int),bx:=E9 C 3 2 v 0,aI:=10}) M (i:Int) (Js D)) (λa b c=>some (a,b,c,Js D)):=by
  unfold gp my j3 an;rw[au,cu (by rw[hlen];omega),au,hlen,eO (x:=(C.N:Int)-1) I,Vw I I,au,au,cQ,show(J S.aj i).bz=i from w1,eO (x:=(i:Int)+1) I,eO (x:=(i:Int)+1+_) I,Vw I I,au,afB];rw[aP (by show bI (v:Int) S.dK.length;exact⟨I,by rw[b.ku.dl];omega⟩)];unfold zi;rw[show J S.dK (v:Int).toNat=NR C v by rw[cQ];exact b.ku.dq v hvN,CF b,au,au,iX,iX];rfl
 refine jN.draw b hi ?_ hg;unfold Am.aJ;rw[hp];simp only;rw[<-hv];exact .mk b hi hst w1 w2 rfl ⟨rfl,⟨a2,a3⟩,rfl,⟨rfl,rfl,rfl,rfl⟩,rfl⟩ (b.zQ rfl (by rw[hp];rfl) _ _ _ _ _) (Lg.nt rfl) trivial
end
def j7(C:Am.kY)(k:Int)(f:Nat)(sl:Nat)(v:Int):cz:=⟨1,C.F,f,1,0,0,k,sl,v⟩
section
variable {C:Am.kY}{s:Am.St}{M M':af}{sz n:Nat}{o o':cz}{f:Nat}
theorem N6(h:AR C s M sz n)(hz:Am.SZ C s)(hf:f<C.F){t:bq}(hb:t.lA=1):gU t (f:Int)=some (Am.cH C s (.join f)):=by
 have p:=h.XI hz (a:=.join f) hf;have e:Am.cH C s (.join f)=2+10*(f:Int):=rfl;rw[e]at p;unfold gU;rw[hb,eO (x:=(1:Int)+1) I,eO (x:=(f:Int)*10) I,eO I,e];congr 1;omega
theorem Zq(h:AR C s M sz n)(hz:Am.SZ C s)(hf:f<C.F){k:Nat}(hk:k<8){t:bq}(hb:t.lA=1):kH t (f:Int) (k:Int)=some (Am.cH C s (.slot f k)):=by
 have p:=h.XI hz (a:=.slot f k) ⟨hf,hk⟩;have e:Am.cH C s (.slot f k)=4+10*(f:Int)+k:=rfl;have e1:Am.cH C s (.join f)=2+10*(f:Int):=rfl;rw[e]at p;unfold kH;rw[N6 h hz hf hb,au,e1,eO (x:=2+10*(f:Int)+2) I,eO I,e];congr 1;omega
theorem adi(h:AR C s M sz n)(hz:Am.SZ C s)(hf:f<C.F){t:bq}(hb:t.lA=1):nS t (f:Int)=some (Am.cH C s (.mark f)):=by
 have p:=h.XI hz (a:=.mark f) hf;have e:Am.cH C s (.mark f)=3+10*(f:Int):=rfl;have e1:Am.cH C s (.join f)=2+10*(f:Int):=rfl;rw[e]at p;unfold nS;rw[N6 h hz hf hb,au,e1,eO I,e];congr 1;omega
theorem PO(hC:C.OK)(hf:f<C.F){k:Int}{sl:Nat}(hs:sl<8){v:Int}:k8 k (⟨1,C.F⟩:bq) (f:Int) (sl:Int) v=some (j7 C k f sl v):=by
 have h1:=hC.f1;have h2:=hC.f4;unfold k8 qG;simp only;rw[p7,p7,p7,p7,tY I,au,aP rfl,ef,ef];rfl
theorem HF(hC:C.OK)(hf:f<C.F){k v:Int}:k8 k (⟨1,C.F⟩:bq) (f:Int) 0 v=some (j7 C k f 0 v):=PO (sl:=0) hC hf I
theorem L6{o:cz}(hb:o.eK=1)(hs:o.aA=0):ji o=some (o.fF,o.mO):=by
 unfold ji;rw[cu (λe=>by rw[e]at hb;exact absurd hb eC),ef]
theorem VG{o:cz}(hb:o.eK=1)(hs:o.aA>0):ji o=some (0,0):=by
 unfold ji;rw[cu (λe=>by rw[e]at hb;exact absurd hb eC),aP hs]
theorem Ff(hs:o.aA≠0){r:Option (Int×cz×af)}(hr:r=some (0,o',M'))
 (hk:r=(if o.kind=0 then jW o M else if o.kind=1 then mE o M else if o.kind=2 then gF o M else if o.kind=3 then jw o M else if o.kind=4 then lS o M else lT o M)) :
 dm M o=some (if o'.aA>0 then({o' with aA:=wi (o'.aA+1)},M')else(o',M')):=by
 have fin:(if(0:Int)=0 then(if o'.aA>0 then some ({o' with aA:=wi (o'.aA+1)},M')else some (o',M'))else ei (eI o' 1 0) (λS=>some (S,M')))=some (if o'.aA>0 then({o' with aA:=wi (o'.aA+1)},M')else(o',M')):=by
  rw[aP rfl];split<;>rfl
 rw[hr]at hk;unfold dm;rw[cu hs];split at hk
 ·rename_i h;rw[aP h,<-hk,dr];exact fin
 ·rename_i h;rw[cu h];split at hk
  ·rename_i h;rw[aP h,<-hk,dr];exact fin
  ·rename_i h;rw[cu h];split at hk
   ·rename_i h;rw[aP h,<-hk,dr];exact fin
   ·rename_i h;rw[cu h];split at hk
    ·rename_i h;rw[aP h,<-hk,dr];exact fin
    ·rename_i h;rw[cu h];split at hk
     ·rename_i h;rw[aP h,<-hk,dr];exact fin
     ·rename_i h;rw[cu h,<-hk,dr];exact fin
theorem X1(h:AR C s M sz n)(hz:Am.SZ C s)(hn:n<=2000000000)(hf:f<C.F)(hv:-1000000000000<=s.mem (.mark f)/\s.mem (.mark f)<=1000000000000) :
 dm M (j7 C 4 f 0 0)=some ({j7 C 4 f 0 0 with aA:=0,fF:=14,mO:=s.mem (.mark f)+1},nt M (M.cell.set (Am.cH C s (.mark f)).toNat (s.mem (.mark f)+1)) 3 (Am.cH C s (.mark f)) 1 (s.mem (.mark f)+1) true):=by
 refine Ff (o':={j7 C 4 f 0 0 with aA:=0,fF:=14,mO:=s.mem (.mark f)+1}) (M':=nt M (M.cell.set (Am.cH C s (.mark f)).toNat (s.mem (.mark f)+1)) 3 (Am.cH C s (.mark f)) 1 (s.mem (.mark f)+1) true) (by show(1:Int)≠0;decide) rfl ?_;show _=lS _ _;unfold lS eI;rw[show nS _ (j7 C 4 f 0 0).gK=some (Am.cH C s (.mark f))from adi h hz hf rfl,au,KB h hz hn (a:=.mark f) hf (eO I),dr];rfl
theorem aaM(h:AR C s M sz n)(hz:Am.SZ C s)(hn:n<=2000000000)(hf:f<C.F)(hv:-1000000000000<=s.mem (.join f)/\s.mem (.join f)<=1000000000000) :
 dm M (j7 C 1 f 0 0)=some ({j7 C 1 f 0 0 with aA:=0,fF:=9,mO:=s.mem (.join f)+1},nt M (M.cell.set (Am.cH C s (.join f)).toNat (s.mem (.join f)+1)) 3 (Am.cH C s (.join f)) 1 (s.mem (.join f)+1) true):=by
 refine Ff (o':={j7 C 1 f 0 0 with aA:=0,fF:=9,mO:=s.mem (.join f)+1}) (M':=nt M (M.cell.set (Am.cH C s (.join f)).toNat (s.mem (.join f)+1)) 3 (Am.cH C s (.join f)) 1 (s.mem (.join f)+1) true) (by show(1:Int)≠0;decide) rfl ?_;show _=mE _ _;unfold mE eI;rw[show gU _ (j7 C 1 f 0 0).gK=some (Am.cH C s (.join f))from N6 h hz hf rfl,au,KB h hz hn (a:=.join f) hf (eO I),dr];rfl
theorem VH(h:AR C s M sz n)(hz:Am.SZ C s)(hn:n<=2000000000)(hf:f<C.F)(hb:o.eK=1)(hh:o.gK=f)(hv:-1000000000000<=s.mem (.join f)/\s.mem (.join f)<=1000000000000)(c:Int) :
 jv o M c=some (0,(if s.mem (.join f)-1=0 then o else {o with aA:=0,fF:=c,mO:=s.mem (.join f)-1}),nt M (M.cell.set (Am.cH C s (.join f)).toNat (s.mem (.join f)-1)) 3 (Am.cH C s (.join f)) (-1) (s.mem (.join f)-1) true):=by
 unfold jv eI;rw[hh,N6 (t:=⟨o.eK,o.eD⟩) h hz hf hb,au,KB h hz hn (a:=.join f) hf (v:=s.mem (.join f)-1) (by rw[eO I];omega),dr,aP rfl];by_cases e:s.mem (.join f)-1=0
 ·rw[aP e,aP e]
 ·rw[cu e,cu e,au]
theorem Rc(h:AR C s M sz n)(hz:Am.SZ C s)(hn:n<=2000000000)(hf:f<C.F)(hb:o.eK=1)(hh:o.gK=f)(c:Int) :
 ja o M c=some (0,{o with aA:=0,fF:=c,mO:=0},nt M (M.cell.set (Am.cH C s (.join f)).toNat 1) 1 (Am.cH C s (.join f)) 1 0 true):=by
 unfold ja eI;rw[hh,N6 (t:=⟨o.eK,o.eD⟩) h hz hf hb,au,wD h hz hn (a:=.join f) hf,eR,aP rfl,au]
theorem X2(h:AR C s M sz n)(hz:Am.SZ C s)(hn:n<=2000000000)(hf:f<C.F)(hv:-1000000000000<=s.mem (.join f)/\s.mem (.join f)<=1000000000000) :
 dm M (j7 C 3 f 0 0)=some ((if s.mem (.join f)-1=0 then {j7 C 3 f 0 0 with aA:=2}else {j7 C 3 f 0 0 with aA:=0,fF:=12,mO:=s.mem (.join f)-1}),nt M (M.cell.set (Am.cH C s (.join f)).toNat (s.mem (.join f)-1)) 3 (Am.cH C s (.join f)) (-1) (s.mem (.join f)-1) true):=by
 have e:=VH (o:=j7 C 3 f 0 0) h hz hn hf rfl rfl hv 12;have e2:jw (j7 C 3 f 0 0) M=jv (j7 C 3 f 0 0) M 12:=by unfold jw;rw[aP (show(j7 C 3 f 0 0).aA=1 from rfl),e,dr]
 have:=Ff (o:=j7 C 3 f 0 0) (M:=M) (by show(1:Int)≠0;decide) (e2.trans e) rfl;rw[this];by_cases e:s.mem (.join f)-1=0
 ·rw[aP e,aP e,aP (by show(1:Int)>0;decide)];rfl
 ·rw[cu e,cu e,cu (by show ¬(0:Int)>0;decide)]
theorem aaN(h:AR C s M sz n)(hz:Am.SZ C s)(hn:n<=2000000000)(hf:f<C.F){k:Nat}(hk:k<8)(v:Int) :
 dm M (j7 C 2 f k v)=some ({j7 C 2 f k v with aA:=2},nt M (M.cell.set (Am.cH C s (.slot f k)).toNat v) 1 (Am.cH C s (.slot f k)) v 0 true):=by
 have e:gF (j7 C 2 f k v) M=some (0,j7 C 2 f k v,nt M (M.cell.set (Am.cH C s (.slot f k)).toNat v) 1 (Am.cH C s (.slot f k)) v 0 true):=by
  unfold gF;rw[aP (show(j7 C 2 f k v).aA=1 from rfl),show kH _ (j7 C 2 f k v).gK (j7 C 2 f k v).slot=some (Am.cH C s (.slot f k))from Zq h hz hf hk rfl,au,show(j7 C 2 f k v).Na=v from rfl,wD h hz hn (a:=.slot f k) ⟨hf,hk⟩,eR]
 have:=Ff (o:=j7 C 2 f k v) (M:=M) (by show(1:Int)≠0;decide) e rfl;rw[this,aP (by show(1:Int)>0;decide)];rfl
theorem X3(h:AR C s M sz n)(hz:Am.SZ C s)(hn:n<=2000000000)(hf:f<C.F){k:Nat}(hk:k<8) :
 dm M (j7 C 5 f k 0)=some ({j7 C 5 f k 0 with aA:=0,fF:=15,mO:=s.mem (.slot f k)},nt M M.cell 0 (Am.cH C s (.slot f k)) (s.mem (.slot f k)) 0 true):=by
 have e:lT (j7 C 5 f k 0) M=some (0,{j7 C 5 f k 0 with aA:=0,fF:=15,mO:=s.mem (.slot f k)},nt M M.cell 0 (Am.cH C s (.slot f k)) (s.mem (.slot f k)) 0 true):=by
  unfold lT eI;rw[show kH _ (j7 C 5 f k 0).gK (j7 C 5 f k 0).slot=some (Am.cH C s (.slot f k))from Zq h hz hf hk rfl,au,zK h hz hn (a:=.slot f k) ⟨hf,hk⟩,dr];rfl
 have:=Ff (o:=j7 C 5 f k 0) (M:=M) (by show(1:Int)≠0;decide) e rfl;rw[this,cu (by show ¬(0:Int)>0;decide)]
theorem X4(h:AR C s M sz n)(hz:Am.SZ C s)(hn:n<=2000000000)(hv:0<=s.mem .next/\s.mem .next<=1000000000000) :
 dm M (j7 C 0 0 0 0)=some ((if s.mem .next+1<=C.F then {j7 C 0 0 0 0 with aA:=0,fF:=4,mO:=s.mem .next}else {j7 C 0 0 0 0 with aA:=0,fF:=3,mO:=0}),nt M (M.cell.set (Am.cH C s .next).toNat (s.mem .next+1)) 3 (Am.cH C s .next) 1 (s.mem .next+1) true):=by
 have e:jW (j7 C 0 0 0 0) M=some (0,(if s.mem .next+1<=C.F then {j7 C 0 0 0 0 with aA:=0,fF:=4,mO:=s.mem .next}else {j7 C 0 0 0 0 with aA:=0,fF:=3,mO:=0}),nt M (M.cell.set (Am.cH C s .next).toNat (s.mem .next+1)) 3 (Am.cH C s .next) 1 (s.mem .next+1) true):=by
  unfold jW pR eI;rw[au,show(⟨(j7 C 0 0 0 0).eK,(j7 C 0 0 0 0).eD⟩:bq).lA=Am.cH C s .next from rfl,KB h hz hn (a:=.next) trivial (eO I),dr,aP rfl,p7,au];by_cases e:s.mem .next+1<=C.F
  ·rw[aP e,aP (by show decide (s.mem .next+1<=(C.F:Int))=true;exact tY e),eO I,show s.mem .next+1-1=s.mem .next by omega];rfl
  ·rw[cu e,cu (by show ¬decide (s.mem .next+1<=(C.F:Int))=true;simpa using e)];rfl
 have:=Ff (o:=j7 C 0 0 0 0) (M:=M) (by show(1:Int)≠0;decide) e rfl;rw[this];by_cases e:s.mem .next+1<=C.F
 ·rw[aP e,cu (by show ¬(0:Int)>0;decide)]
 ·rw[cu e,cu (by show ¬(0:Int)>0;decide)]
end
section
variable {K:Nat}{C:Am.kY}{p:aE}{s:Am.St}{S:ag}{M M':af}{sz n i f:Nat}{D:aT}{d:Int}{o':cz}
variable (b:xJ C p s S M sz n)(hi:i<C.N)
include b hi
theorem HG(hb:Am.busy (Am.sig (s.pc i))=true) :∃f,s.hold i=some f/\f<s.nf/\f<C.F/\(act S i).ay=f:=by
 obtain⟨f,hh⟩:=Am.sG b.fi hi hb;have h:=(Am.pZ b.fi hi hh).2;exact⟨f,hh,h,Nat.lt_of_lt_of_le h b.fi.yj,by rw[show(act S i).ay=fi (s.hold i)from(b.ku.wk i hi).ay,hh];rfl⟩
theorem SN:(⟨S.dL,S.cW⟩:bq)=⟨1,C.F⟩:=by rw[b.ku.tb,b.ku.tf]
theorem N7{a:bH}{c v:Int}(h1:dm M a.dP=some (o',M'))(h2:ji o'=some (c,v)):fg (gP S i a) M (i:Int)=some (c,v,gP S i {a with dP:=o' },M'):=by
 unfold fg j3 an;rw[Bn b hi,h1,eR];simp only;rw[h2,eR,cQ];show some (_,_,({S with aj:=(S.aj.set i a).set i {a with dP:=o' }}:ag),M')=_;rw[iX];rfl
theorem VI{x:Int}(hp:s.pc i= .start x):jN C p sz n M (Am.aJ C s i d) (jK S M (i:Int) D):=by
 obtain⟨w1,w2,w3⟩:=b.ku.wk i hi;obtain⟨f,hh,hn,hF,hfr⟩:=HG b hi (by rw[hp];rfl);rw[hp]at w3;obtain⟨a1,a2⟩:=w3;have hs:=X1 b.ar b.z b.cN hF (b.NP rfl);have h:=N7 b hi (a:={act S i with dP:=j7 C 4 f 0 0}) hs (L6 rfl rfl);unfold Am.aJ;rw[hp];simp only[hh,pK];refine .mk (a:={act S i with dP:={j7 C 4 f 0 0 with aA:=0,fF:=14,mO:=s.mem (.mark f)+1},aI:=1}) b hi ?_ w1 w2 rfl rfl (b.BS (c:=.mark f) rfl (by rw[hp];rfl) hF _ _ _ _ _) (Lg.nt rfl) (by show(1:Nat)≠0;decide);unfold jK xW j3 an;rw[SN b hi,cQ,hfr,HF b.ok hF,au,au];rw[show({S with aj:=S.aj.set i {J S.aj i with dP:=j7 C 4 f 0 0}}:ag)=gP S i {act S i with dP:=j7 C 4 f 0 0}from rfl,h,gH,aP rfl,aP (by rw[j5];exact b.BW hi),show J (gP S i _).aj i=_ from ot (b.wl hi)];show some ((⟨0,0,1,(act S i).ay,(act S i).from_,s.mem (.mark f)+1⟩:aq),({S with aj:=(S.aj.set i _).set i _}:ag),_)=_;rw[iX];refine nV some (B6 ?_ rfl);show(⟨0,0,1,(act S i).ay,(act S i).from_,s.mem (.mark f)+1⟩:aq)=_;rw[hfr,show(act S i).from_=x from a2];rfl
theorem X5{c:Nat}(hp:s.pc i= .fork c):jN C p sz n M (Am.aJ C s i d) (kq S M (i:Int) D):=by
 obtain⟨w1,w2,w3⟩:=b.ku.wk i hi;obtain⟨f,hh,hn,hF,hfr⟩:=HG b hi (by rw[hp];rfl);rw[hp]at w3;obtain⟨a1,a2⟩:=w3;have hs:=aaM b.ar b.z b.cN hF (b.NP rfl);have h:=N7 b hi (a:={act S i with dP:=j7 C 1 f 0 0}) hs (L6 rfl rfl);unfold Am.aJ;rw[hp];simp only[hh,pK];refine .mk (a:={act S i with dP:={j7 C 1 f 0 0 with aA:=0,fF:=9,mO:=s.mem (.join f)+1},bx:=E9 C 1 1 i c,aI:=3}) b hi ?_ w1 w2 rfl ⟨rfl,a2,⟨rfl,rfl,rfl,rfl⟩,rfl⟩ (b.BS (c:=.join f) rfl (by rw[hp];rfl) hF _ _ _ _ _) (Lg.nt rfl) trivial;unfold kq zh j3 an;rw[SN b hi,cQ,hfr,HF b.ok hF,au,au];rw[show({S with aj:=S.aj.set i {J S.aj i with dP:=j7 C 1 f 0 0}}:ag)=gP S i {act S i with dP:=j7 C 1 f 0 0}from rfl,h,gH,aP rfl,aP (by rw[j5];exact b.BW hi),show J (gP S i _).aj i=_ from ot (b.wl hi)];unfold ni AZ;rw[aP (by show bI (act S i).bz S.dK.length;rw[show(act S i).bz=i from w1];exact⟨I,by rw[b.ku.dl];omega⟩),au];rw[show J (gP S i _).dK (Int.toNat _)=NR C i from(by show J S.dK (act S i).bz.toNat=_;rw[show(act S i).bz=i from w1,cQ];exact b.ku.dq i hi)];show ei (ei (po 1 1 (NR C i) (act S i).cr) _) _=_;rw[show po 1 1 (NR C i) (act S i).cr=some (E9 C 1 1 i c) by rw[show(act S i).cr=c from a2];exact CF b _ _ _ _,au,au];show some (_,({S with aj:=((S.aj.set i _).set i _).set i _}:ag),_)=_;rw[iX,iX];rfl
theorem SP{S0:ag}{a:bH}(h0:S0=gP S i a)(ha:a.bz=i)(M':af):jS S0 M' (i:Int)=some (gP S i {a with bx:=E9 C 2 1 i 0,aI:=8}):=by
 subst h0;unfold jS ni An j3 an;rw[Bn b hi,ha,aP (by show bI (i:Int) S.dK.length;exact⟨I,by rw[b.ku.dl];omega⟩),au,cQ,show J (gP S i a).dK i=NR C i from b.ku.dq i hi,CF b,au,au];show some ({S with aj:=((S.aj.set i _).set i _).set i _}:ag)=_;rw[iX,iX,<-ha];rfl
end
def lB(S:ag)(T:List aY):ag:={S with aK:=T}
section
variable {K:Nat}{C:Am.kY}{p:aE}{s:Am.St}{S:ag}{M M':af}{sz n i f:Nat}{D:aT}{d:Int}{o':cz}{T:List aY}{a:bH}
variable (b:xJ C p s S M sz n)(hi:i<C.N)
include b hi
theorem w5:J (gP (lB S T) i a).aj (i:Int).toNat=a:=by rw[cQ];exact ot (b.wl hi)
theorem VJ:bI (i:Int) (gP (lB S T) i a).aj.length:=by rw[j5];exact b.BW hi
theorem yF{c v:Int}(h1:dm M a.dP=some (o',M'))(h2:ji o'=some (c,v)):fg (gP (lB S T) i a) M (i:Int)=some (c,v,gP (lB S T) i {a with dP:=o' },M'):=by
 unfold fg j3 an;rw[w5 b hi,h1,eR];simp only;rw[h2,eR,cQ];show some (_,_,({S with aK:=T,aj:=(S.aj.set i a).set i {a with dP:=o' }}:ag),M')=_;rw[iX];rfl
theorem X6(ha:a.bz=i)(M':af):jS (gP (lB S T) i a) M' (i:Int)=some (gP (lB S T) i {a with bx:=E9 C 2 1 i 0,aI:=8}):=by
 unfold jS ni An j3 an;rw[w5 b hi,aP (by rw[ha];show bI (i:Int) S.dK.length;exact⟨I,by rw[b.ku.dl];omega⟩),au];rw[show J (gP (lB S T) i a).dK a.bz.toNat=NR C i from(by rw[ha,cQ];exact b.ku.dq i hi),CF b,au,au,cQ];show some ({S with aK:=T,aj:=((S.aj.set i _).set i _).set i _}:ag)=_;rw[iX,iX];rfl
theorem VK(h1:dm M a.dP=some (o',M'))(h2:o'.eK=1)(h3:o'.aA>0):dA (gP (lB S T) i a) M (i:Int) D=some (Dm none,gP (lB S T) i {a with dP:=o' },M'):=by
 unfold dA j3 an;rw[yF b hi h1 (VG h2 h3),gH,aP rfl];rfl
theorem SQ(h1:dm M a.dP=some (o',M'))(h2:o'.eK=1)(h3:o'.aA=0)(h4:o'.fF=13)(hf:a.ay=f):dA (gP (lB S T) i a) M (i:Int) D=some (Dm (Am.ev 5 f 0 0),gP (lB S T) i {a with dP:=o',aI:=1},M'):=by
 unfold dA j3 an;rw[yF b hi h1 (L6 h2 h3),gH,h4,cu eC,aP rfl,aP (VJ b hi),w5 b hi,w5 b hi,cQ];show some ((⟨0,0,5,a.ay,0,0⟩:aq),({S with aK:=T,aj:=(S.aj.set i _).set i _}:ag),M')=_;rw[iX];refine nV some (B6 ?_ rfl);show(⟨0,0,5,a.ay,0,0⟩:aq)=_;rw[hf];rfl
theorem SR(ha:a.bz=i)(h1:dm M a.dP=some (o',M'))(h2:o'.eK=1)(h3:o'.aA=0)(h4:o'.fF=12)(hf:a.ay=f):dA (gP (lB S T) i a) M (i:Int) D=some (Dm (Am.ev 4 f 0 0),gP (lB S T) i {a with dP:=o',ay:=-1,bx:=E9 C 2 1 i 0,aI:=8},M'):=by
 unfold dA j3 an;rw[yF b hi h1 (L6 h2 h3),gH,h4,cu eC,cu eC,aP rfl,aP (VJ b hi),w5 b hi,w5 b hi,cQ];have e:({gP (lB S T) i {a with dP:=o' }with aj:=(gP (lB S T) i {a with dP:=o' }).aj.set i {({a with dP:=o' }:bH)with ay:=-1}}:ag)=gP (lB S T) i {a with dP:=o',ay:=-1}:=by
  show({S with aK:=T,aj:=(S.aj.set i _).set i _}:ag)=_;rw[iX];rfl
 rw[e,X6 b hi (a:={a with dP:=o',ay:=-1}) ha,au];refine nV some (B6 ?_ rfl);show(⟨0,0,4,a.ay,0,0⟩:aq)=_;rw[hf];rfl
theorem PR:gP (lB S S.aK) i (act S i)=S:=kr b hi
theorem PS(hp:s.pc i= .ru):jN C p sz n M (Am.aJ C s i d) (dA S M (i:Int) D):=by
 obtain⟨w1,w2,w3⟩:=b.ku.wk i hi;obtain⟨f,hh,hn,hF,hfr⟩:=HG b hi (by rw[hp];rfl);rw[hp]at w3;obtain⟨a1,t1,t2,t3,t4,t5⟩:=w3;have t3:(act S i).dP.gK=f:=by rw[show(act S i).dP.gK=((act S i).ay.toNat:Int)from t3,hfr];rfl
 have e:=Rc (o:=(act S i).dP) b.ar b.z b.cN hF t1 t3 13;have e2:jw (act S i).dP M=ja (act S i).dP M 13:=by
  unfold jw;rw[dR t4,e,dr]
 have hs:=Ff (o:=(act S i).dP) (M:=M) (by rw[t4];decide) (e2.trans e) (by rw[t5];rfl);rw[cu (by show ¬(0:Int)>0;decide)]at hs;have h:=SQ (D:=D) (T:=S.aK) (a:=act S i) b hi hs t1 rfl rfl hfr;rw[PR b hi]at h;unfold Am.aJ;rw[hp];simp only[hh,pK];exact .mk b hi h w1 w2 rfl rfl (b.BS (c:=.join f) rfl (by rw[hp];rfl) hF _ _ _ _ _) (Lg.nt rfl) (by show(5:Nat)≠0;decide)
theorem VL(h1:dm M (act S i).dP=some (o',M'))(h2:o'.eK=1)(h3:o'.aA=0)(h4:o'.fF=10):fe S M (i:Int) D=some (Dm none,gP S i {act S i with dP:=o',bx:=E9 C 2 1 i 0,aI:=8},M'):=by
 have w1:=(b.ku.wk i hi).self;unfold fe j3 an;rw[LZ h1 (L6 h2 h3),gH,h4,cu eC,aP rfl,aP (by rw[j5];exact b.BW hi),SP b hi (a:={act S i with dP:=o' }) rfl w1,au];rfl
theorem VM(h1:dm M (act S i).dP=some (o',M'))(h2:o'.eK=1)(h3:o'.aA=0)(h4:o'.fF=11)(hin:bI (act S i).done S.aK.length):fe S M (i:Int) D=some ((⟨0,0,7,(J S.aK (act S i).done.toNat).parent,(act S i).done,0⟩:aq),gP S i {act S i with dP:=o',ay:=(J S.aK (act S i).done.toNat).parent,aI:=1},M'):=by
 unfold fe eG j3 an;rw[LZ h1 (L6 h2 h3),gH,h4,cu eC,cu eC,aP rfl,aP (by rw[j5];exact b.BW hi),cQ,show J (gP S i {act S i with dP:=o' }).aj i={act S i with dP:=o' }from ot (b.wl hi)];rw[aP (by exact hin),jC,aP (by exact hin)];show some ((⟨0,0,7,(J S.aK (act S i).done.toNat).parent,(act S i).done,0⟩:aq),({S with aj:=((S.aj.set i _).set i _).set i _}:ag),_)=_;rw[iX,iX];rfl
theorem aaO{pp c:Nat}(hp:s.pc i= .out pp c):jN C p sz n M (Am.aJ C s i d) (fe S M (i:Int) D):=by
 obtain⟨w1,w2,w3⟩:=b.ku.wk i hi;have hg:(Am.view s).g i= .out pp c:=by show Am.sig (s.pc i)=_;rw[hp];rfl
 obtain⟨q1,q2,q3,q4,q5,q6⟩:=b.fi.hO hi hg;have hF:pp<C.F:=Nat.lt_of_lt_of_le q3 b.fi.yj;rw[hp]at w3;obtain⟨a1,a2,t1,t2,t3,t4,t5⟩:=w3;have e:=VH (o:=(act S i).dP) b.ar b.z b.cN hF t1 t3 (b.NP rfl) 10;have e2:gF (act S i).dP M=jv (act S i).dP M 10:=by
  unfold gF;rw[dR t4,aP t4,e,dr]
 have hs:=Ff (o:=(act S i).dP) (M:=M) (by rw[t4];decide) (e2.trans e) (by rw[t5];rfl);unfold Am.aJ;rw[hp];simp only;by_cases h0:s.mem (.join pp)-1=0
 ·rw[aP h0];rw[aP h0,aP (by rw[t4];decide)]at hs;have hst:wi ((act S i).dP.aA+1)=3:=by rw[t4];rfl
  refine .mk (a:={act S i with dP:={(act S i).dP with aA:=wi ((act S i).dP.aA+1)}}) b hi ?_ w1 w2 rfl ⟨a1,a2,t1,t2,t3,hst,t5⟩ (b.BS (c:=.join pp) rfl (by rw[hp];rfl) hF _ _ _ _ _) (Lg.nt rfl) trivial;unfold fe j3 an;rw[LZ hs (VG t1 (by show wi ((act S i).dP.aA+1)>0;rw[hst];decide)),gH,aP rfl];rfl
 ·rw[cu h0];rw[cu h0,cu (by show ¬(0:Int)>0;decide)]at hs;exact .mk b hi (VL b hi hs t1 rfl rfl) w1 w2 rfl ⟨rfl,⟨rfl,rfl,rfl,rfl⟩,rfl,rfl⟩ (b.BS (c:=.join pp) rfl (by rw[hp];rfl) hF _ _ _ _ _) (Lg.nt rfl) trivial
theorem X7{pp c:Nat}(hp:s.pc i= .take pp c):jN C p sz n M (Am.aJ C s i d) (fe S M (i:Int) D):=by
 obtain⟨w1,w2,w3⟩:=b.ku.wk i hi;have hg:(Am.view s).g i= .take pp c:=by show Am.sig (s.pc i)=_;rw[hp];rfl
 obtain⟨q6,q2,q4⟩:=b.fi.tp i pp c hi hg;have q3:pp<s.nf:=q4▸ b.fi.pr c q2;have hF:pp<C.F:=Nat.lt_of_lt_of_le q3 b.fi.yj;rw[hp]at w3;obtain⟨a1,a2,t1,t2,t3,t4,t5⟩:=w3;have e:=Rc (o:=(act S i).dP) b.ar b.z b.cN hF t1 t3 11;have e2:gF (act S i).dP M=ja (act S i).dP M 11:=by
  unfold gF;rw[dR t4,dR t4,e,dr]
 have hs:=Ff (o:=(act S i).dP) (M:=M) (by rw[t4];decide) (e2.trans e) (by rw[t5];rfl);rw[cu (by show ¬(0:Int)>0;decide)]at hs;have SS:(J S.aK (act S i).done.toNat).parent=pp:=by
  rw[show(act S i).done=c from a2,cQ,(b.ku.tk c q2).par,cu q6];rw[show pp=(s.fr c).par from q4]
 have hin:bI (act S i).done S.aK.length:=by rw[show(act S i).done=c from a2];exact b.task q2
 unfold Am.aJ;rw[hp];simp only;refine .mk b hi ((VM b hi hs t1 rfl rfl hin).trans (nV some (B6 ?_ rfl))) w1 (by show(J S.aK (act S i).done.toNat).parent=fi (Am.cI s.hold i (some pp) i);rw[SS,Am.aU];rfl) rfl rfl (b.BS (c:=.join pp) rfl (by rw[hp];rfl) hF _ _ _ _ _) (Lg.nt rfl) (by show(7:Nat)≠0;decide) (hh:=λj hj=>Am.aM hj);show(⟨0,0,7,(J S.aK (act S i).done.toNat).parent,(act S i).done,0⟩:aq)=_;rw[SS,show(act S i).done=c from a2];rfl
end
end Mo
end
end Go.Proofs.YtpikpffbcjpmcaaGreatDoor

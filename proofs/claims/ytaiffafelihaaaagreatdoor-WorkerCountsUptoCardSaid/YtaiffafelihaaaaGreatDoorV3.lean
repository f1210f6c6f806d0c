/- plunderlaw11.WorkerCounts answers true for every input of the bulk that the statement names, and leaves its input alone. Conditions: none. -/
import Derived.Test.YtaiffafelihaaaaGreatDoorV2
set_option linter.unusedVariables false
set_option linter.unusedSimpArgs false
set_option linter.unusedSectionVars false
set_option maxRecDepth 100000
set_option maxHeartbeats 4000000
set_option autoImplicit true
set_option relaxedAutoImplicit true
namespace Go.Proofs.YtaiffafelihaaaaGreatDoor
section
namespace Mo
open Go SL GX
section
variable {K:Nat}
abbrev ar(sz:Int)(c:List Int)(l:List bl)(a:Int)(w:Bool):ag:=⟨sz,(c.length:Nat),c,l,a,w⟩
def yg(w:Bool)(l xs:List bl):List bl:=if w then l++xs else l
theorem Bg(w:Bool)(l xs ys:List bl):yg w (yg w l xs) ys=yg w l (xs++ys):=by cases w<;>simp[yg]
theorem K7(w:Bool)(l:List bl):yg w l []=l:=by cases w<;>simp[yg]
theorem yX(w:Bool)(l xs:List bl):(yg w l xs).length<=l.length+xs.length:=by cases w<;>simp[yg]
theorem K8{sz:Int}{m:Int}{c:List Int}{l:List bl}{a:Int}{w:Bool}(hl:l.length<=2000000000)(k d x y:Int)(ok:Bool) :
 ga ⟨sz,m,c,l,a,w⟩ k d x y ok=some ⟨sz,m,c,yg w l [⟨a,k,d,x,y,ok⟩],a,w⟩:=by
 unfold ga yg;cases w
 ·rfl
 ·rw[aM rfl,aM (by show(l.length+1)*48<=_;omega)];rfl
theorem K9{sz:Int}{c:List Int}{l:List bl}{a:Int}{w:Bool}(hl:l.length<=2000000000)(hs:sz<=2000000000){n:Int}(h1:1<=n)(hn:(c.length:Int)+n<=sz) :
 fN (ar sz c l a w) n=some (((c.length:Nat):Int),0,ar sz (c++List.replicate n.toNat 0) (yg w l [⟨a,4,(c.length:Nat),n,0,true⟩]) a w):=by
 unfold fN mW qv;rw[ju,eu,eO (by show -9223372036854775808<=sz-(c.length:Nat)/\sz-(c.length:Nat)<=9223372036854775807;omega),bZ (by show ¬n>sz-(c.length:Nat);omega),aq,aM rfl,eF,
  aM ⟨I,by show(c.length+n.toNat)*8<=_;omega⟩,K8 hl,aq,eO (by show -9223372036854775808<=((c.length:Nat):Int)+n/\((c.length:Nat):Int)+n<=9223372036854775807;omega)]
 simp only[ar,kQ,nX];rw[show((c.length+n.toNat:Nat):Int)=((c.length:Nat):Int)+n by omega]
theorem La{sz:Int}{c:List Int}{l:List bl}{a:Int}{w:Bool}(hs:sz<=2000000000)(hs0:0<=sz)(hc:c.length<=2000000000){n:Int}(h1:1<=n)(hn:¬(c.length:Int)+n<=sz) :
 fN (ar sz c l a w) n=some (0,22,ar sz c l a w):=by
 unfold fN mW;rw[ju,eu,eO (by show -9223372036854775808<=sz-(c.length:Nat)/\sz-(c.length:Nat)<=9223372036854775807;omega),aM (by show n>sz-(c.length:Nat);omega),aq,bZ dO]
theorem Uj{sz:Int}{c:List Int}{l:List bl}{a:Int}{w:Bool}{d:Int}(h0:0<=d)(h1:d<(c.length:Nat)):iw (ar sz c l a w) d=some false:=by
 unfold iw rE;rw[aM h0,aq];simp[h1]
theorem OU{sz:Int}{c:List Int}{l:List bl}{a:Int}{w:Bool}(hl:l.length<=2000000000){d v:Int}(h0:0<=d)(h1:d<(c.length:Nat)) :
 dP (ar sz c l a w) d v=some (0,ar sz (c.set d.toNat v) (yg w l [⟨a,1,d,v,0,true⟩]) a w):=by
 unfold dP;rw[Uj h0 h1,aq,bZ dO,aM ⟨h0,h1⟩,K8 hl,aq];simp only[ar,gV]
theorem ZK{sz:Int}{c:List Int}{l:List bl}{a:Int}{w:Bool}(hl:l.length<=2000000000){d v:Int}(h0:0<=d)(h1:d<(c.length:Nat)) :
 iU (ar sz c l a w) d v=some (wi (J c d.toNat+v),0,ar sz (c.set d.toNat (wi (J c d.toNat+v))) (yg w l [⟨a,3,d,v,wi (J c d.toNat+v),true⟩]) a w):=by
 unfold iU;have h2:d.toNat<c.length:=by omega
 rw[Uj h0 h1,aq,bZ dO,aM ⟨h0,h1⟩,aM ⟨h0,by rw[gV];exact h1⟩,K8 hl,aq,aM ⟨h0,by show d<(((c.set d.toNat _).length:Nat):Int);rw[gV];exact h1⟩];simp only[ar,gV];rw[uK h2]
def qQ(sz:Int):List bl->List bl
 | []=>[]
 | x::xs=>if x.aP=4/\x.Addr+x.A>sz then []else x::qQ sz xs
theorem F1{sz:Int}:∀(xs ys:List bl),(∀x∈xs,x.aP≠4)->qQ sz (xs++ys)=xs++qQ sz ys
 | [],ys,_=>rfl
 | x::xs,ys,h=>by
  rw[ua,qQ,bZ (λe=>h x (by simp) e.1),F1 xs ys (λy hy=>h y (L4 _ hy))];rfl
theorem Nj{sz:Int}:∀(xs ys:List bl),qQ sz xs=xs->qQ sz (xs++ys)=xs++qQ sz ys
 | [],ys,_=>rfl
 | x::xs,ys,h=>by
  rw[qQ]at h;by_cases e:x.aP=4/\x.Addr+x.A>sz
  ·rw[aM e]at h;exact absurd h (by simp)
  ·rw[bZ e]at h;rw[ua,qQ,bZ e,Nj xs ys (List.cons.inj h).2];rfl
def Lb(a:Int)(i:Nat):Nat->List bl
 | 0=>[]
 | d+1=>⟨a,1,2+10*(i:Int),1,0,true⟩::Lb a (i+1) d
theorem Nk{a:Int}:∀(d i:Nat),∀x∈Lb a i d,x.aP≠4
 | 0,i,x,h=>by simp[Lb]at h
 | d+1,i,x,h=>by
  rcases List.mem_cons.1 h with rfl | h
  ·show(1:Int)≠4;decide
  ·exact Nk d (i+1) x h
theorem Qx{a:Int}:∀(d i:Nat),(Lb a i d).length=d
 | 0,i=>rfl
 | d+1,i=>by rw[Lb,Bj,Qx d (i+1)]
def GQ(a first:Int):Int->Nat->List bl
 | _,0=>[]
 | J,d+1=>⟨a,4,J,4+first,0,true⟩::⟨a,1,J+2,J+3,0,true⟩::⟨a,1,J+3,first,0,true⟩::GQ a first (J+(4+first)) d
theorem Qy{a first:Int}:∀(d:Nat) (J:Int),(GQ a first J d).length=3*d
 | 0,_=>rfl
 | d+1,_=>by rw[GQ,Bj,Bj,Bj,Qy d];omega
structure ZL(F first most:Int):Prop where
 f1:1<=F
 f2:F<=4096
 a1:1<=first
 a2:first<=most
 m2:most<=4096
theorem RH(p:aH)(args:List Int)(n:Int)(l:eL)(hK:3000<K) :∃e:Int,jo K p args n l=some e/\qP K p args n l=some e/\(e=0∨e=110∨e=111∨e=60∨e=61)/\(e=0->Valid p/\(args.length:Int)=(J p.ah 0).aS/\1<=n/\n<=64/\ZL l.ck l.dU l.kB):=by
 obtain⟨x,e1,e2,e3⟩:=T5 (K:=K) p hK;unfold jo qP;rw[e1,e2,aq,aq];by_cases hx:x.wQ=0
 ·have hv:=e3 hx;have:=hv.n1;have hi:bM (0:Int) p.ah.length:=⟨dO,I⟩;rw[aM hx,aM hx,aM hi,aM hi];by_cases ha:((args.length:Nat):Int)=(J p.ah 0).aS
  ·rw[aM ha,aM ha];unfold vb js ve;by_cases h1:n<1
   ·rw[aM h1,bZ (show ¬n>=1 by omega)];exact⟨110,rfl,rfl,by simp,λh=>absurd h dO⟩
   ·rw[bZ h1,aM (show n>=1 by omega)];by_cases h2:n>64
    ·rw[aM h2,JS (show ¬n<=64 by omega)];exact⟨110,rfl,rfl,by simp,λh=>absurd h dO⟩
    ·rw[bZ h2,tJ (show n<=64 by omega),aq,aM rfl];by_cases g1:l.ck<1
     ·rw[aM g1,bZ (show ¬l.ck>=1 by omega)];exact⟨111,rfl,rfl,by simp,λh=>absurd h dO⟩
     rw[bZ g1,aM (show l.ck>=1 by omega)];by_cases g2:l.ck>4096
     ·rw[aM g2,bZ (show ¬l.ck<=4096 by omega)];exact⟨111,rfl,rfl,by simp,λh=>absurd h dO⟩
     rw[bZ g2,aM (show l.ck<=4096 by omega)];by_cases g3:l.dU<1
     ·rw[aM g3,bZ (show ¬(1:Int)<=l.dU by omega)];exact⟨111,rfl,rfl,by simp,λh=>absurd h dO⟩
     rw[bZ g3,aM (show(1:Int)<=l.dU by omega)];by_cases g4:l.dU>l.kB
     ·rw[aM g4,bZ (show ¬l.dU<=l.kB by omega)];exact⟨111,rfl,rfl,by simp,λh=>absurd h dO⟩
     rw[bZ g4,aM (show l.dU<=l.kB by omega)];by_cases g5:l.kB>4096
     ·rw[tJ g5,JS (show ¬l.kB<=4096 by omega)];exact⟨111,rfl,rfl,by simp,λh=>absurd h dO⟩
     ·rw[JS g5,tJ (show l.kB<=4096 by omega)];exact⟨0,rfl,rfl,.inl rfl,λ_=>⟨hv,ha,I,I,⟨I,I,I,I,I⟩⟩⟩
  ·rw[bZ ha,bZ ha];exact⟨61,rfl,rfl,by simp,λh=>absurd h dO⟩
 ·rw[bZ hx,bZ hx];exact⟨60,rfl,rfl,by simp,λh=>absurd h dO⟩
structure Iq(N F afU:Nat)(first:Int)(c:List Int):Prop where
 len:c.length=4+10*F+N+N*afU
 c0:J c 0=0
 c1:J c 1=1
 fr:∀f,f<F->∀r,r<10->J c (2+10*f+r)=if r=0 then 1 else 0
 lot:∀r,r<2+N->J c (2+10*F+r)=0
 dq:∀i,i<N->∀r,r<afU->J c (4+10*F+N+i*afU+r)=if r=2 then((4+10*F+N+i*afU+3:Nat):Int)else if r=3 then first else 0
theorem ZM{x y:List Int}(hl:x.length=y.length)(he:∀i,i<x.length->J x i=J y i):x=y:=by
 refine L2 hl λi h1 h2 => ?_;have:=he i h1;unfold J at this;rw[List.getD_eq_getElem?_getD,List.getD_eq_getElem?_getD,List.getElem?_eq_getElem h1,List.getElem?_eq_getElem h2]at this;exact this
theorem Iq.eq{N F afU:Nat}(hW:0<afU){first:Int}{c c':List Int}(h:Iq N F afU first c)(h':Iq N F afU first c'):c=c':=by
 refine ZM (by rw[h.len,h'.len]) λx hx => ?_;rw[h.len]at hx;by_cases e0:x=0
 ·subst e0;rw[h.c0,h'.c0]
 by_cases e1:x=1
 ·subst e1;rw[h.c1,h'.c1]
 by_cases e2:x<2+10*F
 ·rw[show x=2+10*((x-2)/10)+(x-2)%10 by omega,h.fr _ I _ I,h'.fr _ I _ I]
 by_cases e3:x<4+10*F+N
 ·rw[show x=2+10*F+(x-(2+10*F)) by omega,h.lot _ I,h'.lot _ I]
 have hd:=FU (x-(4+10*F+N)) afU;have hm:=BF (x-(4+10*F+N)) hW;have hi:(x-(4+10*F+N))/afU<N:=by rw[Nat.div_lt_iff_lt_mul hW];omega
 rw[Nat.mul_comm]at hd;rw[show x=4+10*F+N+(x-(4+10*F+N))/afU*afU+(x-(4+10*F+N))%afU by omega,h.dq _ hi _ hm,h'.dq _ hi _ hm]
end
section
variable {K:Nat}
theorem Cm{l:List Int}{i k:Nat}{x:Int}(h:i<l.length):J (l.set i x) k=if k=i then x else J l k:=qU h
theorem Uk{sz a:Int}{w:Bool}{F:Nat}(hF:F<=4096):∀(d k i:Nat) (c:List Int) (l:List bl),i+d=F->d<k->2+10*F<=c.length->l.length+d<=1000000000->
 ∃c',jI K (F:Int) 1 k (ar sz c l a w) (i:Int)=some (⟨1,F⟩,0,ar sz c' (yg w l (Lb a i d)) a w)/\c'.length=c.length/\(∀f,i<=f->f<F->J c' (2+10*f)=1)/\(∀x,(∀f,i<=f->f<F->x≠2+10*f)->J c' x=J c x)
 | d,k,i,c,l,hd,hk,hc,hl=>by
  obtain⟨k,rfl⟩ :∃m,k=m+1:=⟨k-1,I⟩;rw[jI];by_cases hi:i<F
  ·obtain⟨d,rfl⟩ :∃m,d=m+1:=⟨d-1,I⟩;unfold gK;rw[sR,eO (x:=(1:Int)+1) I,eO (x:=(i:Int)*10) I,eO I,aq,OU I I I,eF,aM rfl,D5 I];have e:((1:Int)+1+(i:Int)*10).toNat=2+10*i:=by omega
   rw[e];have h1:=yX w l [(⟨a,1,1+1+(i:Int)*10,1,0,true⟩:bl)];simp only[G9]at h1;obtain⟨c',r1,r2,r3,r4⟩:=Uk hF d k (i+1) (c.set (2+10*i) 1) (yg w l [⟨a,1,1+1+(i:Int)*10,1,0,true⟩]) I I (by rw[gV];exact hc) I;refine⟨c',?_,by rw[r2,gV],λf h1 h2 => ?_,λx hx => ?_⟩
   ·rw[r1,Bg,Lb,show(1:Int)+1+(i:Int)*10=2+10*(i:Int) by omega];rfl
   ·by_cases e:f=i
    ·subst e;rw[r4 _ (λg h3 h4=>I),Cm I,aM rfl]
    ·exact r3 f I h2
   ·rw[r4 x (λf h3 h4=>hx f I h4),Cm I,bZ (hx i (ja _) hi)]
  ·rw[eu];obtain rfl:d=0:=by omega
   exact⟨c,by rw[Lb,K7],rfl,λf h1 h2=>I,λ_ _=>rfl⟩
def VN(B afU:Nat)(most:Int)(i:Nat):Nat->List cw
 | 0=>[]
 | d+1=>⟨((B+i*afU:Nat):Int),most⟩::VN B afU most (i+1) d
theorem Qz{B afU:Nat}{most:Int}:∀(d i:Nat),(VN B afU most i d).length=d
 | 0,i=>rfl
 | d+1,i=>by rw[VN,Bj,Qz d (i+1)]
theorem Ul{B afU:Nat}{most:Int}:∀(d i j:Nat),j<d->J (VN B afU most i d) j=⟨((B+(i+j)*afU:Nat):Int),most⟩
 | d+1,i,0,_=>by rw[VN];rfl
 | d+1,i,j+1,h=>by
  have:=Ul (B:=B) (afU:=afU) (most:=most) d (i+1) j I;rw[show i+1+j=i+(j+1) by omega]at this;exact this
theorem aet{sz a:Int}{w:Bool}{mz:eL}(hl:ZL mz.ck mz.dU mz.kB)(hs:sz<=2000000000){c:List Int}{l:List bl}(hc:c.length<=1000000000)(hll:l.length<=1000000000) :
 ((c.length:Int)+(4+mz.dU)<=sz->qc (ar sz c l a w) mz.dU mz.kB=some (⟨((c.length:Nat):Int),mz.kB⟩,0,ar sz (((c++List.replicate (4+mz.dU).toNat 0).set (c.length+2) ((c.length:Nat)+3)).set (c.length+3) mz.dU)
  (yg w l [⟨a,4,(c.length:Nat),4+mz.dU,0,true⟩,⟨a,1,(c.length:Nat)+2,(c.length:Nat)+3,0,true⟩,⟨a,1,(c.length:Nat)+3,mz.dU,0,true⟩]) a w))/\
 (0<=sz->¬(c.length:Int)+(4+mz.dU)<=sz->qc (ar sz c l a w) mz.dU mz.kB=some (⟨0,0⟩,22,ar sz c l a w)):=by
 have h1:=hl.a1;have h2:=hl.a2;have h3:=hl.m2;unfold qc xw;rw[aM h1,aM h2,tJ h3,aq,aM rfl,eO (x:=(4:Int)+mz.dU) I];refine⟨λhf => ?_,λh0 hf => ?_⟩
 ·have k1:=yX w l [(⟨a,4,(c.length:Nat),4+mz.dU,0,true⟩:bl)];simp only[G9]at k1;rw[K9 I hs I hf,dc,aM rfl,eO (x:=((c.length:Nat):Int)+2) I,eO (x:=((c.length:Nat):Int)+3) I,OU I I (by rw[kQ,nX];omega),eF,aM rfl];have k2:=yX w (yg w l [(⟨a,4,(c.length:Nat),4+mz.dU,0,true⟩:bl)]) [(⟨a,1,(c.length:Nat)+2,(c.length:Nat)+3,0,true⟩:bl)];simp only[G9]at k2;rw[OU I I (by rw[gV,kQ,nX];omega),eF,aM rfl,Bg,Bg,show(((c.length:Nat):Int)+2).toNat=c.length+2 by omega,show(((c.length:Nat):Int)+3).toNat=c.length+3 by omega]
  rfl
 ·rw[La hs h0 I I hf,dc,bZ dO]
theorem ab2{sz a:Int}{w:Bool}{mz:eL}(hl:ZL mz.ck mz.dU mz.kB)(hs:sz<=1000000000)(hs0:0<=sz){N B afU:Nat}(hN:N<=64)(hB:B<=100000)(hW:(afU:Int)=4+mz.dU){O:af}{jc:Int}{rB:bj}{r32:fc}:∀(d k i:Nat) (c:List Int) (l:List bl) (D:List cw),i+d=N->d<k->c.length=B+i*afU->D.length=i->l.length+3*d<=1000000000->
 (((B+N*afU:Nat):Int)<=sz->∃c',jJ K O (N:Int) mz jc rB r32 k (ar sz c l a w) D (i:Int)=some (.inl (ar sz c' (yg w l (GQ a mz.dU (c.length:Nat) d)) a w,D++VN B afU mz.kB i d))/\qQ sz (GQ a mz.dU (c.length:Nat) d)=GQ a mz.dU (c.length:Nat) d/\c'.length=B+N*afU/\(∀x,x<c.length->J c' x=J c x)/\
   (∀j,i<=j->j<N->∀r,r<afU->J c' (B+j*afU+r)=if r=2 then((B+j*afU+3:Nat):Int)else if r=3 then mz.dU else 0))/\
 (¬((B+N*afU:Nat):Int)<=sz->∃X c',jJ K O (N:Int) mz jc rB r32 k (ar sz c l a w) D (i:Int)=some (.inr (22,X,ar sz c' (yg w l (qQ sz (GQ a mz.dU (c.length:Nat) d))) a w))/\(∀ys,qQ sz (GQ a mz.dU (c.length:Nat) d++ys)=qQ sz (GQ a mz.dU (c.length:Nat) d))∨((B+i*afU:Nat):Int)>sz/\d=0)
 | d,k,i,c,l,D,hd,hk,hc,hD,hll=>by
  obtain⟨k,rfl⟩ :∃m,k=m+1:=⟨k-1,I⟩;have h1:=hl.a1;have h2:=hl.a2;have h3:=hl.m2;have hiW:i*afU<=N*afU:=rQ afU I;have hNW:N*afU<=64*4100:=Nat.mul_le_mul hN I;rw[jJ];by_cases hi:i<N
  ·obtain⟨d,rfl⟩ :∃m,d=m+1:=⟨d-1,I⟩;have hsW:(i+1)*afU=i*afU+afU:=FW i afU;have afE:(i+1)*afU<=N*afU:=rQ afU I;have VO:(((c++List.replicate (4+mz.dU).toNat (0:Int)).set (c.length+2) ((c.length:Nat)+3)).set (c.length+3) mz.dU).length=B+(i+1)*afU:=by
    rw[gV,gV,kQ,nX];omega
   rw[sR];obtain⟨n1,n2⟩:=aet (a:=a) (w:=w) hl (by omega:sz<=2000000000) (c:=c) (l:=l) I I;by_cases hf:(c.length:Int)+(4+mz.dU)<=sz
   ·rw[n1 hf,dc,aM rfl,sR,D5 I];have WQ:∀ys,qQ sz ((⟨a,4,(c.length:Nat),4+mz.dU,0,true⟩:bl)::(⟨a,1,(c.length:Nat)+2,(c.length:Nat)+3,0,true⟩:bl)::(⟨a,1,(c.length:Nat)+3,mz.dU,0,true⟩:bl)::ys)=(⟨a,4,(c.length:Nat),4+mz.dU,0,true⟩:bl)::(⟨a,1,(c.length:Nat)+2,(c.length:Nat)+3,0,true⟩:bl)::(⟨a,1,(c.length:Nat)+3,mz.dU,0,true⟩:bl)::qQ sz ys:=λys=>by
     rw[qQ,bZ (λh=>absurd h.2 (by show ¬((c.length:Nat):Int)+(4+mz.dU)>sz;omega)),qQ,bZ (λh=>absurd h.1 (by show ¬(1:Int)=4;decide)),qQ,bZ (λh=>absurd h.1 (by show ¬(1:Int)=4;decide))]
    have k1:=yX w l [(⟨a,4,(c.length:Nat),4+mz.dU,0,true⟩:bl),(⟨a,1,(c.length:Nat)+2,(c.length:Nat)+3,0,true⟩:bl),(⟨a,1,(c.length:Nat)+3,mz.dU,0,true⟩:bl)];simp only[Bj,xL]at k1;obtain⟨Tz,YZ⟩:=ab2 hl hs hs0 hN hB hW (O:=O) (jc:=jc) (rB:=rB) (r32:=r32) (a:=a) (w:=w) d k (i+1) _ (yg w l [(⟨a,4,(c.length:Nat),4+mz.dU,0,true⟩:bl),(⟨a,1,(c.length:Nat)+2,(c.length:Nat)+3,0,true⟩:bl),(⟨a,1,(c.length:Nat)+3,mz.dU,0,true⟩:bl)]) (D++[⟨((c.length:Nat):Int),mz.kB⟩]) I I VO (by simp[hD]) I;have el:((B+(i+1)*afU:Nat):Int)=((c.length:Nat):Int)+(4+mz.dU):=by omega
    rw[VO,el]at Tz YZ;refine⟨λhfit => ?_,λhno => ?_⟩
    ·obtain⟨c',r1,r0,r2,r3,r4⟩:=Tz hfit;refine⟨c',?_,?_,r2,λx hx => ?_,λj h5 h6 r h7 => ?_⟩
     ·rw[r1,Bg,GQ,VN,s5,hc];rfl
     ·rw[GQ,WQ,r0]
     ·rw[r3 x I,Cm (by rw[gV,kQ,nX];omega),eu,Cm (by rw[kQ,nX];omega),eu,s7 hx]
     ·by_cases e:j=i
      ·subst e;rw[r3 _ I,<-hc,Cm (by rw[gV,kQ,nX];omega),Cm (by rw[kQ,nX];omega),wT I,show c.length+r-c.length=r by omega,ED I];by_cases e2:r=2
       ·subst e2;rw[eu,aM rfl,aM rfl];omega
       ·by_cases e3:r=3
        ·subst e3;rw[aM rfl,eu,aM rfl]
        ·rw[eu,eu,bZ e2,bZ e3]
      ·exact r4 j I h6 r h7
    ·obtain⟨X,c',⟨r1,r2⟩ | r1⟩:=YZ hno
     ·exact⟨X,c',.inl ⟨by rw[r1,Bg,GQ,WQ];rfl,λys=>by rw[GQ,ua,ua,ua,WQ,WQ,r2 ys]⟩⟩
     ·exfalso;omega
   ·have e2:=n2 hs0 hf;refine⟨λhfit=>by exfalso;omega,λhno => ?_⟩;rw[e2,dc,bZ dO];have e3:yg w l (qQ sz (GQ a mz.dU (c.length:Nat) (d+1)))=l:=by
     rw[GQ,qQ,aM ⟨rfl,by show((c.length:Nat):Int)+(4+mz.dU)>sz;omega⟩,K7]
    rw[e3];exact⟨_,c,.inl ⟨rfl,λys=>by rw[GQ,ua,qQ,qQ,aM ⟨rfl,by show((c.length:Nat):Int)+(4+mz.dU)>sz;omega⟩,aM ⟨rfl,by show((c.length:Nat):Int)+(4+mz.dU)>sz;omega⟩]⟩⟩
  ·obtain rfl:d=0:=by omega
   obtain rfl:i=N:=by omega
   rw[eu];refine⟨λhfit=>⟨c,by rw[GQ,K7,VN,G7],rfl,hc,λ_ _=>rfl,λj h5 h6=>I⟩,λhno=>⟨O,c,.inr ⟨I,rfl⟩⟩⟩
def uq(a:Int)(N F:Nat)(first:Int):List bl:=
 [⟨a,4,0,1,0,true⟩,⟨a,4,1,1+10*(F:Int),0,true⟩]++Lb a 0 F++(⟨a,4,2+10*(F:Int),2+(N:Int),0,true⟩::GQ a first (4+10*F+N:Nat) N++[⟨a,3,1,1,1,true⟩])
theorem OV{sz a:Int}{w:Bool}{F:Nat}(h1:1<=F)(h2:F<=4096)(hs:sz<=1000000000)(hs0:0<=sz)(hK:5000<K){l:List bl}(hl:l.length<=100) :
 ((2+10*F:Int)<=sz->∃c,oV K (ar sz [0] l a w) (F:Int)=some (⟨1,F⟩,0,ar sz c (yg w l (⟨a,4,1,1+10*(F:Int),0,true⟩::Lb a 0 F)) a w)/\c.length=2+10*F/\(∀f,f<F->J c (2+10*f)=1)/\(∀x,x<2+10*F->(∀f,f<F->x≠2+10*f)->J c x=0))/\
 (¬(2+10*F:Int)<=sz->oV K (ar sz [0] l a w) (F:Int)=some (⟨0,0⟩,22,ar sz [0] l a w)):=by
 unfold oV vg;rw[bZ (show ¬(F:Int)<1 by omega),bZ (show ¬(F:Int)>4096 by omega),eO (x:=(F:Int)*10) I,eO (x:=1+(F:Int)*10) I,aq,bZ (show ¬1+(F:Int)*10=0 by omega),aq];refine⟨λhf => ?_,λhf => ?_⟩
 ·rw[K9 I I I (by show((1:Nat):Int)+(1+(F:Int)*10)<=sz;omega),dc,aM rfl];have k1:=yX w l [(⟨a,4,1,1+(F:Int)*10,0,true⟩:bl)];simp only[G9]at k1;obtain⟨c,r1,r2,r3,r4⟩:=Uk (K:=K) (sz:=sz) (a:=a) (w:=w) h2 F K 0 ([0]++List.replicate (1+(F:Int)*10).toNat 0) (yg w l [⟨a,4,1,1+(F:Int)*10,0,true⟩]) I I (by rw[kQ,nX];simp;omega) I;rw[rj]at r1;refine⟨c,?_,by rw[r2,kQ,nX];simp;omega,λf hf=>r3 f (xM _) hf,λx hx hn => ?_⟩
  ·show jI K (F:Int) ((1:Nat):Int) K (ar sz ([0]++List.replicate (1+(F:Int)*10).toNat 0) (yg w l [⟨a,4,((1:Nat):Int),1+(F:Int)*10,0,true⟩]) a w) 0=_;rw[show((1:Nat):Int)=1 from rfl,r1,Bg,show 1+(F:Int)*10=1+10*(F:Int) by omega];rfl
  ·rw[r4 x (λf _ h=>hn f h)];by_cases e:x=0
   ·subst e;rfl
   ·rw[wT (by simp;omega),ED (by simp;omega)]
 ·rw[La I hs0 (by simp) I (by show ¬((1:Nat):Int)+(1+(F:Int)*10)<=sz;omega),dc,bZ dO]
theorem Um{sz a:Int}{w:Bool}{N:Nat}(h1:1<=N)(h2:N<=64)(hs:sz<=1000000000)(hs0:0<=sz){c:List Int}(hc:c.length<=100000){l:List bl}(hl:l.length<=100000) :
 ((c.length+2+N:Int)<=sz->rF (ar sz c l a w) (N:Int)=some (⟨(c.length:Nat),N⟩,0,ar sz (c++List.replicate (2+N) 0) (yg w l [⟨a,4,(c.length:Nat),2+(N:Int),0,true⟩]) a w))/\
 (¬(c.length+2+N:Int)<=sz->rF (ar sz c l a w) (N:Int)=some (⟨0,0⟩,22,ar sz c l a w)):=by
 unfold rF pD;rw[bZ (show ¬(N:Int)<1 by omega),bZ (show ¬(N:Int)>64 by omega),eO (x:=2+(N:Int)) I,aq,bZ (show ¬2+(N:Int)=0 by omega),aq];refine⟨λhf => ?_,λhf => ?_⟩
 ·rw[K9 I I I I,dc,aM rfl,show(2+(N:Int)).toNat=2+N by omega]
 ·rw[La I hs0 I I I,dc,bZ dO]
theorem ZN{sz a:Int}{w:Bool}{N F afU:Nat}{mz:eL}(hl:ZL mz.ck mz.dU mz.kB)(hF:mz.ck=F)(hN1:1<=N)(hN:N<=64)(hW:(afU:Int)=4+mz.dU)(hs:sz<=1000000000)(hs0:0<=sz)(hK:5000<K){O:af}(hp:O.dw=[]) :
 (((4+10*F+N+N*afU:Nat):Int)<=sz->∃c,oW K O (ar sz [] [] a w) (N:Int) mz=some (0,⟨O.code,0,1,F,2+10*(F:Int),N,VN (4+10*F+N) afU mz.kB 0 N,O.aJ,O.aj,O.value,O.left⟩,ar sz c (yg w [] (uq a N F mz.dU)) a w)/\qQ sz (uq a N F mz.dU)=uq a N F mz.dU/\Iq N F afU mz.dU c)/\
 (¬((4+10*F+N+N*afU:Nat):Int)<=sz->∃X c,oW K O (ar sz [] [] a w) (N:Int) mz=some (22,X,ar sz c (yg w [] (qQ sz (uq a N F mz.dU))) a w)):=by
 have f1:=hl.f1;have f2:=hl.f2;have h1:=hl.a1;have h2:=hl.a2;have h3:=hl.m2;have hNW:N*afU<=64*4100:=Nat.mul_le_mul hN I;unfold oW;rw[hF];by_cases s1:¬(1:Int)<=sz
 ·rw[La (c:=[]) I hs0 (by simp) I (by show ¬((0:Nat):Int)+1<=sz;omega),dc,bZ dO];refine⟨λh=>by exfalso;omega,λ_ => ?_⟩;have:yg w [] (qQ sz (uq a N F mz.dU))=[]:=by
   rw[uq,ua,ua,qQ,aM ⟨rfl,by show(0:Int)+1>sz;omega⟩,K7]
  rw[this];exact⟨_,[],rfl⟩
 have s1:=Decidable.not_not.1 s1;rw[K9 (c:=[]) (by simp) I I (by show((0:Nat):Int)+1<=sz;omega),dc,aM rfl];have k0:=yX w [] [(⟨a,4,(([]:List Int).length:Nat),1,0,true⟩:bl)];simp only[G9,xL]at k0;obtain⟨fr1,fr2⟩:=OV (K:=K) (sz:=sz) (a:=a) (w:=w) (F:=F) I I hs hs0 hK (l:=yg w [] [(⟨a,4,(([]:List Int).length:Nat),1,0,true⟩:bl)]) (by simp only[xL];omega);have YB:qQ sz (uq a N F mz.dU)=⟨a,4,0,1,0,true⟩::qQ sz (⟨a,4,1,1+10*(F:Int),0,true⟩::Lb a 0 F++(⟨a,4,2+10*(F:Int),2+(N:Int),0,true⟩::GQ a mz.dU (4+10*F+N:Nat) N++[⟨a,3,1,1,1,true⟩])):=by
  rw[uq,ua,ua,qQ,bZ (λh=>absurd h.2 (by show ¬(0:Int)+1>sz;omega))];rfl
 have e0:ar sz ([]++List.replicate (1:Int).toNat 0) (yg w [] [(⟨a,4,(([]:List Int).length:Nat),1,0,true⟩:bl)]) a w=ar sz [0] (yg w [] [(⟨a,4,(([]:List Int).length:Nat),1,0,true⟩:bl)]) a w:=rfl;rw[e0];by_cases s2:¬(2+10*F:Int)<=sz
 ·rw[fr2 s2,dc,bZ dO];refine⟨λh=>by exfalso;omega,λ_ => ?_⟩;rw[YB,ua,qQ,aM ⟨rfl,by show(1:Int)+(1+10*(F:Int))>sz;omega⟩];exact⟨_,_,rfl⟩
 have s2:=Decidable.not_not.1 s2;obtain⟨c1,q1,q2,q3,q4⟩:=fr1 s2;rw[q1,dc,aM rfl];have NZ:qQ sz (uq a N F mz.dU)=⟨a,4,0,1,0,true⟩::⟨a,4,1,1+10*(F:Int),0,true⟩::(Lb a 0 F++qQ sz (⟨a,4,2+10*(F:Int),2+(N:Int),0,true⟩::GQ a mz.dU (4+10*F+N:Nat) N++[⟨a,3,1,1,1,true⟩])):=by
  rw[YB,ua,qQ,bZ (λh=>absurd h.2 (by show ¬(1:Int)+(1+10*(F:Int))>sz;omega)),F1 _ _ (Nk F 0)]
 have kf:(⟨a,4,1,1+10*(F:Int),0,true⟩::Lb a 0 F:List bl).length=F+1:=by rw[Bj,Qx]
 have k1:=yX w (yg w [] [(⟨a,4,(([]:List Int).length:Nat),1,0,true⟩:bl)]) (⟨a,4,1,1+10*(F:Int),0,true⟩::Lb a 0 F);rw[kf]at k1;obtain⟨pk1,pk2⟩:=Um (sz:=sz) (a:=a) (w:=w) (N:=N) hN1 hN hs hs0 (c:=c1) I (l:=yg w (yg w [] [(⟨a,4,(([]:List Int).length:Nat),1,0,true⟩:bl)]) (⟨a,4,1,1+10*(F:Int),0,true⟩::Lb a 0 F)) (by simp only[xL];simp only[xL]at k1;omega);by_cases s3:¬(c1.length+2+N:Int)<=sz
 ·rw[pk2 s3,dc,bZ dO];refine⟨λh=>by exfalso;omega,λ_ => ?_⟩;rw[NZ,ua,qQ,aM ⟨rfl,by show 2+10*(F:Int)+(2+(N:Int))>sz;omega⟩,G7];rw[Bg];exact⟨_,c1,rfl⟩
 have s3:=Decidable.not_not.1 s3;rw[pk1 s3,dc,aM rfl,hp,Bg,Bg];have VO:(c1++List.replicate (2+N) 0).length=4+10*F+N:=by rw[kQ,nX];omega
 have kl:∀X:List bl,X.length<=100000->(yg w [] X).length<=100000:=λX hX=>Bi (yX w [] X) (by simpa using hX);obtain⟨d1,d2⟩:=ab2 (K:=K) hl hs hs0 hN (B:=4+10*F+N) I hW (O:=O) (jc:=((([]:List Int).length:Nat):Int)) (rB:=⟨1,F⟩) (r32:=⟨(c1.length:Nat),N⟩) (a:=a) (w:=w) N K 0 (c1++List.replicate (2+N) 0)
  (yg w [] ([(⟨a,4,(([]:List Int).length:Nat),1,0,true⟩:bl)]++(⟨a,4,1,1+10*(F:Int),0,true⟩::Lb a 0 F++[⟨a,4,(c1.length:Nat),2+(N:Int),0,true⟩]))) [] I I (by rw[VO];omega) rfl (by
   have:=kl ([(⟨a,4,(([]:List Int).length:Nat),1,0,true⟩:bl)]++(⟨a,4,1,1+10*(F:Int),0,true⟩::Lb a 0 F++[⟨a,4,(c1.length:Nat),2+(N:Int),0,true⟩])) (by rw[kQ,kQ,kf];simp;omega);omega)
 rw[VO]at d1 d2;rw[rj]at d1 d2;have hc3:qQ sz (uq a N F mz.dU)=⟨a,4,0,1,0,true⟩::⟨a,4,1,1+10*(F:Int),0,true⟩::(Lb a 0 F++(⟨a,4,2+10*(F:Int),2+(N:Int),0,true⟩::qQ sz (GQ a mz.dU (4+10*F+N:Nat) N++[⟨a,3,1,1,1,true⟩]))):=by
  rw[NZ,ua,qQ,bZ (λh=>absurd h.2 (by show ¬2+10*(F:Int)+(2+(N:Int))>sz;omega))]
 by_cases s4:¬((4+10*F+N+N*afU:Nat):Int)<=sz
 ·refine⟨λh=>absurd h s4,λ_ => ?_⟩;obtain⟨X,c',⟨r1,r2⟩ | r1⟩:=d2 s4
  ·rw[r1,V2,Bg,hc3,r2];refine⟨X,c',?_⟩
   congr 5
   rw[q2];simp only[ua,CF,s5,xL];rw[show((2+10*F:Nat):Int)=2+10*(F:Int) by omega];rfl
  ·exfalso;omega
 have s4:=Decidable.not_not.1 s4;refine⟨λ_ => ?_,λh=>absurd s4 h⟩;obtain⟨c',r1,r0,r2,r3,r4⟩:=d1 s4;have b0:J c' 1=0:=by
  rw[r3 1 I,s7 I,q4 1 I (λf _=>I)]
 have kk:∀X:List bl,X.length<=100000->(yg w [] X).length<=100000:=λX hX=>Bi (yX w [] X) (by simpa using hX);have kd:=Qy (a:=a) (first:=mz.dU) N (4+10*F+N:Nat);have ea:∀l:List bl,l.length<=100000->(eA (nO (⟨1,F⟩:bj)) λr75=>tL (cT (ar sz c' l a w) r75) λSr VF=>tL (jd Sr) λSs r85=>some (Ss,VF))=some (4,ar sz (c'.set 1 1) (yg w l [⟨a,3,1,1,1,true⟩]) a w):=λl hl=>by
  unfold nO kU qw;simp only[aM (show(1:Int)>=0 by decide),aM (show(F:Int)>=1 by omega),aM (show(F:Int)<=4096 by omega),aM (show(0:Int)>=0 by decide),tJ (show(0:Int)<F by omega),aq,if_true,bZ (show ¬(0:Int)<0 by decide),bZ (show ¬(0:Int)>=8 by decide)];unfold cT jN pE
  dsimp only
  rw[bZ dO,aM rfl,aq,ZK I dO I,dc,aM rfl];rw[show(1:Int).toNat=1 from rfl,b0,show wi ((0:Int)+1)=1 from rfl,aM dO,tJ (show(1:Int)<=(F:Int) by omega),aq,aM rfl]
  rfl
 have ea2:∀(l:List bl),l.length<=100000->∀(f:Int->ag->Option (Int×af×ag)),(eA (nO (⟨1,F⟩:bj)) λr75=>tL (cT (ar sz c' l a w) r75) λSr VF=>tL (jd Sr) λSs r85=>f Ss VF)=f 4 (ar sz (c'.set 1 1) (yg w l [⟨a,3,1,1,1,true⟩]) a w):=λl hl f=>by
  have h:=ea l hl;cases e1:nO (⟨1,F⟩:bj)with
  | none=>rw[e1]at h;simp[eA]at h
  | some x =>
   rw[e1,aq]at h;rw[aq];cases e2:cT (ar sz c' l a w) x with
   | none=>rw[e2]at h;simp[tL]at h
   | some y =>
    obtain⟨y1,y2⟩:=y;rw[e2,eF]at h;rw[eF];cases e3:jd y1 with
    | none=>rw[e3]at h;simp[tL]at h
    | some u =>
     obtain⟨u1,u2⟩:=u;rw[e3,eF]at h;rw[eF];have:=Prod.mk.inj (Option.some.inj h);rw[this.1,this.2]
 have hlen:∀X:List bl,X.length<=100000->(yg w (yg w [] X) (GQ a mz.dU (4+10*F+N:Nat) N)).length<=200000:=λX hX=>by
  have:=yX w (yg w [] X) (GQ a mz.dU (4+10*F+N:Nat) N);have:=kk X hX;omega
 rw[r1,V1,Bg,ea2 _ (kk _ (by rw[kQ,kQ,kQ,kf,kd];simp;omega)) (λSs VF=>if Ss=4 then some (0,_,VF)else some (22,_,VF)),aM rfl];have aeu:qQ sz (uq a N F mz.dU)=uq a N F mz.dU:=by
  rw[hc3];rw[Nj _ _ r0,show qQ sz [(⟨a,3,1,1,1,true⟩:bl)]=[⟨a,3,1,1,1,true⟩] by rw[qQ,bZ (λh=>absurd h.1 (by show ¬(3:Int)=4;decide)),qQ],uq];simp only[ua,CF,s5]
 refine⟨c'.set 1 1,?_,aeu,?_⟩
 ·rw[Bg,q2];refine nu some (BJ rfl (BJ ?_ ?_))
  ·simp only[CF,xL];rw[show((2+10*F:Nat):Int)=2+10*(F:Int) by omega];rfl
  ·have:(([(⟨a,4,(([]:List Int).length:Nat),1,0,true⟩:bl)]++(⟨a,4,1,1+10*(F:Int),0,true⟩::Lb a 0 F++[⟨a,4,((2+10*F:Nat):Int),2+(N:Int),0,true⟩]))++GQ a mz.dU (4+10*F+N:Nat) N)++[⟨a,3,1,1,1,true⟩]=uq a N F mz.dU:=by
    rw[uq,show((2+10*F:Nat):Int)=2+10*(F:Int) by omega];simp only[ua,CF,s5,xL];rfl
   rw[this]
 ·have F7:(c'.set 1 (1:Int)).length=c'.length:=gV;refine⟨by rw[F7,r2],?_,?_,λf hf r hr => ?_,λr hr => ?_,λi hi r hr => ?_⟩
  ·rw[Cm I,bZ dO,r3 0 I,s7 I,q4 0 I (λf _=>I)]
  ·rw[Cm I,aM rfl]
  ·rw[Cm I,eu,r3 _ I,s7 I];by_cases e:r=0
   ·subst e;rw[aM rfl];exact q3 f hf
   ·rw[bZ e,q4 _ I (λg _=>I)]
  ·rw[Cm I,eu,r3 _ I,wT I,ED I]
  ·have:=rQ afU (show i+1<=N by omega);rw[FW]at this;rw[Cm I,eu];exact r4 i (xM _) hi r hr
end
section
variable {K:Nat}
theorem WR{α:Type}[Inhabited α]{l:List α}{i:Nat}(h:i<l.length):l.drop i=J l i::l.drop (i+1):=by
 rw[PS h];unfold J;rw[List.getD_eq_getElem?_getD,List.getElem?_eq_getElem h];rfl
theorem Un{p:aH}(hv:Valid p):∀(d k i:Nat) (l:List aD),i+d=p.ah.length->d<k->l.length=i->iz K p k l (i:Int)=some (l++p.ah.drop i)
 | d,k,i,l,hd,hk,hl=>by
  obtain⟨k,rfl⟩ :∃m,k=m+1:=⟨k-1,I⟩;have:=hv.n32;rw[iz];by_cases hi:i<p.ah.length
  ·obtain⟨d,rfl⟩ :∃m,d=m+1:=⟨d-1,I⟩;have:=(hv.GO i hi).Jc;rw[sR,aM ⟨I,I⟩,cL,aM (by simp;omega),sR,D5 I,CF,Un hv d k (i+1) _ I I (by simp[hl]),WR hi,s5];rfl
  ·rw[eu,G0 I,G7]
def aev:bV:=⟨0,0,0,0,0,0,0,0,0,0,0,0,0,false,0,0⟩
def aew:bL:=⟨0,0,0,0,0,0,0,0,0⟩
def aex:bQ:=⟨0,0,0,0,0,0,0,0,0,List.replicate 64 ⟨0,0⟩,⟨0,0,0,0,0,0,0,0,0,0,0,0,0,false,0,0⟩⟩
def OW(i:Int):bE:=⟨i,9,-1,0,0,0,0,0,aev,aew,aex,false⟩
def yY(i:Nat):Nat->List bE
 | 0=>[]
 | d+1=>OW i::yY (i+1) d
theorem AA:∀(d i:Nat),(yY i d).length=d
 | 0,i=>rfl
 | d+1,i=>by rw[yY,Bj,AA d (i+1)]
theorem FF:∀(d i j:Nat),j<d->J (yY i d) j=OW ((i+j:Nat):Int)
 | d+1,i,0,_=>rfl
 | d+1,i,j+1,h=>by
  have:=FF d (i+1) j I;rw[show i+1+j=i+(j+1) by omega]at this;exact this
theorem Nl{N:Nat}(hN:N<=64):∀(d k i:Nat) (l:List bE),i+d=N->d<k->l.length=i->iA K (N:Int) k l (i:Int)=some (l++yY i d)
 | d,k,i,l,hd,hk,hl=>by
  obtain⟨k,rfl⟩ :∃m,k=m+1:=⟨k-1,I⟩;rw[iA];by_cases hi:i<N
  ·obtain⟨d,rfl⟩ :∃m,d=m+1:=⟨d-1,I⟩;rw[sR,sR,D5 I,Nl hN d k (i+1) _ I I (by simp[hl]),yY,s5];rfl
  ·rw[eu];obtain rfl:d=0:=by omega
   rw[yY,G7]
def Uo:aU:=⟨0,0,0,0,0,0,List.replicate 16 0⟩
def ab3(p:aH)(args:List Int)(N F afU:Nat)(most:Int):af:=
 { code:=p.ah,result:=0,dx:=1,cJ:=F,fo:=2+10*(F:Int),cH:=N,dw:=VN (4+10*F+N) afU most 0 N,
   aJ:=(List.replicate F Uo).set 0 ⟨0,0,-1,0,0,1,Ej 16 args (List.replicate 16 0)⟩,
   aj:=(yY 0 N).set 0 {OW 0 with ax:=0,from_:=-1,aK:=0},value:=0,left:=false}
theorem OX{α:Type}{l:List α}{i:Nat}{x y:α}:(l.set i x).set i y=l.set i y:=by rw[iP]
theorem ZO{sz a:Int}{w:Bool}{p:aH}{args:List Int}{N F afU:Nat}{mz:eL}(hv:Valid p)(ha:(args.length:Int)=(J p.ah 0).aS)(hl:ZL mz.ck mz.dU mz.kB)(hF:mz.ck=F)(hN1:1<=N)(hN:N<=64)(hW:(afU:Int)=4+mz.dU)(hs:sz<=1000000000)(hs0:0<=sz)(hK:5000<K)(hr:qP K p args (N:Int) mz=some 0) :
 (((4+10*F+N+N*afU:Nat):Int)<=sz->∃c,jz K (ar sz [] [] a w) p args (N:Int) mz=some (some (ab3 p args N F afU mz.kB),0,ar sz c (yg w [] (uq a N F mz.dU)) a w)/\qQ sz (uq a N F mz.dU)=uq a N F mz.dU/\Iq N F afU mz.dU c)/\
 (¬((4+10*F+N+N*afU:Nat):Int)<=sz->∃c,jz K (ar sz [] [] a w) p args (N:Int) mz=some (none,22,ar sz c (yg w [] (qQ sz (uq a N F mz.dU))) a w)):=by
 have f1:=hl.f1;have f2:=hl.f2;have hp8:=(hv.GO 0 (by have:=hv.n1;omega)).p8;have Yh:=Un (K:=K) hv p.ah.length K 0 [] I (by have:=hv.n32;omega) rfl;rw[rj,CF,pW]at Yh;unfold jz;rw[hr,aq,aM rfl,aM ⟨I,I⟩,Yh,aq];obtain⟨l1,l2⟩:=ZN (K:=K) (a:=a) (w:=w) hl hF hN1 hN hW hs hs0 hK (O:=(⟨p.ah,0,0,0,0,0,([]:List cw),List.replicate mz.ck.toNat (⟨0,0,0,0,0,0,List.replicate 16 (0:Int)⟩:aU),([]:List bE),0,false⟩:af)) rfl;refine⟨λhf => ?_,λhf => ?_⟩
 ·obtain⟨c,e1,e2,e3⟩:=l1 hf;have hFt:mz.ck.toNat=F:=by omega
  have hact:=Nl (K:=K) hN N K 0 [] I I rfl;rw[rj,CF]at hact;refine⟨c,?_,e2,e3⟩;rw[e1,dc,aM rfl]
  dsimp only
  rw[hFt,aM ⟨dO,by rw[nX];omega⟩,aM ⟨dO,by rw[gV,nX];omega⟩,sR,hact,aq,aM ⟨dO,by rw[AA];omega⟩];rw[OX,OX,OX,FF N 0 0 I]
  rfl
 ·obtain⟨X,c,e1⟩:=l2 hf;rw[e1,dc,bZ dO];exact⟨c,rfl⟩
theorem ZP{S:ag}{p:aH}{args:List Int}{n:Int}{mz:eL}{e:Int}(hr:qP K p args n mz=some e)(he:e≠0):jz K S p args n mz=some (none,e,S):=by
 unfold jz;rw[hr,aq,bZ he]
end
end Mo
end
section
namespace Am
def bJ{α β:Type}[DecidableEq α](f:α->β)(a:α)(v:β):α->β:=λx=>if x=a then v else f x
@[simp] theorem aF{α β:Type}[DecidableEq α](f:α->β)(a:α)(v:β):bJ f a v a=v:=by simp[bJ]
theorem aA{α β:Type}[DecidableEq α]{f:α->β}{a x:α}{v:β}(h:x≠a):bJ f a v x=f x:=by simp[bJ,h]
theorem cA{α β:Type}[DecidableEq α](f:α->β)(a x:α)(v:β):bJ f a v x=if x=a then v else f x:=rfl
inductive ZQ
 | const (a:Nat) (k:Int) | move (a b:Nat) | arith (op:Int) (a b c:Nat) | jump (a:Nat) | branch (a b:Nat)
 | spawn (s f c:Nat) | sync | load (a s:Nat) | k8 (a:Nat) | ret (a:Nat)
deriving DecidableEq,Inhabited
structure jt where
 N:Nat
 F:Nat
 first:Nat
 most:Nat
 QA:Nat
 len:Nat->Nat
 params:Nat->Nat
 bw:Nat->Nat
 code:Nat->Nat->ZQ
 ap:Int->Int->Int->Int
 pd:Int->Nat->Int
inductive tF
 | result | next | join (f:Nat) | mark (f:Nat) | slot (f s:Nat) | tW | E5 | flag (i:Nat)
 | top (i:Nat) | bot (i:Nat) | buf (i:Nat) | cap (i g:Nat) | el (i g n:Nat)
deriving DecidableEq
structure Fr where
 fn:Nat
 J:Nat
 par:Nat
 slot:Nat
 bt:Nat
 k8:Int
 bw:Nat->Int
structure Ev where
 kind:Nat
 ax:Int
 x:Int
 v:Int
structure Acc where
 kind:Nat
 a:tF
 x:Int
 y:Int
 ok:Bool
inductive Pc
 | halted | full | start (x:Int) | run | fork (c:Nat) | nP | out (p c:Nat) | take (p c:Nat)
 | done | tell (j:Nat) | xA (j:Nat)
 | zP (c:Nat) | yc (c:Nat) (b:Int) | q9 (c:Nat) (b t:Int) | rf (c:Nat) (b t:Int)
 | grow (c:Nat) (b t cc:Int) | mS (c:Nat) (b t cc:Int) | kP (c:Nat) (b t cc n:Int)
 | j8 (c:Nat) (b t cc n x:Int) | mT (c:Nat) (b t cc:Int) | jV (c:Nat) (b cc:Int) | n7 (c:Nat) (b:Int)
 | DQ | sW (j:Nat) | vm (j:Nat)
 | Bw | wV (b:Int) | rJ (b:Int) | AB (b:Int) | pM (t:Int) | tP (b t:Int)
 | pS (b t cc:Int) | sP (b t x:Int) | qa (t x:Int) (Al:Bool)
 | jQ | vU (v:Nat) (t:Int) | rK (v:Nat) (t:Int) | qB (v:Nat) (t:Int) (g:Nat)
 | n8 (v:Nat) (t:Int) (g:Nat) (cc:Int) | ny (v:Nat) (t x:Int)
 | EL | flag | sleep | vn | Dp (j:Nat) | Dq (j:Nat) (t:Int) | parked | back (h:Bool) | v8 (h:Bool)
deriving DecidableEq
inductive Loc
 | free | bW (i:Nat) | Lc (i:Nat) | pop (i:Nat) | held (i:Nat) | uz (i:Nat) | waiting | sQ (i:Nat) | fin (i:Nat) | gone
deriving DecidableEq
structure St where
 mem:tF->Int
 pc:Nat->Pc
 hold:Nat->Option Nat
 fW:Nat->Nat
 fr:Nat->Fr
 nf:Nat
 cur:Nat->Nat
 base:Nat->Nat->Int
 size:Int
 val:Option Int
 Ld:Bool
 loc:Nat->Loc
 q:Nat->List Nat
 pop:Nat->Option Nat
 bt:Nat->List Nat
structure Out where
 s:St
 ev:Option Ev
 acc:Option Acc
def ix(n c:Int):Nat:=(n%c).toNat
def iY(C:jt)(cc:Int):Int:=if 2*cc<=C.most then 2*cc else C.most
def Gw(C:jt)(i:Nat):Nat:=(i+1)%C.N
namespace St
def wr(s:St)(a:tF)(v:Int):St:={s with mem:=bJ s.mem a v}
def to(s:St)(i:Nat)(p:Pc):St:={s with pc:=bJ s.pc i p}
def holds(s:St)(i:Nat)(f:Option Nat):St:={s with hold:=bJ s.hold i f}
def put(s:St)(f:Nat)(l:Loc):St:={s with loc:=bJ s.loc f l}
def tQ(s:St)(i n:Nat):St:={s with fW:=bJ s.fW i n}
def lay(s:St)(f:Nat)(x:Fr):St:={s with fr:=bJ s.fr f x}
def rY(s:St)(j:Nat)(l:List Nat):St:={s with q:=bJ s.q j l}
def nH(s:St)(i:Nat)(x:Option Nat):St:={s with pop:=bJ s.pop i x}
def Gx(s:St)(f:Nat)(l:List Nat):St:={s with bt:=bJ s.bt f l}
end St
def qX(a:tF)(v:Int):Option Acc:=some ⟨0,a,v,0,true⟩
def tR(a:tF)(v:Int):Option Acc:=some ⟨1,a,v,0,true⟩
def JC(a:tF)(o n:Int)(ok:Bool):Option Acc:=some ⟨2,a,o,n,ok⟩
def CY(a:tF)(d v:Int):Option Acc:=some ⟨3,a,d,v,true⟩
def ZR(a:tF)(n:Int):Option Acc:=some ⟨4,a,n,0,true⟩
def ev(k:Nat)(f x v:Int):Option Ev:=some ⟨k,f,x,v⟩
def lU(s:St)(C:jt)(i j:Nat)(acc:Option Acc):Out:=
 if j=i then⟨s.to i .halted,ev 10 0 0 0,acc⟩else⟨s.to i (.tell j),none,acc⟩
def looking(s:St)(C:jt)(i j:Nat)(acc:Option Acc):Out:=
 if j=i then⟨s.to i .parked,ev 9 0 0 0,acc⟩else⟨s.to i (.Dp j),none,acc⟩
def yZ(s:St)(C:jt)(i:Nat):St:=s.to i (if C.N=1 then .flag else .jQ)
def yp(s:St)(C:jt)(i:Nat)(h:Bool)(acc:Option Acc):Out:=
 if h then⟨s.to i .halted,ev 10 0 0 0,acc⟩else⟨yZ (s.tQ i 0) C i,none,acc⟩
def got(s:St)(i:Nat)(x:Int)(v:Int):St:=
 ((s.holds i (some x.toNat)).to i (.start v)).put x.toNat (.held i)
def kD(C:jt)(p:Fr)(f:Nat)(sl g c:Nat):Fr:=
 { fn:=g,J:=0,par:=f,slot:=sl,bt:=0,k8:=C.pd p.k8 p.bt,bw:=λr=>if r<C.params g then p.bw (c+r)else 0}
def instr(C:jt)(s:St)(i:Nat):Out:=
 let f:=(s.hold i).getD 0
 let x:=s.fr f
 let y:Fr:={x with J:=x.J+1}
 match C.code x.fn x.J with
 | .const a k=>⟨s.lay f {y with bw:=bJ x.bw a k},none,none⟩
 | .move a b=>⟨s.lay f {y with bw:=bJ x.bw a (x.bw b)},none,none⟩
 | .arith op a b c=>⟨s.lay f {y with bw:=bJ x.bw a (C.ap op (x.bw b) (x.bw c))},none,none⟩
 | .jump a=>⟨s.lay f {y with J:=a},none,none⟩
 | .branch a b=>⟨s.lay f (if x.bw a≠0 then {y with J:=b}else y),none,none⟩
 | .k8 a=>⟨s.lay f {y with bw:=bJ x.bw a x.k8},none,none⟩
 | .load a sl=>⟨s.lay f {y with bw:=bJ x.bw a (s.mem (.slot f sl))},none,qX (.slot f sl) (s.mem (.slot f sl))⟩
 | .spawn sl g c =>
  let n:=s.mem .next+1
  let s:=(s.wr .next n).lay f y
  if (C.F:Int)<=n-1 then⟨{s with Ld:=true}.to i .full,ev 11 (-1) 0 0,CY .next 1 n⟩
  else ⟨{((s.lay f {y with bt:=x.bt+1}).lay s.nf (kD C x f sl g c))with nf:=s.nf+1}.put s.nf (.bW i) |>.to i (.fork s.nf),none,CY .next 1 n⟩
 | .sync =>
  let n:=s.mem (.join f)-1
  let s:=(s.wr (.join f) n).lay f y
  if 0<n then⟨((s.holds i none).to i .Bw).put f .waiting,ev 4 f 0 0,CY (.join f) (-1) n⟩
  else ⟨(s.to i .nP).put f (.uz i),none,CY (.join f) (-1) n⟩
 | .ret a =>
  let v:=x.bw a
  let s:=s.lay f y
  if f=0 then⟨{(((s.wr .result v).holds i none).to i .done).put 0 (.fin i)with val:=some v},ev 6 0 (-1) v,tR .result v⟩
  else ⟨(((s.wr (.slot x.par x.slot) v).holds i none).to i (.out x.par f)).put f (.fin i),ev 6 f x.par v,tR (.slot x.par x.slot) v⟩
def aC(C:jt)(s:St)(i:Nat)(d:Int):Out:=
 let f:=(s.hold i).getD 0
 match s.pc i with
 | .halted | .full=>⟨s,none,none⟩
 | .start x=>let v:=s.mem (.mark f)+1;⟨(s.wr (.mark f) v).to i .run,ev 1 f x v,CY (.mark f) 1 v⟩
 | .run=>instr C s i
 | .fork c=>let v:=s.mem (.join f)+1;⟨((s.wr (.join f) v).Gx f (c::s.bt f)).to i (.zP c),none,CY (.join f) 1 v⟩
 | .nP=>⟨((s.wr (.join f) 1).to i .run).put f (.held i),ev 5 f 0 0,tR (.join f) 1⟩
 | .out p c =>
  let n:=s.mem (.join p)-1
  let s:=((s.wr (.join p) n).Gx p ((s.bt p).erase c)).put c .gone
  if n=0 then⟨(s.to i (.take p c)).put p (.sQ i),none,CY (.join p) (-1) n⟩else⟨s.to i .Bw,none,CY (.join p) (-1) n⟩
 | .take p c=>⟨(((s.wr (.join p) 1).holds i (some p)).to i .run).put p (.held i),ev 7 p c 0,tR (.join p) 1⟩
 | .done=>lU (s.wr .E5 1) C i (Gw C i) (tR .E5 1)
 | .tell j=>if s.mem (.flag j)=1 then⟨(s.wr (.flag j) 0).to i (.xA j),none,JC (.flag j) 1 0 true⟩
  else lU s C i (Gw C j) (JC (.flag j) 1 0 false)
 | .xA j=>let v:=s.mem .tW-1;lU (s.wr .tW v) C i (Gw C j) (CY .tW (-1) v)
 | .zP c=>⟨s.to i (.yc c (s.mem (.bot i))),none,qX (.bot i) (s.mem (.bot i))⟩
 | .yc c b=>⟨s.to i (.q9 c b (s.mem (.top i))),none,qX (.top i) (s.mem (.top i))⟩
 | .q9 c b t=>⟨s.to i (.rf c b t),none,qX (.buf i) (s.mem (.buf i))⟩
 | .rf c b t =>
  let cc:=s.mem (.cap i (s.cur i))
  let a:=qX (.cap i (s.cur i)) cc
  if b-t<cc then⟨s.to i (.jV c b cc),none,a⟩
  else if(C.most:Int)<=cc then⟨{s with Ld:=true}.to i .full,ev 11 c 1 0,a⟩
  else ⟨s.to i (.grow c b t cc),none,a⟩
 | .grow c b t cc =>
  let g:=s.cur i+1
  ⟨{s with base:=bJ s.base i (bJ (s.base i) g s.size),size:=s.size+1+iY C cc,
            mem:=λa=>match a with | .cap i' g'=>if i'=i/\g'=g then 0 else s.mem a | .el i' g' _=>if i'=i/\g'=g then 0 else s.mem a | _=>s.mem a}.to i (.mS c b t cc),
   none,ZR (.cap i g) (1+iY C cc)⟩
 | .mS c b t cc=>⟨(s.wr (.cap i (s.cur i+1)) (iY C cc)).to i (.kP c b t cc t),none,tR (.cap i (s.cur i+1)) (iY C cc)⟩
 | .kP c b t cc n=>let x:=s.mem (.el i (s.cur i) (ix n cc));⟨s.to i (.j8 c b t cc n x),none,qX (.el i (s.cur i) (ix n cc)) x⟩
 | .j8 c b t cc n x =>
  ⟨(s.wr (.el i (s.cur i+1) (ix n (iY C cc))) x).to i (if n+1<b then .kP c b t cc (n+1)else .mT c b t cc),none,tR (.el i (s.cur i+1) (ix n (iY C cc))) x⟩
 | .mT c b t cc =>
  let a:=s.base i (s.cur i+1)
  ⟨{s.wr (.buf i) a with cur:=bJ s.cur i (s.cur i+1)}.to i (.jV c b (iY C cc)),none,tR (.buf i) a⟩
 | .jV c b cc=>⟨(s.wr (.el i (s.cur i) (ix b cc)) c).to i (.n7 c b),none,tR (.el i (s.cur i) (ix b cc)) c⟩
 | .n7 c b=>⟨(((s.wr (.bot i) (b+1)).rY i (s.q i++[c])).put c (.Lc i)).to i .DQ,ev 2 c f (s.fr c).k8,tR (.bot i) (b+1)⟩
 | .DQ=>let n:=s.mem .tW;⟨s.to i (if 0<n/\1<C.N then .sW (Gw C i)else .run),none,qX .tW n⟩
 | .sW j =>
  if s.mem (.flag j)=1 then⟨(s.wr (.flag j) 0).to i (.vm j),none,JC (.flag j) 1 0 true⟩
  else ⟨s.to i (if Gw C j=i then .run else .sW (Gw C j)),none,JC (.flag j) 1 0 false⟩
 | .vm j=>let v:=s.mem .tW-1;⟨(s.wr .tW v).to i .run,ev 3 f j 0,CY .tW (-1) v⟩
 | .Bw=>⟨s.to i (.wV (s.mem (.bot i)-1)),none,qX (.bot i) (s.mem (.bot i))⟩
 | .wV b=>⟨s.to i (.rJ b),none,qX (.buf i) (s.mem (.buf i))⟩
 | .rJ b=>⟨(s.wr (.bot i) b).to i (.AB b),none,tR (.bot i) b⟩
 | .AB b =>
  let t:=s.mem (.top i)
  let a:=qX (.top i) t
  if t<b then
   let x:=(s.q i).getLastD 0
   ⟨(((s.to i (.tP b t)).rY i (s.q i).dropLast).put x (.pop i)).nH i (some x),none,a⟩
  else if t=b then⟨s.to i (.tP b t),none,a⟩else⟨s.to i (.pM t),none,a⟩
 | .pM t=>⟨yZ ((s.wr (.bot i) t).tQ i 0) C i,none,tR (.bot i) t⟩
 | .tP b t=>let cc:=s.mem (.cap i (s.cur i));⟨s.to i (.pS b t cc),none,qX (.cap i (s.cur i)) cc⟩
 | .pS b t cc =>
  let x:=s.mem (.el i (s.cur i) (ix b cc))
  let a:=qX (.el i (s.cur i) (ix b cc)) x
  if t<b then⟨(got s i x (-1)).nH i none,none,a⟩else⟨s.to i (.sP b t x),none,a⟩
 | .sP b t x =>
  if s.mem (.top i)=t then⟨((((s.wr (.top i) (t+1)).to i (.qa t x true)).rY i []).put x.toNat (.pop i)).nH i (some x.toNat),none,JC (.top i) t (t+1) true⟩
  else ⟨s.to i (.qa t x false),none,JC (.top i) t (t+1) false⟩
 | .qa t x Al =>
  let s:=(s.wr (.bot i) (t+1)).tQ i 0
  ⟨if Al then(got s i x (-1)).nH i none else yZ s C i,none,tR (.bot i) (t+1)⟩
 | .jQ =>
  let v:=((i+1+(d%((C.N:Int)-1)).toNat)%C.N)
  ⟨s.to i (.vU v (s.mem (.top v))),none,qX (.top v) (s.mem (.top v))⟩
 | .vU v t =>
  let b:=s.mem (.bot v)
  if b<=t then⟨(s.tQ i (s.fW i+1)).to i .EL,none,qX (.bot v) b⟩else⟨s.to i (.rK v t),none,qX (.bot v) b⟩
 | .rK v t=>⟨s.to i (.qB v t (s.cur v)),none,qX (.buf v) (s.mem (.buf v))⟩
 | .qB v t g=>let cc:=s.mem (.cap v g);⟨s.to i (.n8 v t g cc),none,qX (.cap v g) cc⟩
 | .n8 v t g cc=>let x:=s.mem (.el v g (ix t cc));⟨s.to i (.ny v t x),none,qX (.el v g (ix t cc)) x⟩
 | .ny v t x =>
  if s.mem (.top v)=t then⟨got ((s.wr (.top v) (t+1)).rY v (s.q v).tail) i x v,ev 8 x v 0,JC (.top v) t (t+1) true⟩
  else ⟨(s.tQ i (s.fW i+1)).to i .EL,none,JC (.top v) t (t+1) false⟩
 | .EL =>
  let d:=s.mem .E5
  if d=1 then⟨s.to i .halted,ev 10 0 0 0,qX .E5 d⟩
  else ⟨s.to i (if s.fW i<3 then .jQ else .flag),none,qX .E5 d⟩
 | .flag=>⟨(s.wr (.flag i) 1).to i .sleep,none,tR (.flag i) 1⟩
 | .sleep=>let v:=s.mem .tW+1;⟨(s.wr .tW v).to i .vn,none,CY .tW 1 v⟩
 | .vn=>let d:=s.mem .E5;if d=1 then⟨s.to i (.back true),none,qX .E5 d⟩else looking s C i (Gw C i) (qX .E5 d)
 | .Dp j=>⟨s.to i (.Dq j (s.mem (.top j))),none,qX (.top j) (s.mem (.top j))⟩
 | .Dq j t=>let b:=s.mem (.bot j);if t<b then⟨s.to i (.back false),none,qX (.bot j) b⟩else looking s C i (Gw C j) (qX (.bot j) b)
 | .parked=>let v:=s.mem (.flag i);if v=1 then⟨s,none,qX (.flag i) v⟩else⟨yZ (s.tQ i 0) C i,none,qX (.flag i) v⟩
 | .back h=>if s.mem (.flag i)=1 then⟨(s.wr (.flag i) 0).to i (.v8 h),none,JC (.flag i) 1 0 true⟩else yp s C i h (JC (.flag i) 1 0 false)
 | .v8 h=>let v:=s.mem .tW-1;yp (s.wr .tW v) C i h (CY .tW (-1) v)
theorem ZS{m n c:Int}(hc:0<c)(h:ix m c=ix n c)(h1:m-n<c)(h2:n-m<c):m=n:=by
 have a1:=BK m (b:=c) I;have a2:=BK n (b:=c) I;have b1:=C6 m hc;have b2:=C6 n hc;have h':m%c=n%c:=by unfold ix at h;omega
 have e1:=L5 m c;have e2:=L5 n c;have h3:m-n=c*(m/c-n/c):=by rw[Int.mul_sub];omega
 have:m/c-n/c=0:=by
  rcases Int.lt_trichotomy (m/c-n/c) 0 with h | h | h
  ·have:c*(m/c-n/c)<=c*(-1):=Int.mul_le_mul_of_nonneg_left I I;omega
  ·exact h
  ·have:c*1<=c*(m/c-n/c):=Int.mul_le_mul_of_nonneg_left I I;omega
 rw[this]at h3;omega
theorem Up{m n c:Int}(hc:0<c)(h1:m-n<c)(h2:n-m<c)(h:m≠n):ix m c≠ix n c:=λe=>h (ZS hc e h1 h2)
namespace St
abbrev T(s:St)(j:Nat):Int:=s.mem (.top j)
abbrev B(s:St)(j:Nat):Int:=s.mem (.bot j)
abbrev cc(s:St)(j:Nat):Int:=s.mem (.cap j (s.cur j))
abbrev L(s:St)(j:Nat):Int:=((s.q j).length:Int)
end St
def DR(C:jt)(s:St)(j:Nat)(b t cc:Int):Prop:=s.B j=b/\s.T j+s.L j=b/\s.L j<=s.cc j/\t<=s.T j/\cc=s.cc j/\b-t=cc/\cc<C.most
def Cn(C:jt)(s:St)(j:Nat)(n:Int):Prop:=
 s.mem (.cap j (s.cur j+1))=iY C (s.cc j)/\∀m,s.T j<=m->m<n->s.mem (.el j (s.cur j+1) (ix m (iY C (s.cc j))))=s.mem (.el j (s.cur j) (ix m (s.cc j)))
def xB(s:St)(j:Nat)(b t:Int):Prop:=
 s.B j=b/\t<=b/\0<=b/\(t<b->s.T j+s.L j=b/\s.L j+1<=s.cc j/\∃x:Nat,s.pop j=some x/\s.mem (.el j (s.cur j) (ix b (s.cc j)))=x)
  /\(t=b->s.T j+s.L j=b+1/\t<=s.T j/\s.L j<=s.cc j)
def pT(C:jt)(s:St)(j:Nat):Prop:=
 match s.pc j with
 | .yc c b=>s.B j=b/\s.T j+s.L j=b/\s.L j<=s.cc j
 | .q9 c b t=>s.B j=b/\s.T j+s.L j=b/\s.L j<=s.cc j/\t<=s.T j/\b-t<=s.cc j
 | .rf c b t=>s.B j=b/\s.T j+s.L j=b/\s.L j<=s.cc j/\t<=s.T j/\b-t<=s.cc j
 | .grow c b t cc=>DR C s j b t cc
 | .mS c b t cc=>DR C s j b t cc
 | .kP c b t cc n=>DR C s j b t cc/\Cn C s j n/\t<=n/\n<b
 | .j8 c b t cc n x=>DR C s j b t cc/\Cn C s j n/\t<=n/\n<b/\x=s.mem (.el j (s.cur j) (ix n (s.cc j)))
 | .mT c b t cc=>DR C s j b t cc/\Cn C s j b
 | .jV c b cc=>s.B j=b/\s.T j+s.L j=b/\s.L j+1<=s.cc j/\cc=s.cc j
 | .n7 c b=>s.B j=b/\s.T j+s.L j=b/\s.L j+1<=s.cc j/\s.mem (.el j (s.cur j) (ix b (s.cc j)))=c
 | .wV b=>s.B j=b+1/\s.T j+s.L j=b+1/\s.L j<=s.cc j
 | .rJ b=>s.B j=b+1/\s.T j+s.L j=b+1/\s.L j<=s.cc j
 | .AB b=>s.B j=b/\s.T j+s.L j=b+1/\s.L j<=s.cc j
 | .pM t=>s.T j=t/\s.L j=0/\s.B j=t-1
 | .tP b t=>xB s j b t
 | .pS b t cc=>xB s j b t/\cc=s.cc j
 | .sP b t x=>s.B j=b/\t=b/\s.T j+s.L j=b+1/\t<=s.T j/\(s.T j=t->s.q j=[x.toNat]/\0<=x)/\s.L j<=s.cc j
 | .qa t x Al=>s.B j=t/\s.T j=t+1/\s.L j=0/\(Al=true->s.pop j=some x.toNat/\0<=x)
 | _=>s.B j=s.T j+s.L j/\s.L j<=s.cc j
structure D(C:jt)(s:St)(j:Nat):Prop where
 t0:0<=s.T j
 AD:∀g,g<=s.cur j->1<=s.mem (.cap j g)
 Dr:s.cc j<=C.most
 FG:s.mem (.buf j)=s.base j (s.cur j)
 els:∀n,n<(s.q j).length->s.mem (.el j (s.cur j) (ix (s.T j+n) (s.cc j)))=(((s.q j).getD n 0:Nat):Int)
 ph:pT C s j
def Th(C:jt)(s:St)(i:Nat):Prop:=
 match s.pc i with
 | .jQ=>C.N≠1
 | .EL=>C.N≠1
 | .vU v t=>v<C.N/\v≠i/\t<=s.T v
 | .rK v t=>v<C.N/\v≠i/\t<=s.T v/\(t=s.T v->s.q v≠[])
 | .qB v t g=>v<C.N/\v≠i/\t<=s.T v/\g<=s.cur v/\(t=s.T v->∃x l,s.q v=x::l/\s.mem (.el v g (ix t (s.mem (.cap v g))))=(x:Nat))
 | .n8 v t g cc=>v<C.N/\v≠i/\t<=s.T v/\g<=s.cur v/\cc=s.mem (.cap v g)/\(t=s.T v->∃x l,s.q v=x::l/\s.mem (.el v g (ix t (s.mem (.cap v g))))=(x:Nat))
 | .ny v t x=>v<C.N/\v≠i/\t<=s.T v/\(t=s.T v->∃y l,s.q v=y::l/\x=(y:Nat))
 | _=>True
structure Co(s s':St)(j:Nat):Prop where
 top:s'.mem (.top j)=s.mem (.top j)
 bot:s'.mem (.bot j)=s.mem (.bot j)
 buf:s'.mem (.buf j)=s.mem (.buf j)
 cap:∀g,s'.mem (.cap j g)=s.mem (.cap j g)
 el:∀g n,s'.mem (.el j g n)=s.mem (.el j g n)
 cur:s'.cur j=s.cur j
 base:s'.base j=s.base j
 q:s'.q j=s.q j
 pop:s'.pop j=s.pop j
theorem D.same{C:jt}{s s':St}{j:Nat}(h:D C s j)(e:Co s s' j)(hp:pT C s' j):D C s' j:=by
 obtain⟨h1,h2,h3,h4,h5,h6⟩:=h;obtain⟨e1,e2,e3,e4,e5,e6,e7,e8,e9⟩:=e;refine⟨?_,?_,?_,?_,?_,hp⟩
 ·rw[St.T,e1];exact h1
 ·intro g hg;rw[e4];rw[e6]at hg;exact h2 g hg
 ·rw[St.cc,e6,e4];exact h3
 ·rw[e3,e7,e6];exact h4
 ·intro n hn;simp only[St.T,St.cc,e1,e4,e5,e6,e8];exact h5 n (by rw[e8]at hn;exact hn)
theorem pT.same{C:jt}{s s':St}{j:Nat}(h:pT C s j)(e:Co s s' j)(hp:s'.pc j=s.pc j):pT C s' j:=by
 obtain⟨e1,e2,e3,e4,e5,e6,e7,e8,e9⟩:=e;unfold pT at h⊢;simp only[hp,DR,Cn,xB,St.T,St.B,St.L,St.cc,e1,e2,e3,e4,e5,e6,e7,e8,e9]at h⊢;exact h
theorem D.Yi{C:jt}{s s':St}{j:Nat}(h:D C s j)(e:Co s s' j)(hp:s'.pc j=s.pc j):D C s' j:=h.same e (h.ph.same e hp)
structure Calm(s s':St)(v:Nat):Prop where
 top:s.T v<=s'.T v
 cur:s.cur v<=s'.cur v
 cap:∀g,g<=s.cur v->s'.mem (.cap v g)=s.mem (.cap v g)
 q:s.T v=s'.T v->∀x l,s.q v=x::l->(∃l',s'.q v=x::l')/\∀g,g<=s.cur v->s.mem (.el v g (ix (s.T v) (s.mem (.cap v g))))=(x:Nat)->s'.mem (.el v g (ix (s.T v) (s.mem (.cap v g))))=(x:Nat)
theorem Th.calm{C:jt}{s s':St}{i:Nat}(h:Th C s i)(e:∀v,v≠i->Calm s s' v)(hp:s'.pc i=s.pc i):Th C s' i:=by
 unfold Th at h⊢;rw[hp];split
 ·rename_i hh;rw[hh]at h;exact h
 ·rename_i hh;rw[hh]at h;exact h
 ·rename_i v t hh;rw[hh]at h;simp only at h;exact⟨h.1,h.2.1,Int.le_trans h.2.2 (e v h.2.1).top⟩
 ·rename_i v t hh;rw[hh]at h;simp only at h;have E:=e v h.2.1;refine⟨h.1,h.2.1,Int.le_trans h.2.2.1 E.top,λht => ?_⟩;have e1:t=s.T v:=Int.le_antisymm h.2.2.1 (ht▸ E.top);obtain⟨x,l,hq⟩:=List.exists_cons_of_ne_nil (h.2.2.2 e1);obtain⟨⟨l',h'⟩,_⟩:=E.q (e1.symm.trans ht) x l hq;rw[h'];exact List.cons_ne_nil _ _
 ·rename_i v t g hh;rw[hh]at h;simp only at h;have E:=e v h.2.1;obtain⟨h1,h2,h3,h4,h5⟩:=h;refine⟨h1,h2,Int.le_trans h3 E.top,Bi h4 E.cur,λht => ?_⟩;have e1:t=s.T v:=Int.le_antisymm h3 (ht▸ E.top);obtain⟨x,l,hq,hx⟩:=h5 e1;obtain⟨⟨l',h'⟩,h''⟩:=E.q (e1.symm.trans ht) x l hq;refine⟨x,l',h',?_⟩;rw[E.cap g h4,e1];exact h'' g h4 (by rw[<-e1];exact hx)
 ·rename_i v t g cc hh;rw[hh]at h;simp only at h;have E:=e v h.2.1;obtain⟨h1,h2,h3,h4,h0,h5⟩:=h;refine⟨h1,h2,Int.le_trans h3 E.top,Bi h4 E.cur,by rw[E.cap g h4];exact h0,λht => ?_⟩;have e1:t=s.T v:=Int.le_antisymm h3 (ht▸ E.top);obtain⟨x,l,hq,hx⟩:=h5 e1;obtain⟨⟨l',h'⟩,h''⟩:=E.q (e1.symm.trans ht) x l hq;refine⟨x,l',h',?_⟩;rw[E.cap g h4,e1];exact h'' g h4 (by rw[<-e1];exact hx)
 ·rename_i v t x hh;rw[hh]at h;simp only at h;have E:=e v h.2.1;obtain⟨h1,h2,h3,h5⟩:=h;refine⟨h1,h2,Int.le_trans h3 E.top,λht => ?_⟩;have e1:t=s.T v:=Int.le_antisymm h3 (ht▸ E.top);obtain⟨y,l,hq,hx⟩:=h5 e1;obtain⟨⟨l',h'⟩,h''⟩:=E.q (e1.symm.trans ht) y l hq;exact⟨y,l',h',hx⟩
 ·trivial
theorem Co.calm{s s':St}{v:Nat}(e:Co s s' v):Calm s s' v:=by
 obtain⟨e1,e2,e3,e4,e5,e6,e7,e8,e9⟩:=e;exact⟨by simp only[St.T,e1];exact xN _,by rw[e6];exact ja _,λg _=>e4 g,λ_ x l hq=>⟨⟨l,e8▸ hq⟩,λg _ h=>by rw[e5];exact h⟩⟩
def DT(C:jt)(s:St):Prop:=(∀j,j<C.N->D C s j)/\∀i,i<C.N->Th C s i
theorem DT.own{C:jt}{s s':St}{i:Nat}(h:DT C s)(hs:∀j,j≠i->Co s s' j)(hp:∀j,j≠i->s'.pc j=s.pc j)(hd:D C s' i)(hc:Calm s s' i)(ht:Th C s' i):DT C s':=by
 refine⟨λj hj => ?_,λk hk => ?_⟩
 ·by_cases e:j=i
  ·subst e;exact hd
  ·exact(h.1 j hj).Yi (hs j e) (hp j e)
 ·by_cases e:k=i
  ·subst e;exact ht
  ·exact(h.2 k hk).calm (λv hv=>by
    by_cases e':v=i
    ·subst e';exact hc
    ·exact(hs v e').calm) (hp k e)
def tF.own:tF->Option Nat
 | .top i | .bot i | .buf i | .cap i _ | .el i _ _=>some i
 | _=>none
theorem Co.of{s s':St}{j:Nat}(hm:∀a,a.own=some j->s'.mem a=s.mem a)(h1:s'.cur j=s.cur j)(h2:s'.base j=s.base j)(h3:s'.q j=s.q j)(h4:s'.pop j=s.pop j):Co s s' j:=
 ⟨hm _ rfl,hm _ rfl,hm _ rfl,λ_=>hm _ rfl,λ_ _=>hm _ rfl,h1,h2,h3,h4⟩
def Idle:Pc->Prop
 | .yc .. | .q9 .. | .rf .. | .grow .. | .mS .. | .kP .. | .j8 .. | .mT .. | .jV .. | .n7 ..
 | .wV .. | .rJ .. | .AB .. | .pM .. | .tP .. | .pS .. | .sP .. | .qa .. => False
 | _=>True
theorem pT.idle{C:jt}{s:St}{j:Nat}(hi:Idle (s.pc j)):pT C s j↔s.B j=s.T j+s.L j/\s.L j<=s.cc j:=by
 unfold pT;split<;>rename_i hh<;>first | (rw[hh]at hi;exact hi.elim) | exact Iff.rfl
theorem D.idle{C:jt}{s s':St}{j:Nat}(h:D C s j)(e:Co s s' j)(hi:Idle (s.pc j))(hi':Idle (s'.pc j)):D C s' j:=by
 refine h.same e ((pT.idle hi').2 ?_);have:=(pT.idle hi).1 h.ph;obtain⟨e1,e2,e3,e4,e5,e6,e7,e8,e9⟩:=e
 simpa only [St.T,St.B,St.L,St.cc,e1,e2,e4,e6,e8]using this
theorem DT.gL{C:jt}{s s':St}{i:Nat}(h:DT C s)(hi:i<C.N)(hm:∀a,a.own≠none->s'.mem a=s.mem a)(h1:s'.cur=s.cur)(h2:s'.base=s.base)(h3:s'.q=s.q)(h4:s'.pop=s.pop)
 (hp:∀j,j≠i->s'.pc j=s.pc j) (hid:Idle (s.pc i)) (ZT:Idle (s'.pc i)) (ht:Th C s' i):DT C s':=by
 have e:∀j,Co s s' j:=λj=>Co.of (λa ha=>hm a (by rw[ha];exact Option.some_ne_none _)) (by rw[h1]) (by rw[h2]) (by rw[h3]) (by rw[h4]);exact h.own (i:=i) (λj _=>e j) hp ((h.1 i hi).idle (e i) hid ZT) (e i).calm ht
theorem Th.plain{C:jt}{s:St}{i:Nat}(h:match s.pc i with | .jQ | .EL | .vU .. | .rK .. | .qB .. | .n8 .. | .ny .. => False | _=>True):Th C s i:=by
 unfold Th;split<;>rename_i hh<;>first | (rw[hh]at h;exact h.elim) | trivial
theorem DT.mine{C:jt}{s s':St}{i:Nat}(h:DT C s)(hi:i<C.N)(hm:∀a,a.own≠some i->s'.mem a=s.mem a)(h1:∀j,j≠i->s'.cur j=s.cur j)(h2:∀j,j≠i->s'.base j=s.base j)(h3:∀j,j≠i->s'.q j=s.q j)(h4:∀j,j≠i->s'.pop j=s.pop j)
 (hp:∀j,j≠i->s'.pc j=s.pc j) (hd:D C s' i) (hc:Calm s s' i) (ht:Th C s' i):DT C s':=
 h.own (i:=i) (λj hj=>Co.of (λa ha=>hm a (by rw[ha];intro e;exact hj (Option.some.inj e))) (h1 j hj) (h2 j hj) (h3 j hj) (h4 j hj)) hp hd hc ht
section
variable {C:jt}{s:St}{i:Nat}
theorem DT.reads{s':St}(h:DT C s)(hi:i<C.N)(hm:s'.mem=s.mem)(h1:s'.cur=s.cur)(h2:s'.base=s.base)(h3:s'.q=s.q)(h4:s'.pop=s.pop)
 (hp:∀j,j≠i->s'.pc j=s.pc j) (hd:pT C s' i) (ht:Th C s' i):DT C s':=by
 have e:∀j,Co s s' j:=λj=>Co.of (λa _=>by rw[hm]) (by rw[h1]) (by rw[h2]) (by rw[h3]) (by rw[h4]);exact h.own (i:=i) (λj _=>e j) hp ((h.1 i hi).same (e i) hd) (e i).calm ht
theorem pO{s:St}{i j:Nat}{p:Pc}(h:j≠i):(s.to i p).pc j=s.pc j:=aA h
theorem j9{s:St}{i:Nat}{p:Pc}:(s.to i p).pc i=p:=aF _ _ _
theorem kq{s:St}{a x:tF}{v:Int}(h:x≠a):(s.wr a v).mem x=s.mem x:=aA h
end
section
variable {C:jt}{s:St}{i:Nat}
theorem Ke{cc:Int}(h:cc<C.most)(h1:1<=cc):cc<iY C cc/\iY C cc<=C.most:=by unfold iY;split<;>omega
theorem pT.of{p:Pc}(h:s.pc i=p):pT C s i=pT C (s.to i p) i:=by unfold pT;rw[h,j9];rfl
theorem RI(h:DT C s)(hi:i<C.N){c b t cc d}(hp:s.pc i= .grow c b t cc):DT C (aC C s i d).s:=by
 have H:=h.1 i hi;have P:=H.ph;unfold pT at P;rw[hp]at P;simp only at P;unfold aC;rw[hp];simp only;have e1:∀g n,g<=s.cur i->(if True/\g=s.cur i+1 then(0:Int)else n)=n:=λg n hg=>bZ I;refine h.mine hi ?_ (λj hj=>rfl) (λj hj=>aA hj) (λj hj=>rfl) (λj hj=>rfl) (λj hj=>pO hj) ⟨H.t0,?_,?_,?_,?_,?_⟩ ⟨xN _,ja _,?_,?_⟩ (Th.plain (by rw[j9];trivial))
 ·intro a ha;simp only[St.to];cases a<;>simp only[tF.own,ne_eq,Option.some.injEq]at ha⊢<;> simp[ha]
 ·intro g hg;simp only[St.to]at hg⊢;rw[e1 g _ hg];exact H.AD g hg
 ·simp only[St.cc,St.to];rw[e1 _ _ (ja _)];exact H.Dr
 ·simp only[St.to,aF];rw[aA I];exact H.FG
 ·intro n hn;simp only[St.to,St.T,St.cc]at hn⊢;rw[e1 _ _ (ja _),e1 _ _ (ja _)];exact H.els n hn
 ·unfold pT;rw[j9];simp only[DR,St.B,St.T,St.L,St.cc,St.to]at P⊢;rw[e1 _ _ (ja _)];exact P
 ·intro g hg;simp only[St.to];exact e1 g _ hg
 ·intro _ x l hq;refine⟨⟨l,hq⟩,λg hg hx => ?_⟩;simp only[St.to];rw[e1 g _ hg];exact hx
theorem Le(h:DT C s)(hi:i<C.N){c b t cc d}(hp:s.pc i= .mS c b t cc):DT C (aC C s i d).s:=by
 have H:=h.1 i hi;have P:=H.ph;unfold pT at P;rw[hp]at P;simp only at P;unfold aC;rw[hp];simp only;have e1:∀g,g<=s.cur i->tF.cap i g≠.cap i (s.cur i+1):=λg hg e=>by injection e;omega
 refine h.mine hi (λa ha => ?_) (λj hj=>rfl) (λj hj=>rfl) (λj hj=>rfl) (λj hj=>rfl) (λj hj=>pO hj) ⟨?_,?_,?_,?_,?_,?_⟩ ⟨?_,ja _,?_,?_⟩ (Th.plain (by rw[j9];trivial))
 ·exact kq (λe=>ha (by rw[e];rfl))
 ·simp only[St.T,St.cc,St.to,St.wr,St.put,St.rY];rw[aA pQ];exact H.t0
 ·intro g hg;simp only[St.T,St.cc,St.to,St.wr,St.put,St.rY];rw[aA (e1 g hg)];exact H.AD g hg
 ·simp only[St.T,St.cc,St.to,St.wr,St.put,St.rY];rw[aA (e1 _ (ja _))];exact H.Dr
 ·simp only[St.T,St.cc,St.to,St.wr,St.put,St.rY];rw[aA pQ];exact H.FG
 ·intro n hn;simp only[St.T,St.cc,St.to,St.wr,St.put,St.rY]at hn⊢;rw[aA pQ,aA pQ,aA (e1 _ (ja _))];exact H.els n hn
 ·unfold pT;rw[j9];simp only[DR,Cn,St.B,St.T,St.L,St.cc,St.to,St.wr,aF]at P⊢;rw[aA (e1 _ (ja _)),aA pQ,aA pQ];have:=H.AD _ (ja (s.cur i));refine⟨P,⟨by rw[P.2.2.2.2.1],λm h1 h2=>I⟩,xN _,I⟩
 ·simp only[St.T,St.cc,St.to,St.wr,St.put,St.rY];rw[aA pQ];exact xN _
 ·intro g hg;exact kq (e1 g hg)
 ·intro _ x l hq;refine⟨⟨l,hq⟩,λg hg hx => ?_⟩;simp only[St.T,St.cc,St.to,St.wr,St.put,St.rY];rw[aA pQ];exact hx
theorem JD(h:DT C s)(hi:i<C.N){c b t cc n d}(hp:s.pc i= .kP c b t cc n):DT C (aC C s i d).s:=by
 have H:=h.1 i hi;have P:=H.ph;unfold pT at P;rw[hp]at P;simp only at P;unfold aC;rw[hp];simp only;refine h.reads hi rfl rfl rfl rfl rfl (λj hj=>pO hj) ?_ (Th.plain (by rw[j9];trivial));unfold pT;rw[j9];simp only;exact⟨P.1,P.2.1,P.2.2.1,P.2.2.2,by rw[P.1.2.2.2.2.1];rfl⟩
theorem Ir(h:DT C s)(hi:i<C.N){c b t cc n x d}(hp:s.pc i= .j8 c b t cc n x):DT C (aC C s i d).s:=by
 have H:=h.1 i hi;have P:=H.ph;unfold pT at P;rw[hp]at P;simp only at P;obtain⟨⟨g1,g2,g3,g4,g5,g6,g7⟩,⟨k1,k2⟩,p3,p4,p5⟩:=P;have c1:=H.AD _ (ja (s.cur i));obtain⟨b1,b2⟩:=Ke (C:=C) g7 (by rw[g5];exact c1);unfold aC;rw[hp];simp only;have e1:∀g k,g<=s.cur i->tF.el i g k≠.el i (s.cur i+1) (ix n (iY C cc)):=λg k hg e=>by injection e;omega
 refine h.mine hi (λa ha=>kq (λe=>ha (by rw[e];rfl))) (λj hj=>rfl) (λj hj=>rfl) (λj hj=>rfl) (λj hj=>rfl) (λj hj=>pO hj) ⟨?_,?_,?_,?_,?_,?_⟩ ⟨?_,ja _,?_,?_⟩ (Th.plain (by rw[j9];by_cases hb:n+1<b<;>simp[hb]))
 ·simp only[St.T,St.cc,St.to,St.wr,St.put,St.rY];rw[aA pQ];exact H.t0
 ·intro g hg;simp only[St.T,St.cc,St.to,St.wr,St.put,St.rY];rw[aA pQ];exact H.AD g hg
 ·simp only[St.T,St.cc,St.to,St.wr,St.put,St.rY];rw[aA pQ];exact H.Dr
 ·simp only[St.T,St.cc,St.to,St.wr,St.put,St.rY];rw[aA pQ];exact H.FG
 ·intro n hn;simp only[St.T,St.cc,St.to,St.wr,St.put,St.rY]at hn⊢;rw[aA (e1 _ _ (ja _)),aA pQ,aA pQ];exact H.els n hn
 ·have hG:DR C ((s.wr (.el i (s.cur i+1) (ix n (iY C cc))) x).to i (if n+1<b then .kP c b t cc (n+1)else .mT c b t cc)) i b t cc:=by
   simp only[DR,St.B,St.T,St.L,St.cc,St.to,St.wr]at *;rw[aA pQ,aA pQ,aA pQ];exact⟨g1,g2,g3,g4,g5,g6,g7⟩
  have hC:Cn C ((s.wr (.el i (s.cur i+1) (ix n (iY C cc))) x).to i (if n+1<b then .kP c b t cc (n+1)else .mT c b t cc)) i (n+1):=by
   simp only[Cn,St.T,St.cc,St.to,St.wr]at *;rw[aA pQ,aA pQ,aA pQ];refine⟨k1,λm h1 h2 => ?_⟩;rw[aA (e1 _ _ (ja _)),<-g5];by_cases hm:m=n
   ·subst hm;rw[aF,p5,<-g5]
   ·rw[aA (λe=>Up (m:=m) (n:=n) (c:=iY C cc) I I I hm (by injection e)),g5];exact k2 m h1 I
  unfold pT;rw[j9];by_cases hb:n+1<b
  ·simp only[aM hb]at hG hC⊢;exact⟨hG,hC,I,hb⟩
  ·simp only[bZ hb]at hG hC⊢;exact⟨hG,by rw[show b=n+1 by omega];rw[show b=n+1 by omega]at hC;exact hC⟩
 ·simp only[St.T,St.cc,St.to,St.wr,St.put,St.rY];rw[aA pQ];exact xN _
 ·intro g hg;simp only[St.to,St.wr,St.put,St.rY];rw[aA pQ]
 ·intro _ x l hq;refine⟨⟨l,hq⟩,λg hg hx => ?_⟩;simp only[St.T,St.cc,St.to,St.wr,St.put,St.rY];rw[aA (e1 _ _ hg)];exact hx
theorem Lf(h:DT C s)(hi:i<C.N){c b t cc d}(hp:s.pc i= .mT c b t cc):DT C (aC C s i d).s:=by
 have H:=h.1 i hi;have P:=H.ph;unfold pT at P;rw[hp]at P;simp only at P;obtain⟨⟨g1,g2,g3,g4,g5,g6,g7⟩,⟨k1,k2⟩⟩:=P;have c1:=H.AD _ (ja (s.cur i));obtain⟨b1,b2⟩:=Ke (C:=C) g7 (by rw[g5];exact c1);unfold aC;rw[hp];simp only;rw[g5]at b1 b2;simp only[St.B,St.T,St.L,St.cc]at *;refine h.mine hi (λa ha=>kq (λe=>ha (by rw[e];rfl))) (λj hj=>aA hj) (λj hj=>rfl) (λj hj=>rfl) (λj hj=>rfl) (λj hj=>pO hj) ⟨?_,?_,?_,?_,?_,?_⟩ ⟨?_,?_,?_,?_⟩ (Th.plain (by rw[j9];trivial))
 ·simp only[St.T,St.cc,St.to,St.wr,St.put,St.rY];rw[aA pQ];exact H.t0
 ·intro g hg;simp only[St.T,St.cc,St.to,St.wr,St.put,St.rY];rw[aA pQ];simp only[St.to,aF]at hg;by_cases e:g=s.cur i+1
  ·rw[e,k1];omega
  ·exact H.AD g I
 ·simp only[St.cc,St.to,aF];rw[kq pQ,k1];exact b2
 ·simp only[St.to,aF];simp only[St.T,St.cc,St.to,St.wr,St.put,St.rY];exact aF _ _ _
 ·intro n hn;simp only[St.T,St.cc,St.to,aF]at hn⊢;rw[kq pQ,kq pQ,kq pQ,k1,k2 _ I (by simp only[St.L,St.wr]at *;omega)];exact H.els n hn
 ·unfold pT;rw[j9];simp only[St.B,St.T,St.L,St.cc,St.to,St.wr,aF]at *;rw[aA pQ,aA pQ,aA pQ,k1,g5];exact⟨g1,g2,I,rfl⟩
 ·simp only[St.T,St.cc,St.to,St.wr,St.put,St.rY];rw[aA pQ];exact xN _
 ·simp only[St.to,aF];omega
 ·intro g hg;simp only[St.to,St.wr,St.put,St.rY];rw[aA pQ]
 ·intro _ x l hq;refine⟨⟨l,hq⟩,λg hg hx => ?_⟩;simp only[St.T,St.cc,St.to,St.wr,St.put,St.rY];rw[aA pQ];exact hx
theorem JE(h:DT C s)(hi:i<C.N){c b cc d}(hp:s.pc i= .jV c b cc):DT C (aC C s i d).s:=by
 have H:=h.1 i hi;have P:=H.ph;unfold pT at P;rw[hp]at P;simp only at P;obtain⟨g1,g2,g3,g4⟩:=P;have c1:=H.AD _ (ja (s.cur i));have E:=H.els;have t0:=H.t0;unfold aC;rw[hp];simp only;simp only[St.B,St.T,St.L,St.cc]at *;refine h.mine hi (λa ha=>kq (λe=>ha (by rw[e];rfl))) (λj hj=>rfl) (λj hj=>rfl) (λj hj=>rfl) (λj hj=>rfl) (λj hj=>pO hj) ⟨?_,?_,?_,?_,?_,?_⟩ ⟨?_,ja _,?_,?_⟩ (Th.plain (by rw[j9];trivial))
 ·simp only[St.T,St.cc,St.to,St.wr,St.put,St.rY];rw[aA pQ];exact H.t0
 ·intro g hg;simp only[St.T,St.cc,St.to,St.wr,St.put,St.rY];rw[aA pQ];exact H.AD g hg
 ·simp only[St.T,St.cc,St.to,St.wr,St.put,St.rY];rw[aA pQ];exact H.Dr
 ·simp only[St.T,St.cc,St.to,St.wr,St.put,St.rY];rw[aA pQ];exact H.FG
 ·intro n hn;simp only[St.T,St.cc,St.to,St.wr,St.put,St.rY]at hn⊢;rw[aA (a:=tF.el i (s.cur i) (ix b cc)) (x:=tF.top i) pQ,aA (x:=tF.cap i (s.cur i)) pQ,g4];have hn':n<(s.q i).length:=hn;rw[aA (λe=>Up (m:=s.mem (.top i)+n) (n:=b) (c:=s.mem (.cap i (s.cur i))) I I I I (by injection e))];exact E n hn
 ·unfold pT;rw[j9];simp only[St.B,St.T,St.L,St.cc,St.to,St.wr,aF]at *;rw[aA pQ,aA pQ,aA pQ,g4,aF];exact⟨g1,g2,I,rfl⟩
 ·simp only[St.T,St.cc,St.to,St.wr,St.put,St.rY];rw[aA pQ];exact xN _
 ·intro g hg;simp only[St.to,St.wr,St.put,St.rY];rw[aA pQ]
 ·intro ht x l hq;refine⟨⟨l,hq⟩,λg hg hx => ?_⟩;simp only[St.T,St.cc,St.to,St.wr,St.put,St.rY];have hl:1<=(s.q i).length:=by rw[hq];simp
  by_cases eg:g=s.cur i
  ·subst eg;rw[aA (λe=>Up (m:=s.mem (.top i)) (n:=b) (c:=s.mem (.cap i (s.cur i))) I I I I (by rw[g4]at e;injection e))];exact hx
  ·rw[aA (λe=>eg (by injection e))];exact hx
theorem Lh(h:DT C s)(hi:i<C.N){c b d}(hp:s.pc i= .n7 c b):DT C (aC C s i d).s:=by
 have H:=h.1 i hi;have P:=H.ph;unfold pT at P;rw[hp]at P;simp only at P;obtain⟨g1,g2,g3,g4⟩:=P;have E:=H.els;have t0:=H.t0;unfold aC;rw[hp];simp only;simp only[St.B,St.T,St.L,St.cc]at *;refine h.mine hi (λa ha=>kq (λe=>ha (by rw[e];rfl))) (λj hj=>rfl) (λj hj=>rfl) (λj hj=>aA hj) (λj hj=>rfl) (λj hj=>pO hj) ⟨?_,?_,?_,?_,?_,?_⟩ ⟨?_,ja _,?_,?_⟩ (Th.plain (by rw[j9];trivial))
 ·simp only[St.T,St.cc,St.to,St.wr,St.put,St.rY];rw[aA pQ];exact H.t0
 ·intro g hg;simp only[St.T,St.cc,St.to,St.wr,St.put,St.rY];rw[aA pQ];exact H.AD g hg
 ·simp only[St.T,St.cc,St.to,St.wr,St.put,St.rY];rw[aA pQ];exact H.Dr
 ·simp only[St.T,St.cc,St.to,St.wr,St.put,St.rY];rw[aA pQ];exact H.FG
 ·intro n hn;simp only[St.T,St.cc,St.to,St.put,St.rY,St.wr,aF]at hn⊢;rw[aA pQ,aA pQ,aA pQ];rw[kQ,G9]at hn;by_cases e:n<(s.q i).length
  ·rw[List.getD_eq_getElem?_getD,List.getElem?_append_left e,<-List.getD_eq_getElem?_getD];exact E n e
  ·have:n=(s.q i).length:=by omega
   subst this;rw[List.getD_eq_getElem?_getD,List.getElem?_append_right (ja _)];simp only[Nat.sub_self,List.getElem?_cons_zero,nQ];rw[g2];exact g4
 ·refine(pT.idle (by rw[j9];trivial)).2 ?_;simp only[St.B,St.T,St.L,St.cc,St.to,St.put,St.rY,St.wr,aF,kQ,G9]at *;rw[aA pQ,aA pQ];constructor<;>omega
 ·simp only[St.T,St.cc,St.to,St.wr,St.put,St.rY];rw[aA pQ];exact xN _
 ·intro g hg;simp only[St.to,St.wr,St.put,St.rY];rw[aA pQ]
 ·intro ht x l hq;simp only[St.to,St.put,St.rY,aF];refine⟨⟨l++[c],by rw[hq];rfl⟩,λg hg hx => ?_⟩;simp only[St.T,St.cc,St.to,St.wr,St.put,St.rY];rw[aA pQ];exact hx
end
section
variable {C:jt}{s:St}{i:Nat}
theorem DT.Li{s':St}(h:DT C s)(hi:i<C.N){v:Int}(hm:s'.mem=bJ s.mem (.bot i) v)(h1:s'.cur=s.cur)(h2:s'.base=s.base)(h3:s'.q=s.q)(h4:∀j,j≠i->s'.pop j=s.pop j)
 (hp:∀j,j≠i->s'.pc j=s.pc j) (hd:pT C s' i) (ht:Th C s' i):DT C s':=by
 have H:=h.1 i hi;have e:∀a,a≠.bot i->s'.mem a=s.mem a:=λa ha=>by rw[hm];exact aA ha
 refine h.mine hi (λa ha=>e a (λe=>ha (by rw[e];rfl))) (λj _=>by rw[h1]) (λj _=>by rw[h2]) (λj _=>by rw[h3]) h4 hp ⟨?_,?_,?_,?_,?_,hd⟩ ⟨?_,by rw[h1];exact ja _,?_,?_⟩ ht
 ·simp only[St.T];rw[e _ pQ];exact H.t0
 ·intro g hg;rw[e _ pQ];rw[h1]at hg;exact H.AD g hg
 ·simp only[St.cc,h1];rw[e _ pQ];exact H.Dr
 ·rw[e _ pQ,h1,h2];exact H.FG
 ·intro n hn;simp only[St.T,St.cc,h1,h3]at hn⊢;rw[e _ pQ,e _ pQ,e _ pQ];exact H.els n hn
 ·simp only[St.T];rw[e _ pQ];exact xN _
 ·intro g hg;rw[e _ pQ]
 ·intro _ x l hq;refine⟨⟨l,by rw[h3];exact hq⟩,λg hg hx => ?_⟩;rw[e _ pQ];exact hx
theorem OY:∀(l:List Nat) (n:Nat),n+1=l.length->l.getD n 0=l.getLastD 0
 | [],n,h=>by simp at h
 | a::l,n,h=>by
  simp only[Bj]at h;have:n=l.length:=by omega
  subst this;rw[List.getLastD_cons,List.getD_eq_getElem?_getD,List.getElem?_eq_getElem (by simp),nQ,JU,List.getLast?_eq_getElem?];cases l with
  | nil=>rfl
  | cons b l=>simp
theorem JF(l:List Nat)(n:Nat)(h:n+1<l.length):l.dropLast.getD n 0=l.getD n 0:=by
 simp only[List.getD_eq_getElem?_getD];rw[List.getElem?_dropLast,sR]
theorem RJ(h:DT C s)(hi:i<C.N){b d}(hp:s.pc i= .AB b):DT C (aC C s i d).s:=by
 have H:=h.1 i hi;have P:=H.ph;unfold pT at P;rw[hp]at P;simp only at P;obtain⟨g1,g2,g3⟩:=P;have E:=H.els;have t0:=H.t0;unfold aC;rw[hp];simp only;simp only[St.B,St.T,St.L,St.cc]at *;split
 ·rename_i hb;have hl:((s.q i).length-1)+1=(s.q i).length:=by omega
  have hdl:(s.q i).dropLast.length=(s.q i).length-1:=by simp
  refine h.mine hi (λa ha=>rfl) (λj hj=>rfl) (λj hj=>rfl) (λj hj=>aA hj) (λj hj=>aA hj) (λj hj=>pO hj) ⟨H.t0,H.AD,H.Dr,H.FG,?_,?_⟩ ⟨xN _,ja _,λ_ _=>rfl,?_⟩ (Th.plain (by simp[St.nH,St.put,St.rY,St.to]))
  ·intro n hn;simp only[St.T,St.cc,St.to,St.put,St.rY,St.nH,aF]at hn⊢;rw[hdl]at hn;rw[JF _ _ I];exact E n I
  ·unfold pT;simp only[St.nH,St.put,St.rY,St.to,aF,xB,St.B,St.T,St.L,St.cc,hdl];refine⟨g1,I,I,λ_=>⟨I,I,_,rfl,?_⟩,λe=>I⟩;rw[<-OY _ _ hl,<-E _ I];rw[show s.mem (.top i)+(((s.q i).length-1:Nat):Int)=b by omega]
  ·intro _ x l hq;simp only[St.nH,St.put,St.rY,St.to,aF];refine⟨?_,λg hg hx=>hx⟩;rw[hq]at hl g2⊢;cases l with
   | nil=>simp at g2;omega
   | cons y l=>exact⟨_,rfl⟩
 ·split
  ·rename_i hn ht;refine h.reads hi rfl rfl rfl rfl rfl (λj hj=>pO hj) ?_ (Th.plain (by rw[j9];trivial));unfold pT;simp only[St.to,aF,xB,St.B,St.T,St.L,St.cc];exact⟨g1,I,I,λe=>I,λ_=>⟨g2,I,g3⟩⟩
  ·rename_i hn ht;refine h.reads hi rfl rfl rfl rfl rfl (λj hj=>pO hj) ?_ (Th.plain (by rw[j9];trivial));unfold pT;simp only[St.to,aF,St.B,St.T,St.L,St.cc];exact⟨trivial,I,I⟩
theorem JG(h:DT C s)(hi:i<C.N){b d}(hp:s.pc i= .rJ b):DT C (aC C s i d).s:=by
 have H:=h.1 i hi;have P:=H.ph;unfold pT at P;rw[hp]at P;simp only at P;obtain⟨g1,g2,g3⟩:=P;unfold aC;rw[hp];simp only;refine h.Li hi rfl rfl rfl rfl (λ_ _=>rfl) (λj hj=>pO hj) ?_ (Th.plain (by rw[j9];trivial));unfold pT;simp only[St.to,St.wr,aF,St.B,St.T,St.L,St.cc]at *;rw[aA pQ,aA pQ];exact⟨trivial,g2,g3⟩
theorem QB{s:St}:(yZ s C i).pc i=if C.N=1 then .flag else .jQ:=aF _ _ _
theorem FH{s:St}:Idle ((yZ s C i).pc i):=by rw[QB];split<;>trivial
theorem Lj{s:St}:Th C (yZ s C i) i:=by
 unfold Th;rw[QB];by_cases h:C.N=1
 ·rw[aM h];trivial
 ·rw[bZ h];exact h
theorem JH(h:DT C s)(hi:i<C.N){t d}(hp:s.pc i= .pM t):DT C (aC C s i d).s:=by
 have H:=h.1 i hi;have P:=H.ph;unfold pT at P;rw[hp]at P;simp only at P;obtain⟨g1,g2,g3⟩:=P;have c1:=H.AD _ (ja (s.cur i));unfold aC;rw[hp];simp only;refine h.Li hi rfl rfl rfl rfl (λ_ _=>rfl) (λj hj=>aA hj) ((pT.idle FH).2 ?_) Lj;simp only[yZ,St.to,St.wr,St.tQ,aF,St.B,St.T,St.L,St.cc]at *;rw[aA pQ,aA pQ];exact⟨I,I⟩
theorem Ll(h:DT C s)(hi:i<C.N){b t cc d}(hp:s.pc i= .pS b t cc):DT C (aC C s i d).s:=by
 have H:=h.1 i hi;have P:=H.ph;unfold pT at P;rw[hp]at P;simp only[xB]at P;obtain⟨⟨g1,g2,g3,g4,g5⟩,g6⟩:=P;unfold aC;rw[hp];simp only;have E:=H.els;split
 ·rename_i hb;obtain⟨k1,k2,k3⟩:=g4 hb;refine h.mine hi (λa ha=>rfl) (λj hj=>rfl) (λj hj=>rfl) (λj hj=>rfl) (λj hj=>aA hj) (λj hj=>aA hj) ⟨H.t0,H.AD,H.Dr,H.FG,E,?_⟩ ⟨xN _,ja _,λ_ _=>rfl,?_⟩ (Th.plain (by simp[got,St.nH,St.put,St.holds,St.to]))
  ·refine(pT.idle (by simp[got,St.nH,St.put,St.holds,St.to,Idle])).2 ?_;simp only[got,St.nH,St.put,St.holds,St.to,St.B,St.T,St.L,St.cc]at *;exact⟨I,I⟩
  ·intro _ x l hq;exact⟨⟨l,hq⟩,λg hg hx=>hx⟩
 ·rename_i hb;have e:t=b:=by omega
  obtain⟨k1,k2,k3⟩:=g5 e;refine h.reads hi rfl rfl rfl rfl rfl (λj hj=>pO hj) ?_ (Th.plain (by rw[j9];trivial));unfold pT;simp only[St.to,aF,St.B,St.T,St.L,St.cc]at *;refine⟨g1,e,k1,k2,λht => ?_,k3⟩;have hl:(s.q i).length=1:=by omega
  obtain⟨x,hx⟩:=List.length_eq_one_iff.1 hl;have:=E 0 I;rw[hx]at this;simp only[List.getD_cons_zero]at this;rw[show s.mem (.top i)+((0:Nat):Int)=b by omega,<-g6]at this;rw[this,hx];exact⟨rfl,I⟩
theorem Nm(h:DT C s)(hi:i<C.N){b t x d}(hp:s.pc i= .sP b t x):DT C (aC C s i d).s:=by
 have H:=h.1 i hi;have P:=H.ph;unfold pT at P;rw[hp]at P;simp only at P;obtain⟨g1,g2,g3,g4,g5,g6⟩:=P;have t0:=H.t0;have c1:=H.AD _ (ja (s.cur i));unfold aC;rw[hp];simp only;simp only[St.B,St.T,St.L,St.cc]at *;split
 ·rename_i ht;obtain⟨k1,k2⟩:=g5 ht;refine h.mine hi (λa ha=>kq (λe=>ha (by rw[e];rfl))) (λj hj=>rfl) (λj hj=>rfl) (λj hj=>aA hj) (λj hj=>aA hj) (λj hj=>aA hj) ⟨?_,?_,?_,?_,?_,?_⟩ ⟨?_,ja _,?_,?_⟩ (Th.plain (by simp[St.nH,St.put,St.rY,St.to]))
  ·simp only[St.T,St.nH,St.put,St.rY,St.to,St.wr,aF];omega
  ·intro g hg;simp only[St.nH,St.put,St.rY,St.to,St.wr];rw[aA pQ];exact H.AD g hg
  ·simp only[St.cc,St.nH,St.put,St.rY,St.to,St.wr];rw[aA pQ];exact H.Dr
  ·simp only[St.nH,St.put,St.rY,St.to,St.wr];rw[aA pQ];exact H.FG
  ·intro n hn;simp[St.nH,St.put,St.rY,St.to]at hn
  ·unfold pT;simp only[St.nH,St.put,St.rY,St.to,aF,St.B,St.T,St.L,St.cc,St.wr];rw[aA pQ];exact⟨I,trivial,by simp,λ_=>⟨trivial,k2⟩⟩
  ·simp only[St.T,St.nH,St.put,St.rY,St.to,St.wr,aF];omega
  ·intro g hg;simp only[St.nH,St.put,St.rY,St.to,St.wr];rw[aA pQ]
  ·intro ht' ;simp only[St.T,St.nH,St.put,St.rY,St.to,St.wr,aF]at ht';omega
 ·rename_i ht;refine h.reads hi rfl rfl rfl rfl rfl (λj hj=>pO hj) ?_ (Th.plain (by rw[j9];trivial));unfold pT;simp only[St.to,aF,St.B,St.T,St.L,St.cc]at *;exact⟨I,I,I,λe=>Bool.noConfusion e⟩
theorem Nn(h:DT C s)(hi:i<C.N){t x Al d}(hp:s.pc i= .qa t x Al):DT C (aC C s i d).s:=by
 have H:=h.1 i hi;have P:=H.ph;unfold pT at P;rw[hp]at P;simp only at P;obtain⟨g1,g2,g3,g4⟩:=P;have c1:=H.AD _ (ja (s.cur i));unfold aC;rw[hp];simp only;cases Al
 ·refine h.Li hi rfl rfl rfl rfl (λ_ _=>rfl) (λj hj=>aA hj) ((pT.idle FH).2 ?_) Lj;simp only[yZ,St.to,St.wr,St.tQ,aF,St.B,St.T,St.L,St.cc,G5,if_false]at *;rw[aA pQ,aA pQ];exact⟨I,I⟩
 ·refine h.Li hi rfl rfl rfl rfl (λj hj=>aA hj) (λj hj=>aA hj) ((pT.idle (by simp[got,St.nH,St.put,St.holds,St.to,Idle])).2 ?_) (Th.plain (by simp[got,St.nH,St.put,St.holds,St.to]));simp only[got,St.to,St.wr,St.tQ,St.nH,St.put,St.holds,aF,St.B,St.T,St.L,St.cc,if_true]at *;rw[aA pQ,aA pQ];exact⟨I,I⟩
theorem D.ZU{s':St}{v:Nat}{x:Nat}{l:List Nat}(H:D C s v)(hq:s.q v=x::l)(hm:s'.mem=bJ s.mem (.top v) (s.T v+1))(h1:s'.cur=s.cur)(h2:s'.base=s.base)(h3:s'.q v=l)(h4:s'.pop v=s.pop v)(hp:s'.pc v=s.pc v):D C s' v:=by
 have e:∀a,a≠.top v->s'.mem a=s.mem a:=λa ha=>by rw[hm];exact aA ha
 have et:s'.mem (.top v)=s.mem (.top v)+1:=by rw[hm];exact aF _ _ _
 have E:=H.els;have t0:=H.t0;have eb:=e (.bot v) pQ;have ec:=λg=>e (.cap v g) pQ;have ee:=λg n=>e (.el v g n) pQ;have hl:(s.q v).length=l.length+1:=by rw[hq];rfl
 have P:=H.ph;refine⟨?_,?_,?_,?_,?_,?_⟩
 ·simp only[St.T]at *;rw[et];omega
 ·intro g hg;rw[ec];rw[h1]at hg;exact H.AD g hg
 ·simp only[St.cc,h1];rw[ec];exact H.Dr
 ·rw[e _ pQ,h1,h2];exact H.FG
 ·intro n hn;rw[h3]at hn;simp only[St.T,St.cc,h1,h3]at *;rw[ee,ec,et];have:=E (n+1) I;rw[hq]at this;simp only[List.getD_cons_succ]at this;rw[<-this,show s.mem (.top v)+1+(n:Int)=s.mem (.top v)+((n+1:Nat):Int) by omega]
 ·unfold pT at P⊢;rw[hp];simp only[DR,Cn,xB,St.B,St.T,St.L,St.cc,h1,h3,h4,et,eb,ec,ee]at P⊢;rw[hl]at P;split<;>rename_i hh<;>simp only[hh]at P<;>try omega
  ·refine⟨I,⟨P.2.1.1,λm a b=>P.2.1.2 m I b⟩,I⟩
  ·refine⟨I,⟨P.2.1.1,λm a b=>P.2.1.2 m I b⟩,P.2.2.1,P.2.2.2.1,P.2.2.2.2⟩
  ·refine⟨I,⟨P.2.1,λm a b=>P.2.2 m I b⟩⟩
  ·refine⟨P.1,P.2.1,P.2.2.1,λhb => ?_,λhb => ?_⟩
   ·obtain⟨a1,a2,a3⟩:=P.2.2.2.1 hb;exact⟨I,I,a3⟩
   ·obtain⟨a1,a2,a3⟩:=P.2.2.2.2 hb;exact⟨I,I,I⟩
  ·refine⟨⟨P.1.1,P.1.2.1,P.1.2.2.1,λhb => ?_,λhb => ?_⟩,P.2⟩
   ·obtain⟨a1,a2,a3⟩:=P.1.2.2.2.1 hb;exact⟨I,I,a3⟩
   ·obtain⟨a1,a2,a3⟩:=P.1.2.2.2.2 hb;exact⟨I,I,I⟩
end
section
variable {C:jt}{s:St}{i:Nat}
theorem ne1{v:Nat}(hi:i<C.N)(hv:v<C.N)(h:v≠i):C.N≠1:=by omega
theorem JI(h:DT C s)(hi:i<C.N){v t x d}(hp:s.pc i= .ny v t x):DT C (aC C s i d).s:=by
 have P:=h.2 i hi;unfold Th at P;rw[hp]at P;simp only at P;obtain⟨g1,g2,g3,g4⟩:=P;have Hv:=h.1 v g1;have Hi:=h.1 i hi;unfold aC;rw[hp];simp only;split
 ·rename_i ht;obtain⟨y,l,hq,hx⟩:=g4 ht.symm;have ep:∀j,j≠i->(got ((s.wr (.top v) (t+1)).rY v (s.q v).tail) i x v).pc j=s.pc j:=λj hj=>aA hj;have em:∀a,a≠.top v->(got ((s.wr (.top v) (t+1)).rY v (s.q v).tail) i x v).mem a=s.mem a:=λa ha=>aA ha;have eS:∀j,j≠v->Co s (got ((s.wr (.top v) (t+1)).rY v (s.q v).tail) i x v) j:=λj hj=>Co.of (λa ha=>em a (λe=>hj (by rw[e]at ha;exact(Option.some.inj ha).symm))) rfl rfl (aA hj) rfl;refine⟨λj hj => ?_,λk hk => ?_⟩
  ·by_cases e:j=v
   ·subst e;exact Hv.ZU hq (by rw[St.T,ht];rfl) rfl rfl (by show(bJ s.q j (s.q j).tail) j=l;rw[aF,hq];rfl) rfl (aA g2)
   ·by_cases e':j=i
    ·subst e';have hI:Idle (s.pc j):=by rw[hp];trivial
     refine Hi.idle (s':=got ((s.wr (.top v) (t+1)).rY v (s.q v).tail) j x v) ?_ hI (by simp[got,St.put,St.holds,St.to,Idle])
     ·exact Co.of (λa ha=>em a (λe=>by rw[e]at ha;exact g2 (Option.some.inj ha))) rfl rfl (aA e) rfl
    ·exact(h.1 j hj).Yi (eS j e) (ep j e')
  ·by_cases e:k=i
   ·subst e;exact Th.plain (by simp[got,St.nH,St.put,St.holds,St.to])
   ·refine(h.2 k hk).calm (λj hj => ?_) (ep k e);by_cases e':j=v
    ·subst e';refine⟨?_,ja _,λg hg=>em _ pQ,λhT => ?_⟩
     ·show s.mem (.top j)<=bJ s.mem (.top j) (t+1) (.top j);rw[aF];omega
     ·have:s.mem (.top j)=bJ s.mem (.top j) (t+1) (.top j):=hT;rw[aF]at this;omega
    ·exact(eS j e').calm
 ·refine h.gL hi (λ_ _=>rfl) rfl rfl rfl rfl (λj hj=>pO hj) (by rw[hp];trivial) (by rw[j9];trivial) (by unfold Th;rw[j9];exact ne1 hi g1 g2)
theorem RL(hi:i<C.N)(hN:C.N≠1)(d:Int):(i+1+(d%((C.N:Int)-1)).toNat)%C.N<C.N/\(i+1+(d%((C.N:Int)-1)).toNat)%C.N≠i:=by
 have h1:=BK d (b:=(C.N:Int)-1) I;have h2:=C6 d (b:=(C.N:Int)-1) I;generalize hr:(d%((C.N:Int)-1)).toNat=r;have YY:r<C.N-1:=by omega
 refine⟨BF _ I,?_⟩;by_cases h:i+1+r<C.N
 ·rw[uX h];omega
 ·rw[Nat.mod_eq_sub_mod I,uX I];omega
theorem D.bot_le{j:Nat}(h:D C s j):s.B j<=s.T j+s.L j:=by
 have P:=h.ph;unfold pT at P;split at P<;>simp only[DR,xB,St.B,St.T,St.L,St.cc]at * <;> first
  | omega
  | (rcases Int.lt_or_eq_of_le P.2.1 with e | e
     ·have:=P.2.2.2.1 e;omega
     ·have:=P.2.2.2.2 e;omega)
  | (rcases Int.lt_or_eq_of_le P.1.2.1 with e | e
     ·have:=P.1.2.2.2.1 e;omega
     ·have:=P.1.2.2.2.2 e;omega)
def Far:Pc->Prop
 | .jQ | .EL | .vU .. | .rK .. | .qB .. | .n8 .. | .ny .. => False
 | _=>True
theorem DT.pX{s':St}{p:Pc}(h:DT C s)(hi:i<C.N)(hm:∀a,a.own≠none->s'.mem a=s.mem a)(h1:s'.cur=s.cur)(h2:s'.base=s.base)(h3:s'.q=s.q)(h4:s'.pop=s.pop)
 (hp:s'.pc=bJ s.pc i p) (hid:Idle (s.pc i)) (ZT:Idle p) (hf:Far p):DT C s':=by
 have e:s'.pc i=p:=by rw[hp];exact aF _ _ _
 refine h.gL hi hm h1 h2 h3 h4 (λj hj=>by rw[hp];exact aA hj) hid (by rw[e];exact ZT) (Th.plain ?_);rw[e];cases p<;>first | exact hf | trivial
theorem DT.OZ{s':St}(h:DT C s)(hi:i<C.N)(hm:∀a,a.own≠none->s'.mem a=s.mem a)(h1:s'.cur=s.cur)(h2:s'.base=s.base)(h3:s'.q=s.q)(h4:s'.pop=s.pop)
 (hp:s'.pc=s.pc) (hid:Idle (s.pc i)):DT C (yZ s' C i):=
 h.gL hi hm h1 h2 h3 h4 (λj hj=>by show bJ s'.pc i _ j=s.pc j;rw[aA hj,hp]) hid FH Lj
theorem DT.same{s':St}(h:DT C s)(hi:i<C.N)(hm:∀a,a.own≠none->s'.mem a=s.mem a)(h1:s'.cur=s.cur)(h2:s'.base=s.base)(h3:s'.q=s.q)(h4:s'.pop=s.pop)(hp:s'.pc=s.pc)(hr:s.pc i= .run):DT C s':=
 h.gL hi hm h1 h2 h3 h4 (λj hj=>by rw[hp]) (by rw[hr];trivial) (by rw[hp,hr];trivial) (Th.plain (by rw[hp,hr];trivial))
theorem O0(h:DT C s)(hi:i<C.N)(hp:s.pc i= .run):DT C (instr C s i).s:=by
 unfold instr;simp only;split
 ·exact h.same hi (λ_ _=>rfl) rfl rfl rfl rfl rfl hp
 ·exact h.same hi (λ_ _=>rfl) rfl rfl rfl rfl rfl hp
 ·exact h.same hi (λ_ _=>rfl) rfl rfl rfl rfl rfl hp
 ·exact h.same hi (λ_ _=>rfl) rfl rfl rfl rfl rfl hp
 ·exact h.same hi (λ_ _=>rfl) rfl rfl rfl rfl rfl hp
 ·exact h.same hi (λ_ _=>rfl) rfl rfl rfl rfl rfl hp
 ·exact h.same hi (λ_ _=>rfl) rfl rfl rfl rfl rfl hp
 ·split
  ·exact DT.pX h hi (by intro a ha;exact kq (by intro e;rw[e]at ha;exact ha rfl)) rfl rfl rfl rfl rfl (by rw[hp];trivial) trivial trivial
  ·exact DT.pX h hi (by intro a ha;exact kq (by intro e;rw[e]at ha;exact ha rfl)) rfl rfl rfl rfl rfl (by rw[hp];trivial) trivial trivial
 ·split
  ·exact DT.pX h hi (by intro a ha;exact kq (by intro e;rw[e]at ha;exact ha rfl)) rfl rfl rfl rfl rfl (by rw[hp];trivial) trivial trivial
  ·exact DT.pX h hi (by intro a ha;exact kq (by intro e;rw[e]at ha;exact ha rfl)) rfl rfl rfl rfl rfl (by rw[hp];trivial) trivial trivial
 ·split
  ·exact DT.pX h hi (by intro a ha;exact kq (by intro e;rw[e]at ha;exact ha rfl)) rfl rfl rfl rfl rfl (by rw[hp];trivial) trivial trivial
  ·exact DT.pX h hi (by intro a ha;exact kq (by intro e;rw[e]at ha;exact ha rfl)) rfl rfl rfl rfl rfl (by rw[hp];trivial) trivial trivial
theorem DT.aC(h:DT C s)(hi:i<C.N)(d:Int):DT C (aC C s i d).s:=by
 have H:=h.1 i hi;have HT:=h.2 i hi;have P:=H.ph;cases hp:s.pc i with
 | grow=>exact RI h hi hp
 | mS=>exact Le h hi hp
 | kP=>exact JD h hi hp
 | j8=>exact Ir h hi hp
 | mT=>exact Lf h hi hp
 | jV=>exact JE h hi hp
 | n7=>exact Lh h hi hp
 | AB=>exact RJ h hi hp
 | rJ=>exact JG h hi hp
 | pM=>exact JH h hi hp
 | pS=>exact Ll h hi hp
 | sP=>exact Nm h hi hp
 | qa=>exact Nn h hi hp
 | ny=>exact JI h hi hp
 | halted=>unfold Am.aC;rw[hp];exact h
 | full=>unfold Am.aC;rw[hp];exact h
 | zP c =>
  unfold Am.aC;rw[hp];refine h.reads hi rfl rfl rfl rfl rfl (λj hj=>pO hj) ?_ (Th.plain (by rw[j9];trivial));have:=(pT.idle (by rw[hp];trivial)).1 P;unfold pT;simp only[St.to,aF,St.B,St.T,St.L,St.cc]at *;exact⟨trivial,this.1.symm,this.2⟩
 | yc c b =>
  unfold Am.aC;rw[hp];refine h.reads hi rfl rfl rfl rfl rfl (λj hj=>pO hj) ?_ (Th.plain (by rw[j9];trivial));unfold pT at P⊢;rw[hp]at P;simp only[St.to,aF,St.B,St.T,St.L,St.cc]at *;exact⟨P.1,P.2.1,P.2.2,xN _,I⟩
 | q9 c b t =>
  unfold Am.aC;rw[hp];refine h.reads hi rfl rfl rfl rfl rfl (λj hj=>pO hj) ?_ (Th.plain (by rw[j9];trivial));unfold pT at P⊢;rw[hp]at P;simp only[St.to,aF,St.B,St.T,St.L,St.cc]at *;exact P
 | rf c b t =>
  unfold Am.aC;rw[hp];simp only;unfold pT at P;rw[hp]at P;simp only at P;split
  ·refine h.reads hi rfl rfl rfl rfl rfl (λj hj=>pO hj) ?_ (Th.plain (by rw[j9];trivial));unfold pT;simp only[St.to,aF,St.B,St.T,St.L,St.cc]at *;exact⟨P.1,P.2.1,I,bU⟩
  ·split
   ·refine h.reads hi rfl rfl rfl rfl rfl (λj hj=>pO hj) ?_ (Th.plain (by rw[j9];trivial));refine(pT.idle (by rw[j9];trivial)).2 ?_;simp only[St.to,aF,St.B,St.T,St.L,St.cc]at *;exact⟨I,P.2.2.1⟩
   ·refine h.reads hi rfl rfl rfl rfl rfl (λj hj=>pO hj) ?_ (Th.plain (by rw[j9];trivial));unfold pT;simp only[DR,St.to,aF,St.B,St.T,St.L,St.cc]at *;exact⟨P.1,P.2.1,P.2.2.1,P.2.2.2.1,trivial,I,I⟩
 | Bw =>
  unfold Am.aC;rw[hp];refine h.reads hi rfl rfl rfl rfl rfl (λj hj=>pO hj) ?_ (Th.plain (by rw[j9];trivial));have:=(pT.idle (by rw[hp];trivial)).1 P;unfold pT;simp only[St.to,aF,St.B,St.T,St.L,St.cc]at *;exact⟨I,I,this.2⟩
 | wV b =>
  unfold Am.aC;rw[hp];refine h.reads hi rfl rfl rfl rfl rfl (λj hj=>pO hj) ?_ (Th.plain (by rw[j9];trivial));unfold pT at P⊢;rw[hp]at P;simp only[St.to,aF,St.B,St.T,St.L,St.cc]at *;exact P
 | tP b t =>
  unfold Am.aC;rw[hp];refine h.reads hi rfl rfl rfl rfl rfl (λj hj=>pO hj) ?_ (Th.plain (by rw[j9];trivial));unfold pT at P⊢;rw[hp]at P;simp only[xB,St.to,aF,St.B,St.T,St.L,St.cc]at *;exact⟨P,bU⟩
 | jQ =>
  have hN:C.N≠1:=by unfold Th at HT;rw[hp]at HT;exact HT
  unfold Am.aC;rw[hp];simp only;have hv:=RL hi hN d;refine h.gL hi (λ_ _=>rfl) rfl rfl rfl rfl (λj hj=>pO hj) (by rw[hp];trivial) (by rw[j9];trivial) ?_;unfold Th;rw[j9];exact⟨hv.1,hv.2,xN _⟩
 | vU v t =>
  unfold Th at HT;rw[hp]at HT;simp only at HT;unfold Am.aC;rw[hp];simp only;split
  ·refine h.gL hi (λ_ _=>rfl) rfl rfl rfl rfl (λj hj=>pO hj) (by rw[hp];trivial) (by rw[j9];trivial) ?_;unfold Th;rw[j9];exact ne1 hi HT.1 HT.2.1
  ·rename_i hb;refine h.gL hi (λ_ _=>rfl) rfl rfl rfl rfl (λj hj=>pO hj) (by rw[hp];trivial) (by rw[j9];trivial) ?_;unfold Th;rw[j9];refine⟨HT.1,HT.2.1,HT.2.2,λht => ?_⟩;have hB:=(h.1 v HT.1).bot_le;intro hq;have hB:s.B v<=s.T v+s.L v:=hB;have:s.L v=0:=by show((s.q v).length:Int)=0;rw[show s.q v=[]from hq];rfl
   have ht':t=s.T v:=ht;simp only[St.B]at hB;omega
 | rK v t =>
  unfold Th at HT;rw[hp]at HT;simp only at HT;unfold Am.aC;rw[hp];simp only;refine h.gL hi (λ_ _=>rfl) rfl rfl rfl rfl (λj hj=>pO hj) (by rw[hp];trivial) (by rw[j9];trivial) ?_;unfold Th;rw[j9];refine⟨HT.1,HT.2.1,HT.2.2.1,ja _,λht => ?_⟩;obtain⟨x,l,hq⟩:=List.exists_cons_of_ne_nil (HT.2.2.2 ht);refine⟨x,l,hq,?_⟩;have:=(h.1 v HT.1).els 0 (by rw[hq];simp);rw[hq]at this;have ht':t=s.T v:=ht;simp only[St.T,St.cc,List.getD_cons_zero]at this ht';rw[ht']
  simpa [St.to]using this
 | qB v t g =>
  unfold Th at HT;rw[hp]at HT;simp only at HT;unfold Am.aC;rw[hp];simp only;refine h.gL hi (λ_ _=>rfl) rfl rfl rfl rfl (λj hj=>pO hj) (by rw[hp];trivial) (by rw[j9];trivial) ?_;unfold Th;rw[j9];exact⟨HT.1,HT.2.1,HT.2.2.1,HT.2.2.2.1,rfl,HT.2.2.2.2⟩
 | n8 v t g cc =>
  unfold Th at HT;rw[hp]at HT;simp only at HT;unfold Am.aC;rw[hp];simp only;refine h.gL hi (λ_ _=>rfl) rfl rfl rfl rfl (λj hj=>pO hj) (by rw[hp];trivial) (by rw[j9];trivial) ?_;unfold Th;rw[j9];refine⟨HT.1,HT.2.1,HT.2.2.1,λht => ?_⟩;obtain⟨x,l,hq,hx⟩:=HT.2.2.2.2.2 ht;exact⟨x,l,hq,by rw[HT.2.2.2.2.1];exact hx⟩
 | EL =>
  have hN:C.N≠1:=by unfold Th at HT;rw[hp]at HT;exact HT
  unfold Am.aC;rw[hp];simp only;split
  ·exact h.gL hi (λ_ _=>rfl) rfl rfl rfl rfl (λj hj=>pO hj) (by rw[hp];trivial) (by rw[j9];trivial) (Th.plain (by rw[j9];trivial))
  ·refine h.gL hi (λ_ _=>rfl) rfl rfl rfl rfl (λj hj=>pO hj) (by rw[hp];trivial) (by rw[j9];split<;>trivial) ?_;unfold Th;rw[j9];by_cases h3:s.fW i<3
   ·simp only[aM h3];exact hN
   ·simp only[bZ h3]
 | run =>
  unfold Am.aC;rw[hp];simp only;exact O0 h hi hp
 | tell j =>
  unfold Am.aC;rw[hp];simp only[lU];split
  ·exact DT.pX h hi (by intro a ha;exact kq (by intro e;rw[e]at ha;exact ha rfl)) rfl rfl rfl rfl rfl (by rw[hp];trivial) trivial trivial
  ·split
   ·exact DT.pX h hi (λ_ _=>rfl) rfl rfl rfl rfl rfl (by rw[hp];trivial) trivial trivial
   ·exact DT.pX h hi (λ_ _=>rfl) rfl rfl rfl rfl rfl (by rw[hp];trivial) trivial trivial
 | xA j =>
  unfold Am.aC;rw[hp];simp only[lU];split<;>exact DT.pX h hi (by intro a ha;exact kq (by intro e;rw[e]at ha;exact ha rfl)) rfl rfl rfl rfl rfl (by rw[hp];trivial) trivial trivial
 | done =>
  unfold Am.aC;rw[hp];simp only[lU];split<;>exact DT.pX h hi (by intro a ha;exact kq (by intro e;rw[e]at ha;exact ha rfl)) rfl rfl rfl rfl rfl (by rw[hp];trivial) trivial trivial
 | out p c =>
  unfold Am.aC;rw[hp];simp only;split<;>exact DT.pX h hi (by intro a ha;exact kq (by intro e;rw[e]at ha;exact ha rfl)) rfl rfl rfl rfl rfl (by rw[hp];trivial) trivial trivial
 | DQ =>
  unfold Am.aC;rw[hp];simp only;refine DT.pX h hi (λ_ _=>rfl) rfl rfl rfl rfl rfl (by rw[hp];trivial) ?_ ?_<;>split<;>trivial
 | sW j =>
  unfold Am.aC;rw[hp];simp only;split
  ·exact DT.pX h hi (by intro a ha;exact kq (by intro e;rw[e]at ha;exact ha rfl)) rfl rfl rfl rfl rfl (by rw[hp];trivial) trivial trivial
  ·refine DT.pX h hi (λ_ _=>rfl) rfl rfl rfl rfl rfl (by rw[hp];trivial) ?_ ?_<;>split<;>trivial
 | vn =>
  unfold Am.aC;rw[hp];simp only[looking];split
  ·exact DT.pX h hi (λ_ _=>rfl) rfl rfl rfl rfl rfl (by rw[hp];trivial) trivial trivial
  ·split<;>exact DT.pX h hi (λ_ _=>rfl) rfl rfl rfl rfl rfl (by rw[hp];trivial) trivial trivial
 | Dq j t =>
  unfold Am.aC;rw[hp];simp only[looking];split
  ·exact DT.pX h hi (λ_ _=>rfl) rfl rfl rfl rfl rfl (by rw[hp];trivial) trivial trivial
  ·split<;>exact DT.pX h hi (λ_ _=>rfl) rfl rfl rfl rfl rfl (by rw[hp];trivial) trivial trivial
 | parked =>
  unfold Am.aC;rw[hp];simp only;split
  ·exact h
  ·exact DT.OZ h hi (s':=s.tQ i 0) (λ_ _=>rfl) rfl rfl rfl rfl rfl (by rw[hp];trivial)
 | back b =>
  unfold Am.aC;rw[hp];simp only[yp];split
  ·exact DT.pX h hi (by intro a ha;exact kq (by intro e;rw[e]at ha;exact ha rfl)) rfl rfl rfl rfl rfl (by rw[hp];trivial) trivial trivial
  ·split
   ·exact DT.pX h hi (λ_ _=>rfl) rfl rfl rfl rfl rfl (by rw[hp];trivial) trivial trivial
   ·exact DT.OZ h hi (s':=s.tQ i 0) (λ_ _=>rfl) rfl rfl rfl rfl rfl (by rw[hp];trivial)
 | v8 b =>
  unfold Am.aC;rw[hp];simp only[yp];split
  ·exact DT.pX h hi (by intro a ha;exact kq (by intro e;rw[e]at ha;exact ha rfl)) rfl rfl rfl rfl rfl (by rw[hp];trivial) trivial trivial
  ·exact DT.OZ h hi (s':=(s.wr .tW (s.mem .tW-1)).tQ i 0) (by intro a ha;exact kq (by intro e;rw[e]at ha;exact ha rfl)) rfl rfl rfl rfl rfl (by rw[hp];trivial)
 | start x=>unfold Am.aC;rw[hp];exact DT.pX h hi (by intro a ha;exact kq (by intro e;rw[e]at ha;exact ha rfl)) rfl rfl rfl rfl rfl (by rw[hp];trivial) trivial trivial
 | fork c=>unfold Am.aC;rw[hp];exact DT.pX h hi (by intro a ha;exact kq (by intro e;rw[e]at ha;exact ha rfl)) rfl rfl rfl rfl rfl (by rw[hp];trivial) trivial trivial
 | nP=>unfold Am.aC;rw[hp];exact DT.pX h hi (by intro a ha;exact kq (by intro e;rw[e]at ha;exact ha rfl)) rfl rfl rfl rfl rfl (by rw[hp];trivial) trivial trivial
 | take p c=>unfold Am.aC;rw[hp];exact DT.pX h hi (by intro a ha;exact kq (by intro e;rw[e]at ha;exact ha rfl)) rfl rfl rfl rfl rfl (by rw[hp];trivial) trivial trivial
 | vm j=>unfold Am.aC;rw[hp];exact DT.pX h hi (by intro a ha;exact kq (by intro e;rw[e]at ha;exact ha rfl)) rfl rfl rfl rfl rfl (by rw[hp];trivial) trivial trivial
 | flag=>unfold Am.aC;rw[hp];exact DT.pX h hi (by intro a ha;exact kq (by intro e;rw[e]at ha;exact ha rfl)) rfl rfl rfl rfl rfl (by rw[hp];trivial) trivial trivial
 | sleep=>unfold Am.aC;rw[hp];exact DT.pX h hi (by intro a ha;exact kq (by intro e;rw[e]at ha;exact ha rfl)) rfl rfl rfl rfl rfl (by rw[hp];trivial) trivial trivial
 | Dp j=>unfold Am.aC;rw[hp];exact DT.pX h hi (λ_ _=>rfl) rfl rfl rfl rfl rfl (by rw[hp];trivial) trivial trivial
end
inductive WT | none | full | start | run | fork (c:Nat) | push (c:Nat) | one | out (p c:Nat) | take (p c:Nat)
deriving DecidableEq
def sig:Pc->WT
 | .start _=>.start
 | .run | .DQ | .sW _ | .vm _=>.run
 | .fork c=>.fork c
 | .zP c | .yc c _ | .q9 c _ _ | .rf c _ _ | .grow c _ _ _ | .mS c _ _ _ | .kP c _ _ _ _
 | .j8 c _ _ _ _ _ | .mT c _ _ _ | .jV c _ _ | .n7 c _=>.push c
 | .nP=>.one
 | .out p c=>.out p c
 | .take p c=>.take p c
 | .full=>.full
 | _=>.none
structure V where
 g:Nat->WT
 hold:Nat->Option Nat
 loc:Nat->Loc
 par:Nat->Nat
 nf:Nat
 bt:Nat->List Nat
 q:Nat->List Nat
 pop:Nat->Option Nat
 join:Nat->Int
 mark:Nat->Int
 next:Int
def afr(l:Loc)(n:Int)(k:List Nat):Prop:=
 match l with
 | .waiting=>n=k.length/\k≠[]
 | .uz _ | .sQ _=>n=0/\k=[]
 | _=>n=1+k.length
def early:Loc->Bool
 | .free | .bW _ | .Lc _ | .pop _=>true
 | _=>false
def busy:WT->Bool
 | .start | .run | .fork _ | .push _ | .one=>true
 | _=>false
def rest:WT->Bool
 | .none | .out _ _ | .take _ _=>true
 | _=>false
def O1(N:Nat)(g:Nat->WT)(c:Nat):Loc->Prop
 | .bW j=>j<N/\g j= .fork c
 | _=>False
structure V.FI(N F:Nat)(v:V):Prop where
 zQ:1<=v.nf
 xC:v.nf<=F
 nx:v.next=v.nf∨(v.nf=F/\(F:Int)<=v.next)
 free:∀f,v.nf<=f->v.loc f= .free
 used:∀f,f<v.nf->v.loc f≠.free
 new:∀f,v.nf<=f->v.bt f=[]/\v.join f=1
 hold:∀i f,i<N->v.hold i=some f->(v.g i= .one/\v.loc f= .uz i)∨(v.g i≠.one/\v.loc f= .held i)
 hs:∀i,i<N->busy (v.g i)=true->v.hold i≠.none
 hr:∀i,i<N->rest (v.g i)=true->v.hold i= .none
 fk:∀i c,i<N->v.g i= .fork c->c≠0/\v.loc c= .bW i/\v.hold i=some (v.par c)/\∀p,c∉v.bt p
 ps:∀i c,i<N->v.g i= .push c->c≠0/\v.loc c= .bW i/\v.hold i=some (v.par c)/\c∈v.bt (v.par c)
 q:∀j x,j<N->x∈v.q j->x≠0/\v.loc x= .Lc j
 qn:∀j,j<N->(v.q j).Nodup
 pop:∀i x,i<N->v.pop i=some x->x≠0/\v.loc x= .pop i
 tk:∀i p c,i<N->v.g i= .take p c->v.loc p= .sQ i
 tp:∀i p c,i<N->v.g i= .take p c->c≠0/\c<v.nf/\p=v.par c
 out:∀i p c,i<N->v.g i= .out p c->c≠0/\v.loc c= .fin i/\p=v.par c
 G:∀p,(v.bt p).Nodup
 kd:∀p c,c∈v.bt p->c≠0/\v.par c=p/\v.loc c≠.gone/\v.loc c≠.free
 un:∀c,c≠0->c<v.nf->v.loc c≠.gone->c∈v.bt (v.par c)∨O1 N v.g c (v.loc c)
 pr:∀c,c<v.nf->v.par c<v.nf
 jn:∀f,f<v.nf->afr (v.loc f) (v.join f) (v.bt f)
 zR:∀f,early (v.loc f)=true->v.mark f=0
 y9:∀i f,i<N->v.g i= .start->v.hold i=some f->v.mark f=0
attribute [grind =] cA
attribute [grind] early busy rest
theorem Is{N g c l}:O1 N g c l=match (l:Loc)with | .bW j=>j<N/\g j= .fork c | _=>False:=by cases l<;>rfl
theorem J_d{l n k}:afr l n k=match (l:Loc)with | .waiting=>n=k.length/\k≠[] | .uz _ | .sQ _=>n=0/\k=[] | _=>n=1+(k.length:Int):=by cases l<;>rfl
attribute [grind =] Is J_d
namespace V
variable {N F:Nat}{v:V}{i:Nat}
theorem FI.gL(h:v.FI N F)(hi:i<N){p:WT}(hb:busy p=true)(hg:busy (v.g i)=true)(hp:p= .run∨p= .full)(h1:v.g i≠.one)(hn:∀c,v.g i≠.fork c) :
 FI N F {v with g:=bJ v.g i p} where
 zQ:=h.zQ
 xC:=h.xC
 nx:=h.nx
 free:=h.free
 used:=h.used
 new:=h.new
 hold:=by have:=h.hold;grind
 hs:=by have:=h.hs;grind
 hr:=by have:=h.hr;grind
 fk:=by have:=h.fk;grind
 ps:=by have:=h.ps;grind
 q:=h.q
 qn:=h.qn
 pop:=h.pop
 tk:=by have:=h.tk;grind
 out:=by have:=h.out;grind
 tp:=by have:=h.tp;grind
 G:=h.G
 kd:=h.kd
 un:=by have:=h.un;grind
 pr:=h.pr
 jn:=h.jn
 zR:=h.zR
 y9:=by have:=h.y9;grind
theorem FI.full(h:v.FI N F)(hi:i<N)(hg:busy (v.g i)=true)(h1:v.g i≠.one)(hn:∀c,v.g i≠.fork c) :
 FI N F {v with g:=bJ v.g i .full} where
 zQ:=h.zQ
 xC:=h.xC
 nx:=h.nx
 free:=h.free
 used:=h.used
 new:=h.new
 hold:=by have:=h.hold;grind
 hs:=by have:=h.hs;grind
 hr:=by have:=h.hr;grind
 fk:=by have:=h.fk;grind
 ps:=by have:=h.ps;grind
 q:=h.q
 qn:=h.qn
 pop:=h.pop
 tk:=by have:=h.tk;grind
 out:=by have:=h.out;grind
 tp:=by have:=h.tp;grind
 G:=h.G
 kd:=h.kd
 un:=by have:=h.un;grind
 pr:=h.pr
 jn:=h.jn
 zR:=h.zR
 y9:=by have:=h.y9;grind
theorem FI.start(h:v.FI N F)(hi:i<N)(hg:v.g i= .start){f:Nat}(hf:v.hold i=some f){m:Int} :
 FI N F {v with g:=bJ v.g i .run,mark:=bJ v.mark f m} where
 zQ:=h.zQ
 xC:=h.xC
 nx:=h.nx
 free:=h.free
 used:=h.used
 new:=h.new
 hold:=by have:=h.hold;grind
 hs:=by have:=h.hs;grind
 hr:=by have:=h.hr;grind
 fk:=by have:=h.fk;grind
 ps:=by have:=h.ps;grind
 q:=h.q
 qn:=h.qn
 pop:=h.pop
 tk:=by have:=h.tk;grind
 out:=by have:=h.out;grind
 tp:=by have:=h.tp;grind
 G:=h.G
 kd:=h.kd
 un:=by have:=h.un;grind
 pr:=h.pr
 jn:=h.jn
 zR:=by have:=h.zR;have:=h.hold;grind
 y9:=by have:=h.y9;have:=h.hold;grind
theorem FI.spawn(h:v.FI N F)(hi:i<N)(hg:v.g i= .run){f:Nat}(hf:v.hold i=some f)(hn:v.next<F) :
 FI N F {v with g:=bJ v.g i (.fork v.nf),next:=v.next+1,nf:=v.nf+1,par:=bJ v.par v.nf f,loc:=bJ v.loc v.nf (.bW i)} where
 zQ:=by have:=h.zQ;have:=h.free;have:=h.used;grind
 xC:=by have:=h.xC;have:=h.free;have:=h.used;have:=h.nx;grind
 nx:=by have:=h.nx;have:=h.free;have:=h.used;have:=h.xC;grind
 free:=by have:=h.free;have:=h.used;grind
 used:=by have:=h.used;have:=h.free;grind
 new:=by have:=h.new;have:=h.free;have:=h.used;grind
 hold:=by have:=h.hold;have:=h.free;have:=h.used;grind
 hs:=by have:=h.hs;have:=h.free;have:=h.used;grind
 hr:=by have:=h.hr;have:=h.free;have:=h.used;grind
 fk:=by have:=h.fk;have:=h.free;have:=h.used;have:=h.kd;have:=h.new;have:=h.hold;grind
 ps:=by have:=h.ps;have:=h.free;have:=h.used;have:=h.kd;grind
 q:=by have:=h.q;have:=h.free;have:=h.used;grind
 qn:=h.qn
 pop:=by have:=h.pop;have:=h.free;have:=h.used;grind
 tk:=by have:=h.tk;have:=h.free;have:=h.used;grind
 out:=by have:=h.out;have:=h.free;have:=h.used;have:=h.pr;grind
 tp:=by have:=h.tp;have:=h.free;have:=h.used;grind
 G:=h.G
 kd:=by have:=h.kd;have:=h.free;have:=h.used;have:=h.new;grind
 un:=by have:=h.un;have:=h.free;have:=h.used;grind
 pr:=by have:=h.pr;have:=h.free;have:=h.used;have:=h.hold;grind
 jn:=by have:=h.jn;have:=h.free;have:=h.used;have:=h.new;grind
 zR:=by have:=h.zR;have:=h.free;have:=h.used;grind
 y9:=by have:=h.y9;have:=h.free;have:=h.used;grind
theorem FI.AE(h:v.FI N F)(hi:i<N)(hg:v.g i= .run)(hn:(F:Int)<=v.next) :
 FI N F {v with g:=bJ v.g i .full,next:=v.next+1} where
 zQ:=h.zQ
 xC:=h.xC
 nx:=by have:=h.nx;have:=h.xC;grind
 free:=h.free
 used:=h.used
 new:=h.new
 hold:=by have:=h.hold;grind
 hs:=by have:=h.hs;grind
 hr:=by have:=h.hr;grind
 fk:=by have:=h.fk;grind
 ps:=by have:=h.ps;grind
 q:=h.q
 qn:=h.qn
 pop:=h.pop
 tk:=by have:=h.tk;grind
 out:=by have:=h.out;grind
 tp:=by have:=h.tp;grind
 G:=h.G
 kd:=h.kd
 un:=by have:=h.un;grind
 pr:=h.pr
 jn:=h.jn
 zR:=h.zR
 y9:=by have:=h.y9;grind
theorem FI.fork(h:v.FI N F)(hi:i<N){c f:Nat}(hg:v.g i= .fork c)(hf:v.hold i=some f) :
 FI N F {v with g:=bJ v.g i (.push c),join:=bJ v.join f (v.join f+1),bt:=bJ v.bt f (c::v.bt f)} where
 zQ:=h.zQ
 xC:=h.xC
 nx:=h.nx
 free:=h.free
 used:=h.used
 new:=by have:=h.new;have:=h.fk;have:=h.hold;have:=h.free;grind
 hold:=by have:=h.hold;have:=h.fk;grind
 hs:=by have:=h.hs;have:=h.fk;have:=h.hold;grind
 hr:=by have:=h.hr;have:=h.fk;have:=h.hold;grind
 fk:=by have:=h.fk;have:=h.hold;grind
 ps:=by have:=h.ps;have:=h.fk;have:=h.hold;grind
 q:=h.q
 qn:=h.qn
 pop:=h.pop
 tk:=by have:=h.tk;have:=h.fk;have:=h.hold;grind
 out:=by have:=h.out;have:=h.fk;have:=h.hold;grind
 tp:=by have:=h.tp;have:=h.fk;have:=h.hold;grind
 G:=by have:=h.G;have:=h.fk;have:=h.hold;grind
 kd:=by have:=h.kd;have:=h.fk;have:=h.hold;grind
 un:=by have:=h.un;have:=h.fk;have:=h.hold;grind
 pr:=h.pr
 jn:=by have:=h.jn;have:=h.fk;have:=h.hold;grind
 zR:=h.zR
 y9:=by have:=h.y9;have:=h.fk;have:=h.hold;grind
theorem FI.push(h:v.FI N F)(hi:i<N){c:Nat}(hg:v.g i= .push c) :
 FI N F {v with g:=bJ v.g i .run,q:=bJ v.q i (v.q i++[c]),loc:=bJ v.loc c (.Lc i)} where
 zQ:=h.zQ
 xC:=h.xC
 nx:=h.nx
 free:=by have:=h.free;have:=h.ps;grind
 used:=by have:=h.used;have:=h.ps;grind
 new:=h.new
 hold:=by have:=h.hold;have:=h.ps;grind
 hs:=by have:=h.hs;have:=h.ps;grind
 hr:=by have:=h.hr;have:=h.ps;grind
 fk:=by have:=h.fk;have:=h.ps;grind
 ps:=by have:=h.ps;grind
 q:=by have:=h.q;have:=h.ps;grind
 qn:=by have:=h.qn;have:=h.ps;have:=h.q;grind
 pop:=by have:=h.pop;have:=h.ps;grind
 tk:=by have:=h.tk;have:=h.ps;grind
 out:=by have:=h.out;have:=h.ps;grind
 tp:=by have:=h.tp;have:=h.ps;grind
 G:=h.G
 kd:=by have:=h.kd;have:=h.ps;grind
 un:=by have:=h.un;have:=h.ps;have:=h.hold;grind
 pr:=h.pr
 jn:=by have:=h.jn;have:=h.ps;grind
 zR:=by have:=h.zR;have:=h.ps;grind
 y9:=by have:=h.y9;have:=h.ps;have:=h.hold;grind
theorem FI.wait(h:v.FI N F)(hi:i<N){f:Nat}(hg:v.g i= .run)(hf:v.hold i=some f)(hk:0<v.join f-1) :
 FI N F {v with g:=bJ v.g i .none,hold:=bJ v.hold i none,join:=bJ v.join f (v.join f-1),loc:=bJ v.loc f .waiting} where
 zQ:=h.zQ
 xC:=h.xC
 nx:=h.nx
 free:=by have:=h.free;have:=h.hold;grind
 used:=by have:=h.used;have:=h.hold;grind
 new:=by have:=h.new;have:=h.hold;have:=h.free;grind
 hold:=by have:=h.hold;grind
 hs:=by have:=h.hs;have:=h.hold;grind
 hr:=by have:=h.hr;have:=h.hold;grind
 fk:=by have:=h.fk;have:=h.hold;grind
 ps:=by have:=h.ps;have:=h.hold;grind
 q:=by have:=h.q;have:=h.hold;grind
 qn:=h.qn
 pop:=by have:=h.pop;have:=h.hold;grind
 tk:=by have:=h.tk;have:=h.hold;grind
 out:=by have:=h.out;have:=h.hold;grind
 tp:=by have:=h.tp;have:=h.hold;grind
 G:=h.G
 kd:=by have:=h.kd;have:=h.hold;grind
 un:=by have:=h.un;have:=h.hold;grind
 pr:=h.pr
 jn:=by have:=h.jn;have:=h.hold;grind
 zR:=by have:=h.zR;have:=h.hold;grind
 y9:=by have:=h.y9;have:=h.hold;grind
theorem FI.pass(h:v.FI N F)(hi:i<N){f:Nat}(hg:v.g i= .run)(hf:v.hold i=some f)(hk:¬0<v.join f-1) :
 FI N F {v with g:=bJ v.g i .one,join:=bJ v.join f (v.join f-1),loc:=bJ v.loc f (.uz i)} where
 zQ:=h.zQ
 xC:=h.xC
 nx:=h.nx
 free:=by have:=h.free;have:=h.hold;grind
 used:=by have:=h.used;have:=h.hold;grind
 new:=by have:=h.new;have:=h.hold;have:=h.free;grind
 hold:=by have:=h.hold;grind
 hs:=by have:=h.hs;have:=h.hold;grind
 hr:=by have:=h.hr;have:=h.hold;grind
 fk:=by have:=h.fk;have:=h.hold;grind
 ps:=by have:=h.ps;have:=h.hold;grind
 q:=by have:=h.q;have:=h.hold;grind
 qn:=h.qn
 pop:=by have:=h.pop;have:=h.hold;grind
 tk:=by have:=h.tk;have:=h.hold;grind
 out:=by have:=h.out;have:=h.hold;grind
 tp:=by have:=h.tp;have:=h.hold;grind
 G:=h.G
 kd:=by have:=h.kd;have:=h.hold;grind
 un:=by have:=h.un;have:=h.hold;grind
 pr:=h.pr
 jn:=by have:=h.jn;have:=h.hold;grind [List.length_eq_zero_iff]
 zR:=by have:=h.zR;have:=h.hold;grind
 y9:=by have:=h.y9;have:=h.hold;grind
theorem FI.one(h:v.FI N F)(hi:i<N){f:Nat}(hg:v.g i= .one)(hf:v.hold i=some f) :
 FI N F {v with g:=bJ v.g i .run,join:=bJ v.join f 1,loc:=bJ v.loc f (.held i)} where
 zQ:=h.zQ
 xC:=h.xC
 nx:=h.nx
 free:=by have:=h.free;have:=h.hold;grind
 used:=by have:=h.used;have:=h.hold;grind
 new:=by have:=h.new;have:=h.hold;have:=h.free;grind
 hold:=by have:=h.hold;grind
 hs:=by have:=h.hs;have:=h.hold;grind
 hr:=by have:=h.hr;have:=h.hold;grind
 fk:=by have:=h.fk;have:=h.hold;grind
 ps:=by have:=h.ps;have:=h.hold;grind
 q:=by have:=h.q;have:=h.hold;grind
 qn:=h.qn
 pop:=by have:=h.pop;have:=h.hold;grind
 tk:=by have:=h.tk;have:=h.hold;grind
 out:=by have:=h.out;have:=h.hold;grind
 tp:=by have:=h.tp;have:=h.hold;grind
 G:=h.G
 kd:=by have:=h.kd;have:=h.hold;grind
 un:=by have:=h.un;have:=h.hold;grind
 pr:=h.pr
 jn:=by have:=h.jn;have:=h.hold;grind
 zR:=by have:=h.zR;have:=h.hold;grind
 y9:=by have:=h.y9;have:=h.hold;grind
theorem FI.It(h:v.FI N F)(hi:i<N)(hg:v.g i= .run)(hf:v.hold i=some 0) :
 FI N F {v with g:=bJ v.g i .none,hold:=bJ v.hold i none,loc:=bJ v.loc 0 (.fin i)} where
 zQ:=h.zQ
 xC:=h.xC
 nx:=h.nx
 free:=by have:=h.free;have:=h.hold;grind
 used:=by have:=h.used;have:=h.hold;grind
 new:=h.new
 hold:=by have:=h.hold;grind
 hs:=by have:=h.hs;have:=h.hold;grind
 hr:=by have:=h.hr;have:=h.hold;grind
 fk:=by have:=h.fk;have:=h.hold;grind
 ps:=by have:=h.ps;have:=h.hold;grind
 q:=by have:=h.q;have:=h.hold;grind
 qn:=h.qn
 pop:=by have:=h.pop;have:=h.hold;grind
 tk:=by have:=h.tk;have:=h.hold;grind
 out:=by have:=h.out;have:=h.hold;grind
 tp:=by have:=h.tp;have:=h.hold;grind
 G:=h.G
 kd:=by have:=h.kd;have:=h.hold;grind
 un:=by have:=h.un;have:=h.hold;grind
 pr:=h.pr
 jn:=by have:=h.jn;have:=h.hold;grind
 zR:=by have:=h.zR;have:=h.hold;grind
 y9:=by have:=h.y9;have:=h.hold;grind
theorem FI.ret(h:v.FI N F)(hi:i<N)(hg:v.g i= .run){f:Nat}(hf:v.hold i=some f)(h0:f≠0) :
 FI N F {v with g:=bJ v.g i (.out (v.par f) f),hold:=bJ v.hold i none,loc:=bJ v.loc f (.fin i)} where
 zQ:=h.zQ
 xC:=h.xC
 nx:=h.nx
 free:=by have:=h.free;have:=h.hold;grind
 used:=by have:=h.used;have:=h.hold;grind
 new:=h.new
 hold:=by have:=h.hold;grind
 hs:=by have:=h.hs;have:=h.hold;grind
 hr:=by have:=h.hr;have:=h.hold;grind
 fk:=by have:=h.fk;have:=h.hold;grind
 ps:=by have:=h.ps;have:=h.hold;grind
 q:=by have:=h.q;have:=h.hold;grind
 qn:=h.qn
 pop:=by have:=h.pop;have:=h.hold;grind
 tk:=by have:=h.tk;have:=h.hold;grind
 out:=by have:=h.out;have:=h.hold;grind
 tp:=by have:=h.tp;have:=h.hold;grind
 G:=h.G
 kd:=by have:=h.kd;have:=h.hold;grind
 un:=by have:=h.un;have:=h.hold;grind
 pr:=h.pr
 jn:=by have:=h.jn;have:=h.hold;grind
 zR:=by have:=h.zR;have:=h.hold;grind
 y9:=by have:=h.y9;have:=h.hold;grind
theorem FI.gU(h:v.FI N F)(hi:i<N){p c:Nat}(hg:v.g i= .out p c):c∈v.bt p/\c<v.nf/\p<v.nf/\p=v.par c/\v.loc c= .fin i/\c≠0:=by
 have z0:=h.out i p c hi hg;have z1:=h.free c;have z2:=h.un c;have z3:=h.pr c;grind
theorem FI.ie(h:v.FI N F)(hi:i<N){p c:Nat}(hg:v.g i= .out p c)(hn:v.join p-1=0):v.loc p= .waiting/\v.bt p=[c]/\p≠c:=by
 obtain⟨a1,a2,a3,a4,a5,a6⟩:=h.gU hi hg;have z:=h.jn p a3;rw[J_d]at z;have hl:0<(v.bt p).length:=List.length_pos_of_mem a1;split at z
 ·rename_i hw;refine⟨hw,?_,?_⟩
  ·have:(v.bt p).length=1:=by omega
   obtain⟨y,hy⟩:=List.length_eq_one_iff.1 this;rw[hy]at a1⊢;rw[List.mem_singleton.1 a1]
  ·rintro rfl;rw[hw]at a5;cases a5
 ·rw[z.2]at a1;cases a1
 ·rw[z.2]at a1;cases a1
 ·omega
theorem FI.Lm(h:v.FI N F)(hi:i<N){p c:Nat}(hg:v.g i= .out p c)(hn:v.join p-1≠0) :
 FI N F {v with g:=bJ v.g i .none,join:=bJ v.join p (v.join p-1),bt:=bJ v.bt p ((v.bt p).erase c),loc:=bJ v.loc c .gone} where
 zQ:=h.zQ
 xC:=h.xC
 nx:=h.nx
 free:=by have y1:=h.gU hi hg;have:=h.free;have:=h.out;grind [List.length_erase_of_mem,List.Nodup.mem_erase_iff,List.Nodup.erase,List.length_eq_zero_iff]
 used:=by have y1:=h.gU hi hg;have:=h.used;have:=h.out;grind [List.length_erase_of_mem,List.Nodup.mem_erase_iff,List.Nodup.erase,List.length_eq_zero_iff]
 new:=by have y1:=h.gU hi hg;have:=h.new;have:=h.out;have:=h.free;grind [List.length_erase_of_mem,List.Nodup.mem_erase_iff,List.Nodup.erase,List.length_eq_zero_iff]
 hold:=by have y1:=h.gU hi hg;have:=h.hold;have:=h.out;grind [List.length_erase_of_mem,List.Nodup.mem_erase_iff,List.Nodup.erase,List.length_eq_zero_iff]
 hs:=by have y1:=h.gU hi hg;have:=h.hs;have:=h.out;grind [List.length_erase_of_mem,List.Nodup.mem_erase_iff,List.Nodup.erase,List.length_eq_zero_iff]
 hr:=by have y1:=h.gU hi hg;have:=h.hr;have:=h.out;grind [List.length_erase_of_mem,List.Nodup.mem_erase_iff,List.Nodup.erase,List.length_eq_zero_iff]
 fk:=by have y1:=h.gU hi hg;have:=h.fk;have:=h.out;grind [List.length_erase_of_mem,List.Nodup.mem_erase_iff,List.Nodup.erase,List.length_eq_zero_iff]
 ps:=by have y1:=h.gU hi hg;have:=h.ps;have:=h.out;grind [List.length_erase_of_mem,List.Nodup.mem_erase_iff,List.Nodup.erase,List.length_eq_zero_iff]
 q:=by have y1:=h.gU hi hg;have:=h.q;have:=h.out;grind [List.length_erase_of_mem,List.Nodup.mem_erase_iff,List.Nodup.erase,List.length_eq_zero_iff]
 qn:=h.qn
 pop:=by have y1:=h.gU hi hg;have:=h.pop;have:=h.out;grind [List.length_erase_of_mem,List.Nodup.mem_erase_iff,List.Nodup.erase,List.length_eq_zero_iff]
 tk:=by have y1:=h.gU hi hg;have:=h.tk;have:=h.out;grind [List.length_erase_of_mem,List.Nodup.mem_erase_iff,List.Nodup.erase,List.length_eq_zero_iff]
 out:=by have y1:=h.gU hi hg;have:=h.out;grind [List.length_erase_of_mem,List.Nodup.mem_erase_iff,List.Nodup.erase,List.length_eq_zero_iff]
 tp:=by have y1:=h.gU hi hg;have:=h.tp;have:=h.out;grind [List.length_erase_of_mem,List.Nodup.mem_erase_iff,List.Nodup.erase,List.length_eq_zero_iff]
 G:=by have y1:=h.gU hi hg;have:=h.G;have:=h.out;grind [List.length_erase_of_mem,List.Nodup.mem_erase_iff,List.Nodup.erase,List.length_eq_zero_iff]
 kd:=by have y1:=h.gU hi hg;have:=h.kd;have:=h.out;have:=h.G;grind [List.length_erase_of_mem,List.Nodup.mem_erase_iff,List.Nodup.erase,List.length_eq_zero_iff]
 un:=λx h0 hxn hl=>by
  have hne:x≠c:=by rintro rfl;exact hl (aF _ _ _)
  have hl':bJ v.loc c .gone x=v.loc x:=aA hne;show x∈bJ v.bt p ((v.bt p).erase c) (v.par x)∨O1 N (bJ v.g i .none) x (bJ v.loc c .gone x);change bJ v.loc c .gone x≠.gone at hl;rw[hl']at hl⊢;rcases h.un x h0 hxn hl with a | a
  ·left;rw[cA];split
   ·next e=>exact(List.mem_erase_of_ne hne).2 (e▸ a)
   ·exact a
  ·right;clear hl';revert a;cases v.loc x<;>grind
 pr:=h.pr
 jn:=by have y1:=h.gU hi hg;have:=h.jn;have:=h.out;have:=h.G;grind [List.length_erase_of_mem,List.Nodup.mem_erase_iff,List.Nodup.erase,List.length_eq_zero_iff]
 zR:=by have y1:=h.gU hi hg;have:=h.zR;have:=h.out;grind [List.length_erase_of_mem,List.Nodup.mem_erase_iff,List.Nodup.erase,List.length_eq_zero_iff]
 y9:=by have y1:=h.gU hi hg;have:=h.y9;have:=h.out;grind [List.length_erase_of_mem,List.Nodup.mem_erase_iff,List.Nodup.erase,List.length_eq_zero_iff]
theorem FI.JJ(h:v.FI N F)(hi:i<N){p c:Nat}(hg:v.g i= .out p c)(hn:v.join p-1=0) :
 FI N F {v with g:=bJ v.g i (.take p c),join:=bJ v.join p (v.join p-1),bt:=bJ v.bt p ((v.bt p).erase c),loc:=bJ (bJ v.loc c .gone) p (.sQ i)} where
 zQ:=h.zQ
 xC:=h.xC
 nx:=h.nx
 free:=by have y1:=h.gU hi hg;have y2:=h.ie hi hg hn;have:=h.free;grind [List.erase_cons_head]
 used:=by have y1:=h.gU hi hg;have y2:=h.ie hi hg hn;have:=h.used;grind [List.erase_cons_head]
 new:=by have y1:=h.gU hi hg;have y2:=h.ie hi hg hn;have:=h.new;have:=h.free;grind [List.erase_cons_head]
 hold:=by have y1:=h.gU hi hg;have y2:=h.ie hi hg hn;have:=h.hold;grind [List.erase_cons_head]
 hs:=by have y1:=h.gU hi hg;have y2:=h.ie hi hg hn;have:=h.hs;grind [List.erase_cons_head]
 hr:=by have y1:=h.gU hi hg;have y2:=h.ie hi hg hn;have:=h.hr;grind [List.erase_cons_head]
 fk:=by have y1:=h.gU hi hg;have y2:=h.ie hi hg hn;have:=h.fk;grind [List.erase_cons_head]
 ps:=by have y1:=h.gU hi hg;have y2:=h.ie hi hg hn;have:=h.ps;grind [List.erase_cons_head]
 q:=by have y1:=h.gU hi hg;have y2:=h.ie hi hg hn;have:=h.q;grind [List.erase_cons_head]
 qn:=h.qn
 pop:=by have y1:=h.gU hi hg;have y2:=h.ie hi hg hn;have:=h.pop;grind [List.erase_cons_head]
 tk:=by have y1:=h.gU hi hg;have y2:=h.ie hi hg hn;have:=h.tk;grind [List.erase_cons_head]
 out:=by have y1:=h.gU hi hg;have y2:=h.ie hi hg hn;have:=h.out;grind [List.erase_cons_head]
 tp:=by have y1:=h.gU hi hg;have y2:=h.ie hi hg hn;have:=h.tp;grind [List.erase_cons_head]
 G:=by have y1:=h.gU hi hg;have y2:=h.ie hi hg hn;have:=h.G;grind [List.erase_cons_head]
 kd:=by have y1:=h.gU hi hg;have y2:=h.ie hi hg hn;have:=h.kd;grind [List.erase_cons_head]
 un:=by have y1:=h.gU hi hg;have y2:=h.ie hi hg hn;have:=h.un;have:=h.kd;grind [List.erase_cons_head]
 pr:=h.pr
 jn:=by have y1:=h.gU hi hg;have y2:=h.ie hi hg hn;have:=h.jn;grind [List.erase_cons_head]
 zR:=by have y1:=h.gU hi hg;have y2:=h.ie hi hg hn;have:=h.zR;grind [List.erase_cons_head]
 y9:=by have y1:=h.gU hi hg;have y2:=h.ie hi hg hn;have:=h.y9;grind [List.erase_cons_head]
theorem FI.take(h:v.FI N F)(hi:i<N){p c:Nat}(hg:v.g i= .take p c) :
 FI N F {v with g:=bJ v.g i .run,hold:=bJ v.hold i (some p),join:=bJ v.join p 1,loc:=bJ v.loc p (.held i)} where
 zQ:=h.zQ
 xC:=h.xC
 nx:=h.nx
 free:=by have:=h.free;have:=h.tk;have:=h.hold;grind
 used:=by have:=h.used;have:=h.tk;have:=h.hold;grind
 new:=by have:=h.new;have:=h.tk;have:=h.hold;have:=h.free;grind
 hold:=by have:=h.hold;have:=h.tk;grind
 hs:=by have:=h.hs;have:=h.tk;have:=h.hold;grind
 hr:=by have:=h.hr;have:=h.tk;have:=h.hold;grind
 fk:=by have:=h.fk;have:=h.tk;have:=h.hold;grind
 ps:=by have:=h.ps;have:=h.tk;have:=h.hold;grind
 q:=by have:=h.q;have:=h.tk;have:=h.hold;grind
 qn:=h.qn
 pop:=by have:=h.pop;have:=h.tk;have:=h.hold;grind
 tk:=by have:=h.tk;have:=h.hold;grind
 out:=by have:=h.out;have:=h.tk;have:=h.hold;grind
 tp:=by have:=h.tp;have:=h.tk;have:=h.hold;grind
 G:=h.G
 kd:=by have:=h.kd;have:=h.tk;have:=h.hold;grind
 un:=by have:=h.un;have:=h.tk;have:=h.hold;grind
 pr:=h.pr
 jn:=by have:=h.jn;have:=h.tk;have:=h.hold;grind
 zR:=by have:=h.zR;have:=h.tk;have:=h.hold;grind
 y9:=by have:=h.y9;have:=h.tk;have:=h.hold;grind
theorem FI.nH(h:v.FI N F)(hi:i<N){x:Nat}{l:List Nat}(hg:v.g i= .none)(hq:v.q i=l++[x]) :
 FI N F {v with q:=bJ v.q i l,loc:=bJ v.loc x (.pop i),pop:=bJ v.pop i (some x)} where
 zQ:=h.zQ
 xC:=h.xC
 nx:=h.nx
 free:=by have:=h.free;have:=h.q;grind [List.nodup_append]
 used:=by have:=h.used;have:=h.q;grind [List.nodup_append]
 new:=h.new
 hold:=by have:=h.hold;have:=h.q;grind [List.nodup_append]
 hs:=h.hs
 hr:=h.hr
 fk:=by have:=h.fk;have:=h.q;grind [List.nodup_append]
 ps:=by have:=h.ps;have:=h.q;grind [List.nodup_append]
 q:=by have:=h.q;have:=h.qn;grind [List.nodup_append]
 qn:=by have:=h.qn;have:=h.q;grind [List.nodup_append]
 pop:=by have:=h.pop;have:=h.q;grind [List.nodup_append]
 tk:=by have:=h.tk;have:=h.q;grind [List.nodup_append]
 out:=by have:=h.out;have:=h.q;grind [List.nodup_append]
 tp:=h.tp
 G:=h.G
 kd:=by have:=h.kd;have:=h.q;grind [List.nodup_append]
 un:=by have:=h.un;have:=h.q;grind [List.nodup_append]
 pr:=h.pr
 jn:=by have:=h.jn;have:=h.q;grind [List.nodup_append]
 zR:=by have:=h.zR;have:=h.q;grind [List.nodup_append]
 y9:=h.y9
theorem FI.Np(h:v.FI N F)(hi:i<N){x:Nat}(hg:v.g i= .none)(hq:v.q i=[x]) :
 FI N F {v with q:=bJ v.q i [],loc:=bJ v.loc x (.pop i),pop:=bJ v.pop i (some x)} where
 zQ:=h.zQ
 xC:=h.xC
 nx:=h.nx
 free:=by have:=h.free;have:=h.q;grind
 used:=by have:=h.used;have:=h.q;grind
 new:=h.new
 hold:=by have:=h.hold;have:=h.q;grind
 hs:=h.hs
 hr:=h.hr
 fk:=by have:=h.fk;have:=h.q;grind
 ps:=by have:=h.ps;have:=h.q;grind
 q:=by have:=h.q;have:=h.qn;grind
 qn:=by have:=h.qn;have:=h.q;grind
 pop:=by have:=h.pop;have:=h.q;grind
 tk:=by have:=h.tk;have:=h.q;grind
 out:=by have:=h.out;have:=h.q;grind
 tp:=h.tp
 G:=h.G
 kd:=by have:=h.kd;have:=h.q;grind
 un:=by have:=h.un;have:=h.q;grind
 pr:=h.pr
 jn:=by have:=h.jn;have:=h.q;grind
 zR:=by have:=h.zR;have:=h.q;grind
 y9:=h.y9
theorem FI.got(h:v.FI N F)(hi:i<N){x:Nat}(hg:v.g i= .none)(hx:v.pop i=some x) :
 FI N F {v with g:=bJ v.g i .start,hold:=bJ v.hold i (some x),loc:=bJ v.loc x (.held i),pop:=bJ v.pop i none} where
 zQ:=h.zQ
 xC:=h.xC
 nx:=h.nx
 free:=by have:=h.free;have:=h.pop;grind
 used:=by have:=h.used;have:=h.pop;grind
 new:=h.new
 hold:=by have:=h.hold;have:=h.pop;grind
 hs:=by have:=h.hs;have:=h.pop;grind
 hr:=by have:=h.hr;have:=h.pop;grind
 fk:=by have:=h.fk;have:=h.pop;grind
 ps:=by have:=h.ps;have:=h.pop;grind
 q:=by have:=h.q;have:=h.pop;grind
 qn:=h.qn
 pop:=by have:=h.pop;grind
 tk:=by have:=h.tk;have:=h.pop;grind
 out:=by have:=h.out;have:=h.pop;grind
 tp:=by have:=h.tp;have:=h.pop;grind
 G:=h.G
 kd:=by have:=h.kd;have:=h.pop;grind
 un:=by have:=h.un;have:=h.pop;grind
 pr:=h.pr
 jn:=by have:=h.jn;have:=h.pop;grind
 zR:=by have:=h.zR;have:=h.pop;grind
 y9:=by have:=h.y9;have:=h.pop;have:=h.zR;have:=h.hold;grind
theorem FI.EM(h:v.FI N F)(hi:i<N){x w:Nat}{l:List Nat}(hw:w<N)(hg:v.g i= .none)(hx:v.q w=x::l) :
 FI N F {v with g:=bJ v.g i .start,hold:=bJ v.hold i (some x),loc:=bJ v.loc x (.held i),q:=bJ v.q w l} where
 zQ:=h.zQ
 xC:=h.xC
 nx:=h.nx
 free:=by have:=h.free;have:=h.q;grind [List.nodup_cons]
 used:=by have:=h.used;have:=h.q;grind [List.nodup_cons]
 new:=h.new
 hold:=by have:=h.hold;have:=h.q;grind [List.nodup_cons]
 hs:=by have:=h.hs;have:=h.q;grind [List.nodup_cons]
 hr:=by have:=h.hr;have:=h.q;grind [List.nodup_cons]
 fk:=by have:=h.fk;have:=h.q;grind [List.nodup_cons]
 ps:=by have:=h.ps;have:=h.q;grind [List.nodup_cons]
 q:=by have:=h.q;have:=h.qn;grind [List.nodup_cons]
 qn:=by have:=h.qn;have:=h.q;grind [List.nodup_cons]
 pop:=by have:=h.pop;have:=h.q;grind [List.nodup_cons]
 tk:=by have:=h.tk;have:=h.q;grind [List.nodup_cons]
 out:=by have:=h.out;have:=h.q;grind [List.nodup_cons]
 tp:=by have:=h.tp;have:=h.q;grind [List.nodup_cons]
 G:=h.G
 kd:=by have:=h.kd;have:=h.q;grind [List.nodup_cons]
 un:=by have:=h.un;have:=h.q;grind [List.nodup_cons]
 pr:=h.pr
 jn:=by have:=h.jn;have:=h.q;grind [List.nodup_cons]
 zR:=by have:=h.zR;have:=h.q;grind [List.nodup_cons]
 y9:=by have:=h.y9;have:=h.q;have:=h.zR;have:=h.hold;grind [List.nodup_cons]
end V
def view(s:St):V:=⟨λi=>sig (s.pc i),s.hold,s.loc,λf=>(s.fr f).par,s.nf,s.bt,s.q,s.pop,λf=>s.mem (.join f),λf=>s.mem (.mark f),s.mem .next⟩
theorem rL{α β:Type}[DecidableEq α](f:α->β)(a:α):bJ f a (f a)=f:=by
 funext x;simp only[cA];split
 ·next e=>rw[e]
 ·rfl
def tF.fra:tF->Bool
 | .join _ | .mark _ | .next=>true
 | _=>false
structure afU where
 v:V
 k8:Nat->Int
 kc:Nat->Nat
 fx:Nat->Int
def wL:Pc->Int
 | .start x=>x
 | _=>0
def wv(s:St):afU:=⟨view s,λf=>(s.fr f).k8,λf=>(s.fr f).bt,λi=>wL (s.pc i)⟩
def quiet:Option Ev->Bool
 | none=>true
 | some x=>x.kind==3||x.kind==9||x.kind==10
inductive Tr(C:jt)(i:Nat)(w:afU):Option Ev->afU->Prop
 | gL (e:Option Ev) (he:quiet e=true):Tr C i w e w
 | full (c:Nat) (hg:w.v.g i= .push c):Tr C i w (ev 11 c 1 0) {w with v:={w.v with g:=bJ w.v.g i .full}}
 | start (f:Nat) (hg:w.v.g i= .start) (hf:w.v.hold i=some f):Tr C i w (ev 1 f (w.fx i) (w.v.mark f+1))
  { w with v:={w.v with g:=bJ w.v.g i .run,mark:=bJ w.v.mark f (w.v.mark f+1)},fx:=bJ w.fx i 0}
 | spawn (f:Nat) (hg:w.v.g i= .run) (hf:w.v.hold i=some f) (hn:w.v.next<C.F):Tr C i w none
  { w with v:={w.v with g:=bJ w.v.g i (.fork w.v.nf),next:=w.v.next+1,nf:=w.v.nf+1,par:=bJ w.v.par w.v.nf f,loc:=bJ w.v.loc w.v.nf (.bW i)},k8:=bJ w.k8 w.v.nf (C.pd (w.k8 f) (w.kc f)),kc:=bJ (bJ w.kc f (w.kc f+1)) w.v.nf 0}
 | AE (hg:w.v.g i= .run) (hn:(C.F:Int)<=w.v.next):Tr C i w (ev 11 (-1) 0 0) {w with v:={w.v with g:=bJ w.v.g i .full,next:=w.v.next+1}}
 | fork (c f:Nat) (hg:w.v.g i= .fork c) (hf:w.v.hold i=some f):Tr C i w none
  { w with v:={w.v with g:=bJ w.v.g i (.push c),join:=bJ w.v.join f (w.v.join f+1),bt:=bJ w.v.bt f (c::w.v.bt f)}}
 | push (c f:Nat) (hg:w.v.g i= .push c) (hf:w.v.hold i=some f):Tr C i w (ev 2 c f (w.k8 c)) {w with v:={w.v with g:=bJ w.v.g i .run,q:=bJ w.v.q i (w.v.q i++[c]),loc:=bJ w.v.loc c (.Lc i)}}
 | wait (f:Nat) (hg:w.v.g i= .run) (hf:w.v.hold i=some f) (hk:0<w.v.join f-1):Tr C i w (ev 4 f 0 0)
  { w with v:={w.v with g:=bJ w.v.g i .none,hold:=bJ w.v.hold i none,join:=bJ w.v.join f (w.v.join f-1),loc:=bJ w.v.loc f .waiting}}
 | pass (f:Nat) (hg:w.v.g i= .run) (hf:w.v.hold i=some f) (hk:¬0<w.v.join f-1):Tr C i w none
  { w with v:={w.v with g:=bJ w.v.g i .one,join:=bJ w.v.join f (w.v.join f-1),loc:=bJ w.v.loc f (.uz i)}}
 | one (f:Nat) (hg:w.v.g i= .one) (hf:w.v.hold i=some f):Tr C i w (ev 5 f 0 0)
  { w with v:={w.v with g:=bJ w.v.g i .run,join:=bJ w.v.join f 1,loc:=bJ w.v.loc f (.held i)}}
 | It (v:Int) (hg:w.v.g i= .run) (hf:w.v.hold i=some 0):Tr C i w (ev 6 0 (-1) v)
  { w with v:={w.v with g:=bJ w.v.g i .none,hold:=bJ w.v.hold i none,loc:=bJ w.v.loc 0 (.fin i)}}
 | ret (f:Nat) (v:Int) (hg:w.v.g i= .run) (hf:w.v.hold i=some f) (h0:f≠0):Tr C i w (ev 6 f (w.v.par f) v)
  { w with v:={w.v with g:=bJ w.v.g i (.out (w.v.par f) f),hold:=bJ w.v.hold i none,loc:=bJ w.v.loc f (.fin i)}}
 | Lm (p c:Nat) (hg:w.v.g i= .out p c) (hn:w.v.join p-1≠0):Tr C i w none
  { w with v:={w.v with g:=bJ w.v.g i .none,join:=bJ w.v.join p (w.v.join p-1),bt:=bJ w.v.bt p ((w.v.bt p).erase c),loc:=bJ w.v.loc c .gone}}
 | JJ (p c:Nat) (hg:w.v.g i= .out p c) (hn:w.v.join p-1=0):Tr C i w none
  { w with v:={w.v with g:=bJ w.v.g i (.take p c),join:=bJ w.v.join p (w.v.join p-1),bt:=bJ w.v.bt p ((w.v.bt p).erase c),loc:=bJ (bJ w.v.loc c .gone) p (.sQ i)}}
 | take (p c:Nat) (hg:w.v.g i= .take p c):Tr C i w (ev 7 p c 0)
  { w with v:={w.v with g:=bJ w.v.g i .run,hold:=bJ w.v.hold i (some p),join:=bJ w.v.join p 1,loc:=bJ w.v.loc p (.held i)}}
 | nH (x:Nat) (l:List Nat) (hg:w.v.g i= .none) (hq:w.v.q i=l++[x]):Tr C i w none {w with v:={w.v with q:=bJ w.v.q i l,loc:=bJ w.v.loc x (.pop i),pop:=bJ w.v.pop i (some x)}}
 | Np (x:Nat) (hg:w.v.g i= .none) (hq:w.v.q i=[x]):Tr C i w none {w with v:={w.v with q:=bJ w.v.q i [],loc:=bJ w.v.loc x (.pop i),pop:=bJ w.v.pop i (some x)}}
 | got (x:Nat) (hg:w.v.g i= .none) (hx:w.v.pop i=some x):Tr C i w none
  { w with v:={w.v with g:=bJ w.v.g i .start,hold:=bJ w.v.hold i (some x),loc:=bJ w.v.loc x (.held i),pop:=bJ w.v.pop i none},fx:=bJ w.fx i (-1)}
 | EM (k x:Nat) (l:List Nat) (hk:k<C.N) (J0:k≠i) (hg:w.v.g i= .none) (hx:w.v.q k=x::l):Tr C i w (ev 8 x k 0)
  { w with v:={w.v with g:=bJ w.v.g i .start,hold:=bJ w.v.hold i (some x),loc:=bJ w.v.loc x (.held i),q:=bJ w.v.q k l},fx:=bJ w.fx i k}
theorem Tr.fi{C:jt}{i:Nat}{w w':afU}{e:Option Ev}(t:Tr C i w e w')(hi:i<C.N)(h:w.v.FI C.N C.F):w'.v.FI C.N C.F:=by
 cases t with
 | gL _=>exact h
 | full c hg=>exact h.full hi (by rw[hg];rfl) (by rw[hg];simp) (by rw[hg];simp)
 | start f hg hf=>exact h.start hi hg hf
 | spawn f hg hf hn=>exact h.spawn hi hg hf hn
 | AE hg hn=>exact h.AE hi hg hn
 | fork c f hg hf=>exact h.fork hi hg hf
 | push c f hg hf=>exact h.push hi hg
 | wait f hg hf hk=>exact h.wait hi hg hf hk
 | pass f hg hf hk=>exact h.pass hi hg hf hk
 | one f hg hf=>exact h.one hi hg hf
 | It v hg hf=>exact h.It hi hg hf
 | ret f v hg hf h0=>exact h.ret hi hg hf h0
 | Lm p c hg hn=>exact h.Lm hi hg hn
 | JJ p c hg hn=>exact h.JJ hi hg hn
 | take p c hg=>exact h.take hi hg
 | nH x l hg hq=>exact h.nH hi hg hq
 | Np x hg hq=>exact h.Np hi hg hq
 | got x hg hx=>exact h.got hi hg hx
 | EM k x l hk J0 hg hx=>exact h.EM hi hk hg hx
theorem ur{C:jt}{i:Nat}{w w' w'':afU}{e:Option Ev}(h:w''=w')(t:Tr C i w e w'):Tr C i w e w'':=h▸ t
def Iu(x:Fr):Nat×Int×Nat:=(x.par,x.k8,x.bt)
section
variable {C:jt}{s:St}{i:Nat}{N F:Nat}
theorem Yj{s':St}(h0:∀j,sig (s'.pc j)=sig (s.pc j))(hx:∀j,wL (s'.pc j)=wL (s.pc j))(h1:s'.hold=s.hold)(h2:s'.loc=s.loc)(h3:∀f,Iu (s'.fr f)=Iu (s.fr f))(h4:s'.nf=s.nf)(h5:s'.bt=s.bt)
 (h6:s'.q=s.q) (h7:s'.pop=s.pop) (hm:∀a,a.fra=true->s'.mem a=s.mem a):wv s'=wv s:=by
 have a1:(λf=>(s'.fr f).par)=λf=>(s.fr f).par:=funext λf=>nu (·.1) (h3 f);have a2:(λf=>(s'.fr f).k8)=λf=>(s.fr f).k8:=funext λf=>nu (·.2.1) (h3 f);have a3:(λf=>(s'.fr f).bt)=λf=>(s.fr f).bt:=funext λf=>nu (·.2.2) (h3 f);unfold wv view;rw[h1,h2,h4,h5,h6,h7,hm .next rfl,funext h0,funext hx,a1,a2,a3,funext (λf=>hm (.join f) rfl),funext (λf=>hm (.mark f) rfl)]
theorem gL{s':St}{p:Pc}{e:Option Ev}(hp:s'.pc=bJ s.pc i p)(hs:sig p=sig (s.pc i)/\wL p=wL (s.pc i))(h1:s'.hold=s.hold)(h2:s'.loc=s.loc)(h3:∀f,Iu (s'.fr f)=Iu (s.fr f))(h4:s'.nf=s.nf)(h5:s'.bt=s.bt)
 (h6:s'.q=s.q) (h7:s'.pop=s.pop) (hm:∀a,a.fra=true->s'.mem a=s.mem a) (he:quiet e=true):Tr C i (wv s) e (wv s'):=by
 refine ur (Yj (λj => ?_) (λj => ?_) h1 h2 h3 h4 h5 h6 h7 hm) (.gL _ he)
 ·rw[hp,cA];split
  ·next e=>rw[e];exact hs.1
  ·rfl
 ·rw[hp,cA];split
  ·next e=>rw[e];exact hs.2
  ·rfl
theorem Iv{s':St}{e:Option Ev}(hp:s'.pc=s.pc)(h1:s'.hold=s.hold)(h2:s'.loc=s.loc)(h3:∀f,Iu (s'.fr f)=Iu (s.fr f))(h4:s'.nf=s.nf)(h5:s'.bt=s.bt)
 (h6:s'.q=s.q) (h7:s'.pop=s.pop) (hm:∀a,a.fra=true->s'.mem a=s.mem a) (he:quiet e=true):Tr C i (wv s) e (wv s'):=
 ur (Yj (λj=>by rw[hp]) (λj=>by rw[hp]) h1 h2 h3 h4 h5 h6 h7 hm) (.gL _ he)
theorem tg{a x:tF}{v:Int}(h:a.fra=false):x.fra=true->(s.wr a v).mem x=s.mem x:=λhx=>kq (by rintro rfl;rw[h]at hx;cases hx)
theorem AG{f:Nat}{x:Fr}(h:Iu x=Iu (s.fr f))(j:Nat):Iu ((s.lay f x).fr j)=Iu (s.fr j):=by
 show Iu (bJ s.fr f x j)=_;rw[cA];split
 ·next e=>rw[e,h]
 ·rfl
theorem n9(hf:(view s).FI N F)(hi:i<N)(hb:busy (sig (s.pc i))=true) :∃f,s.hold i=some f:=by
 have:=hf.hs i hi hb;exact Option.ne_none_iff_exists'.1 this
theorem vo{w w':afU}(h1:∀j,w.v.g j=w'.v.g j)(h2:∀j,w.v.hold j=w'.v.hold j)(h3:∀j,w.v.loc j=w'.v.loc j)(h4:∀j,w.v.par j=w'.v.par j)(h5:w.v.nf=w'.v.nf)(h6:∀j,w.v.bt j=w'.v.bt j)
 (h7:∀j,w.v.q j=w'.v.q j) (h8:∀j,w.v.pop j=w'.v.pop j) (h9:∀j,w.v.join j=w'.v.join j) (h10:∀j,w.v.mark j=w'.v.mark j) (h11:w.v.next=w'.v.next) (h12:∀j,w.k8 j=w'.k8 j) (h13:∀j,w.kc j=w'.kc j) (h14:∀j,w.fx j=w'.fx j):w=w':=by
 obtain⟨⟨⟩⟩:=w;obtain⟨⟨⟩⟩:=w';simp only[afU.mk.injEq,V.mk.injEq];exact⟨⟨funext h1,funext h2,funext h3,funext h4,h5,funext h6,funext h7,funext h8,funext h9,funext h10,h11⟩,funext h12,funext h13,funext h14⟩
theorem Uq(hf:(view s).FI C.N C.F)(hi:i<C.N)(hp:s.pc i= .run):Tr C i (wv s) (instr C s i).ev (wv (instr C s i).s):=by
 have hg:(view s).g i= .run:=by show sig (s.pc i)=_;rw[hp];rfl
 obtain⟨f,hh⟩:=n9 hf hi (by rw[hp];rfl);have hh':(view s).hold i=some f:=hh;unfold Am.instr;simp only[hh,nQ];split
 ·exact Iv rfl rfl rfl (AG rfl) rfl rfl rfl rfl (λ_ _=>rfl) rfl
 ·exact Iv rfl rfl rfl (AG rfl) rfl rfl rfl rfl (λ_ _=>rfl) rfl
 ·exact Iv rfl rfl rfl (AG rfl) rfl rfl rfl rfl (λ_ _=>rfl) rfl
 ·exact Iv rfl rfl rfl (AG rfl) rfl rfl rfl rfl (λ_ _=>rfl) rfl
 ·exact Iv rfl rfl rfl (AG (by split<;>rfl)) rfl rfl rfl rfl (λ_ _=>rfl) rfl
 ·exact Iv rfl rfl rfl (AG rfl) rfl rfl rfl rfl (λ_ _=>rfl) rfl
 ·exact Iv rfl rfl rfl (AG rfl) rfl rfl rfl rfl (λ_ _=>rfl) rfl
 ·rename_i sl g c hc;split
  ·rename_i hn;refine ur ?_ (Tr.AE hg (by show(C.F:Int)<=s.mem .next;omega))
   apply vo<;>(try intro j)<;>simp only[wv,view,St.wr,St.lay,St.to,St.put,St.holds,St.rY,St.nH,St.Gx,St.tQ,got,cA,cL]<;>grind [sig,wL,kD]
  ·rename_i hn;refine ur ?_ (Tr.spawn f hg hh' (by show s.mem .next<(C.F:Int);omega))
   apply vo<;>(try intro j)<;>simp only[wv,view,St.wr,St.lay,St.to,St.put,St.holds,St.rY,St.nH,St.Gx,St.tQ,got,cA,cL]<;>grind [sig,wL,kD]
 ·split
  ·rename_i hn;refine ur ?_ (Tr.wait f hg hh' (by simpa [wv,view]using hn))
   apply vo<;>(try intro j)<;>simp only[wv,view,St.wr,St.lay,St.to,St.put,St.holds,St.rY,St.nH,St.Gx,St.tQ,got,cA,cL]<;>grind [sig,wL,kD]
  ·rename_i hn;refine ur ?_ (Tr.pass f hg hh' (by simpa [wv,view]using hn))
   apply vo<;>(try intro j)<;>simp only[wv,view,St.wr,St.lay,St.to,St.put,St.holds,St.rY,St.nH,St.Gx,St.tQ,got,cA,cL]<;>grind [sig,wL,kD]
 ·split
  ·rename_i h0;subst h0;refine ur ?_ (Tr.It _ hg hh')
   apply vo<;>(try intro j)<;>simp only[wv,view,St.wr,St.lay,St.to,St.put,St.holds,St.rY,St.nH,St.Gx,St.tQ,got,cA,cL]<;>grind [sig,wL,kD]
  ·rename_i h0;refine ur ?_ (Tr.ret f _ hg hh' h0)
   apply vo<;>(try intro j)<;>simp only[wv,view,St.wr,St.lay,St.to,St.put,St.holds,St.rY,St.nH,St.Gx,St.tQ,got,cA,cL]<;>grind [sig,wL,kD]
theorem EN(hf:(view s).FI C.N C.F)(hd:DT C s)(hi:i<C.N)(d:Int):Tr C i (wv s) (aC C s i d).ev (wv (aC C s i d).s):=by
 cases hp:s.pc i with
 | zP c =>
  unfold Am.aC;rw[hp];simp only;exact gL rfl (by rw[hp];exact⟨rfl,rfl⟩) rfl rfl (λ_=>rfl) rfl rfl rfl rfl (λ_ _=>rfl) rfl
 | yc c b =>
  unfold Am.aC;rw[hp];simp only;exact gL rfl (by rw[hp];exact⟨rfl,rfl⟩) rfl rfl (λ_=>rfl) rfl rfl rfl rfl (λ_ _=>rfl) rfl
 | q9 c b t =>
  unfold Am.aC;rw[hp];simp only;exact gL rfl (by rw[hp];exact⟨rfl,rfl⟩) rfl rfl (λ_=>rfl) rfl rfl rfl rfl (λ_ _=>rfl) rfl
 | Bw =>
  unfold Am.aC;rw[hp];simp only;exact gL rfl (by rw[hp];exact⟨rfl,rfl⟩) rfl rfl (λ_=>rfl) rfl rfl rfl rfl (λ_ _=>rfl) rfl
 | wV b =>
  unfold Am.aC;rw[hp];simp only;exact gL rfl (by rw[hp];exact⟨rfl,rfl⟩) rfl rfl (λ_=>rfl) rfl rfl rfl rfl (λ_ _=>rfl) rfl
 | tP b t =>
  unfold Am.aC;rw[hp];simp only;exact gL rfl (by rw[hp];exact⟨rfl,rfl⟩) rfl rfl (λ_=>rfl) rfl rfl rfl rfl (λ_ _=>rfl) rfl
 | jQ =>
  unfold Am.aC;rw[hp];simp only;exact gL rfl (by rw[hp];exact⟨rfl,rfl⟩) rfl rfl (λ_=>rfl) rfl rfl rfl rfl (λ_ _=>rfl) rfl
 | rK v t =>
  unfold Am.aC;rw[hp];simp only;exact gL rfl (by rw[hp];exact⟨rfl,rfl⟩) rfl rfl (λ_=>rfl) rfl rfl rfl rfl (λ_ _=>rfl) rfl
 | qB v t g =>
  unfold Am.aC;rw[hp];simp only;exact gL rfl (by rw[hp];exact⟨rfl,rfl⟩) rfl rfl (λ_=>rfl) rfl rfl rfl rfl (λ_ _=>rfl) rfl
 | n8 v t g cc =>
  unfold Am.aC;rw[hp];simp only;exact gL rfl (by rw[hp];exact⟨rfl,rfl⟩) rfl rfl (λ_=>rfl) rfl rfl rfl rfl (λ_ _=>rfl) rfl
 | Dp j =>
  unfold Am.aC;rw[hp];simp only;exact gL rfl (by rw[hp];exact⟨rfl,rfl⟩) rfl rfl (λ_=>rfl) rfl rfl rfl rfl (λ_ _=>rfl) rfl
 | kP c b t cc n =>
  unfold Am.aC;rw[hp];simp only;exact gL rfl (by rw[hp];exact⟨rfl,rfl⟩) rfl rfl (λ_=>rfl) rfl rfl rfl rfl (λ_ _=>rfl) rfl
 | mS c b t cc =>
  unfold Am.aC;rw[hp];simp only;exact gL rfl (by rw[hp];exact⟨rfl,rfl⟩) rfl rfl (λ_=>rfl) rfl rfl rfl rfl (λ_=>tg rfl) rfl
 | mT c b t cc =>
  unfold Am.aC;rw[hp];simp only;exact gL rfl (by rw[hp];exact⟨rfl,rfl⟩) rfl rfl (λ_=>rfl) rfl rfl rfl rfl (λ_=>tg rfl) rfl
 | jV c b cc =>
  unfold Am.aC;rw[hp];simp only;exact gL rfl (by rw[hp];exact⟨rfl,rfl⟩) rfl rfl (λ_=>rfl) rfl rfl rfl rfl (λ_=>tg rfl) rfl
 | rJ b =>
  unfold Am.aC;rw[hp];simp only;exact gL rfl (by rw[hp];exact⟨rfl,rfl⟩) rfl rfl (λ_=>rfl) rfl rfl rfl rfl (λ_=>tg rfl) rfl
 | flag =>
  unfold Am.aC;rw[hp];simp only;exact gL rfl (by rw[hp];exact⟨rfl,rfl⟩) rfl rfl (λ_=>rfl) rfl rfl rfl rfl (λ_=>tg rfl) rfl
 | sleep =>
  unfold Am.aC;rw[hp];simp only;exact gL rfl (by rw[hp];exact⟨rfl,rfl⟩) rfl rfl (λ_=>rfl) rfl rfl rfl rfl (λ_=>tg rfl) rfl
 | vm j =>
  unfold Am.aC;rw[hp];simp only;exact gL rfl (by rw[hp];exact⟨rfl,rfl⟩) rfl rfl (λ_=>rfl) rfl rfl rfl rfl (λ_=>tg rfl) rfl
 | grow c b t cc =>
  unfold Am.aC;rw[hp];simp only;exact gL rfl (by rw[hp];exact⟨rfl,rfl⟩) rfl rfl (λ_=>rfl) rfl rfl rfl rfl (λa ha=>by cases a<;>first | rfl | (simp[tF.fra]at ha)) rfl
 | j8 c b t cc n x =>
  unfold Am.aC;rw[hp];simp only;refine gL rfl (by rw[hp];split<;>exact⟨rfl,rfl⟩) rfl rfl (λ_=>rfl) rfl rfl rfl rfl (λ_=>tg rfl) rfl
 | DQ =>
  unfold Am.aC;rw[hp];simp only;refine gL rfl (by rw[hp];split<;>exact⟨rfl,rfl⟩) rfl rfl (λ_=>rfl) rfl rfl rfl rfl (λ_ _=>rfl) rfl
 | sW j =>
  unfold Am.aC;rw[hp];simp only;split
  ·exact gL rfl (by rw[hp];exact⟨rfl,rfl⟩) rfl rfl (λ_=>rfl) rfl rfl rfl rfl (λ_=>tg rfl) rfl
  ·exact gL rfl (by rw[hp];split<;>exact⟨rfl,rfl⟩) rfl rfl (λ_=>rfl) rfl rfl rfl rfl (λ_ _=>rfl) rfl
 | pM t =>
  unfold Am.aC;rw[hp];simp only;exact gL rfl (by rw[hp];split<;>exact⟨rfl,rfl⟩) rfl rfl (λ_=>rfl) rfl rfl rfl rfl (λ_=>tg rfl) rfl
 | vU v t =>
  unfold Am.aC;rw[hp];simp only;split<;>exact gL rfl (by rw[hp];exact⟨rfl,rfl⟩) rfl rfl (λ_=>rfl) rfl rfl rfl rfl (λ_ _=>rfl) rfl
 | EL =>
  unfold Am.aC;rw[hp];simp only;split
  ·exact gL rfl (by rw[hp];exact⟨rfl,rfl⟩) rfl rfl (λ_=>rfl) rfl rfl rfl rfl (λ_ _=>rfl) rfl
  ·exact gL rfl (by rw[hp];split<;>exact⟨rfl,rfl⟩) rfl rfl (λ_=>rfl) rfl rfl rfl rfl (λ_ _=>rfl) rfl
 | vn =>
  unfold Am.aC;rw[hp];simp only[looking];split
  ·exact gL rfl (by rw[hp];exact⟨rfl,rfl⟩) rfl rfl (λ_=>rfl) rfl rfl rfl rfl (λ_ _=>rfl) rfl
  ·split<;>exact gL rfl (by rw[hp];exact⟨rfl,rfl⟩) rfl rfl (λ_=>rfl) rfl rfl rfl rfl (λ_ _=>rfl) rfl
 | Dq j t =>
  unfold Am.aC;rw[hp];simp only[looking];split
  ·exact gL rfl (by rw[hp];exact⟨rfl,rfl⟩) rfl rfl (λ_=>rfl) rfl rfl rfl rfl (λ_ _=>rfl) rfl
  ·split<;>exact gL rfl (by rw[hp];exact⟨rfl,rfl⟩) rfl rfl (λ_=>rfl) rfl rfl rfl rfl (λ_ _=>rfl) rfl
 | parked =>
  unfold Am.aC;rw[hp];simp only;split
  ·exact .gL none rfl
  ·exact gL rfl (by rw[hp];split<;>exact⟨rfl,rfl⟩) rfl rfl (λ_=>rfl) rfl rfl rfl rfl (λ_ _=>rfl) rfl
 | back b =>
  unfold Am.aC;rw[hp];simp only[yp];split
  ·exact gL rfl (by rw[hp];exact⟨rfl,rfl⟩) rfl rfl (λ_=>rfl) rfl rfl rfl rfl (λ_=>tg rfl) rfl
  ·split
   ·exact gL rfl (by rw[hp];exact⟨rfl,rfl⟩) rfl rfl (λ_=>rfl) rfl rfl rfl rfl (λ_ _=>rfl) rfl
   ·exact gL rfl (by rw[hp];split<;>exact⟨rfl,rfl⟩) rfl rfl (λ_=>rfl) rfl rfl rfl rfl (λ_ _=>rfl) rfl
 | v8 b =>
  unfold Am.aC;rw[hp];simp only[yp];split
  ·exact gL rfl (by rw[hp];exact⟨rfl,rfl⟩) rfl rfl (λ_=>rfl) rfl rfl rfl rfl (λ_=>tg rfl) rfl
  ·exact gL rfl (by rw[hp];split<;>exact⟨rfl,rfl⟩) rfl rfl (λ_=>rfl) rfl rfl rfl rfl (λ_=>tg rfl) rfl
 | done =>
  unfold Am.aC;rw[hp];simp only[lU];split<;>exact gL rfl (by rw[hp];exact⟨rfl,rfl⟩) rfl rfl (λ_=>rfl) rfl rfl rfl rfl (λ_=>tg rfl) rfl
 | tell j =>
  unfold Am.aC;rw[hp];simp only[lU];split
  ·exact gL rfl (by rw[hp];exact⟨rfl,rfl⟩) rfl rfl (λ_=>rfl) rfl rfl rfl rfl (λ_=>tg rfl) rfl
  ·split<;>exact gL rfl (by rw[hp];exact⟨rfl,rfl⟩) rfl rfl (λ_=>rfl) rfl rfl rfl rfl (λ_ _=>rfl) rfl
 | xA j =>
  unfold Am.aC;rw[hp];simp only[lU];split<;>exact gL rfl (by rw[hp];exact⟨rfl,rfl⟩) rfl rfl (λ_=>rfl) rfl rfl rfl rfl (λ_=>tg rfl) rfl
 | rf c b t =>
  have hg:(view s).g i= .push c:=by show sig (s.pc i)=_;rw[hp];rfl
  unfold Am.aC;rw[hp];simp only;split
  ·exact gL rfl (by rw[hp];exact⟨rfl,rfl⟩) rfl rfl (λ_=>rfl) rfl rfl rfl rfl (λ_ _=>rfl) rfl
  ·split
   ·refine ur ?_ (Tr.full c hg)
    apply vo<;>(try intro j)<;>simp only[wv,view,St.wr,St.lay,St.to,St.put,St.holds,St.rY,St.nH,St.Gx,St.tQ,got,cA,cL]<;>grind [sig,wL,kD]
   ·exact gL rfl (by rw[hp];exact⟨rfl,rfl⟩) rfl rfl (λ_=>rfl) rfl rfl rfl rfl (λ_ _=>rfl) rfl
 | halted=>unfold Am.aC;rw[hp];exact .gL none rfl
 | full=>unfold Am.aC;rw[hp];exact .gL none rfl
 | run=>unfold Am.aC;rw[hp];exact Uq hf hi hp
 | start x =>
  have hg:(view s).g i= .start:=by show sig (s.pc i)=_;rw[hp];rfl
  obtain⟨f,hh⟩:=n9 hf hi (by rw[hp];rfl);unfold Am.aC;rw[hp];simp only[hh,nQ];have hx:x=(wv s).fx i:=by show x=wL (s.pc i);rw[hp];rfl
  rw[hx];refine ur ?_ (Tr.start f hg hh)
  apply vo<;>(try intro j)<;>simp only[wv,view,St.wr,St.lay,St.to,St.put,St.holds,St.rY,St.nH,St.Gx,St.tQ,got,cA,cL]<;>grind [sig,wL,kD]
 | fork c =>
  have hg:(view s).g i= .fork c:=by show sig (s.pc i)=_;rw[hp];rfl
  obtain⟨f,hh⟩:=n9 hf hi (by rw[hp];rfl);unfold Am.aC;rw[hp];simp only[hh,nQ];refine ur ?_ (Tr.fork c f hg hh)
  apply vo<;>(try intro j)<;>simp only[wv,view,St.wr,St.lay,St.to,St.put,St.holds,St.rY,St.nH,St.Gx,St.tQ,got,cA,cL]<;>grind [sig,wL,kD]
 | nP =>
  have hg:(view s).g i= .one:=by show sig (s.pc i)=_;rw[hp];rfl
  obtain⟨f,hh⟩:=n9 hf hi (by rw[hp];rfl);unfold Am.aC;rw[hp];simp only[hh,nQ];refine ur ?_ (Tr.one f hg hh)
  apply vo<;>(try intro j)<;>simp only[wv,view,St.wr,St.lay,St.to,St.put,St.holds,St.rY,St.nH,St.Gx,St.tQ,got,cA,cL]<;>grind [sig,wL,kD]
 | out p c =>
  have hg:(view s).g i= .out p c:=by show sig (s.pc i)=_;rw[hp];rfl
  unfold Am.aC;rw[hp];simp only;split
  ·rename_i hn;refine ur ?_ (Tr.JJ p c hg hn)
   apply vo<;>(try intro j)<;>simp only[wv,view,St.wr,St.lay,St.to,St.put,St.holds,St.rY,St.nH,St.Gx,St.tQ,got,cA,cL]<;>grind [sig,wL,kD]
  ·rename_i hn;refine ur ?_ (Tr.Lm p c hg hn)
   apply vo<;>(try intro j)<;>simp only[wv,view,St.wr,St.lay,St.to,St.put,St.holds,St.rY,St.nH,St.Gx,St.tQ,got,cA,cL]<;>grind [sig,wL,kD]
 | take p c =>
  have hg:(view s).g i= .take p c:=by show sig (s.pc i)=_;rw[hp];rfl
  unfold Am.aC;rw[hp];simp only;refine ur ?_ (Tr.take p c hg)
  apply vo<;>(try intro j)<;>simp only[wv,view,St.wr,St.lay,St.to,St.put,St.holds,St.rY,St.nH,St.Gx,St.tQ,got,cA,cL]<;>grind [sig,wL,kD]
 | n7 c b =>
  have hg:(view s).g i= .push c:=by show sig (s.pc i)=_;rw[hp];rfl
  obtain⟨f,hh⟩:=n9 hf hi (by rw[hp];rfl);unfold Am.aC;rw[hp];simp only[hh,nQ];refine ur ?_ (Tr.push c f hg hh)
  apply vo<;>(try intro j)<;>simp only[wv,view,St.wr,St.lay,St.to,St.put,St.holds,St.rY,St.nH,St.Gx,St.tQ,got,cA,cL]<;>grind [sig,wL,kD]
 | AB b =>
  have hg:(view s).g i= .none:=by show sig (s.pc i)=_;rw[hp];rfl
  have P:=(hd.1 i hi).ph;unfold pT at P;rw[hp]at P;simp only at P;unfold Am.aC;rw[hp];simp only;split
  ·rename_i hlt;have hne:s.q i≠[]:=by
    intro e;simp only[St.L,St.T,e,xL]at P;omega
   have hq:s.q i=(s.q i).dropLast++[(s.q i).getLastD 0]:=by
    rw[JU,List.getLast?_eq_some_getLast hne];exact(List.dropLast_concat_getLast hne).symm
   refine ur ?_ (Tr.nH ((s.q i).getLastD 0) ((s.q i).dropLast) hg hq)
   apply vo<;>(try intro j)<;>simp only[wv,view,St.wr,St.lay,St.to,St.put,St.holds,St.rY,St.nH,St.Gx,St.tQ,got,cA,cL]<;>grind [sig,wL,kD]
  ·split<;>exact gL rfl (by rw[hp];exact⟨rfl,rfl⟩) rfl rfl (λ_=>rfl) rfl rfl rfl rfl (λ_ _=>rfl) rfl
 | pS b t cc =>
  have hg:(view s).g i= .none:=by show sig (s.pc i)=_;rw[hp];rfl
  have P:=(hd.1 i hi).ph;unfold pT at P;rw[hp]at P;simp only at P;unfold Am.aC;rw[hp];simp only;split
  ·rename_i hlt;obtain⟨x,hx,he⟩:=(P.1.2.2.2.1 hlt).2.2;rw[<-P.2]at he;rw[he];refine ur ?_ (Tr.got x hg hx)
   apply vo<;>(try intro j)<;>simp only[wv,view,St.wr,St.lay,St.to,St.put,St.holds,St.rY,St.nH,St.Gx,St.tQ,got,cA,cL]<;>grind [sig,wL,kD]
  ·exact gL rfl (by rw[hp];exact⟨rfl,rfl⟩) rfl rfl (λ_=>rfl) rfl rfl rfl rfl (λ_ _=>rfl) rfl
 | sP b t x =>
  have hg:(view s).g i= .none:=by show sig (s.pc i)=_;rw[hp];rfl
  have P:=(hd.1 i hi).ph;unfold pT at P;rw[hp]at P;simp only at P;unfold Am.aC;rw[hp];simp only;split
  ·rename_i ht;have hq:=(P.2.2.2.2.1 ht).1;refine ur ?_ (Tr.Np x.toNat hg hq)
   apply vo<;>(try intro j)<;>simp only[wv,view,St.wr,St.lay,St.to,St.put,St.holds,St.rY,St.nH,St.Gx,St.tQ,got,cA,cL]<;>grind [sig,wL,kD]
  ·exact gL rfl (by rw[hp];exact⟨rfl,rfl⟩) rfl rfl (λ_=>rfl) rfl rfl rfl rfl (λ_ _=>rfl) rfl
 | qa t x Al =>
  have hg:(view s).g i= .none:=by show sig (s.pc i)=_;rw[hp];rfl
  have P:=(hd.1 i hi).ph;unfold pT at P;rw[hp]at P;simp only at P;unfold Am.aC;rw[hp];simp only;split
  ·rename_i hw;refine ur ?_ (Tr.got x.toNat hg (P.2.2.2 hw).1)
   apply vo<;>(try intro j)<;>simp only[wv,view,St.wr,St.lay,St.to,St.put,St.holds,St.rY,St.nH,St.Gx,St.tQ,got,cA,cL]<;>grind [sig,wL,kD]
  ·exact gL rfl (by rw[hp];split<;>exact⟨rfl,rfl⟩) rfl rfl (λ_=>rfl) rfl rfl rfl rfl (λ_=>tg rfl) rfl
 | ny v t x =>
  have hg:(view s).g i= .none:=by show sig (s.pc i)=_;rw[hp];rfl
  have HT:=hd.2 i hi;unfold Th at HT;rw[hp]at HT;simp only at HT;unfold Am.aC;rw[hp];simp only;split
  ·rename_i ht;obtain⟨y,l,hq,hx⟩:=HT.2.2.2 ht.symm;subst hx;refine ur ?_ (Tr.EM v y l HT.1 HT.2.1 hg hq)
   apply vo<;>(try intro j)<;>simp only[wv,view,St.wr,St.lay,St.to,St.put,St.holds,St.rY,St.nH,St.Gx,St.tQ,got,cA,cL]<;>grind [sig,wL,kD]
  ·exact gL rfl (by rw[hp];exact⟨rfl,rfl⟩) rfl rfl (λ_=>rfl) rfl rfl rfl rfl (λ_ _=>rfl) rfl
theorem FI.aC(hf:(view s).FI C.N C.F)(hd:DT C s)(hi:i<C.N)(d:Int):(view (aC C s i d).s).FI C.N C.F:=(EN hf hd hi d).fi hi hf
end
def Kf(C:jt)(g a:Nat):Prop:=
 match C.code g a with
 | .const x _=>x<C.bw g/\a+1<C.len g
 | .k8 x=>x<C.bw g/\a+1<C.len g
 | .move x y=>x<C.bw g/\y<C.bw g/\a+1<C.len g
 | .arith op x y z=>x<C.bw g/\y<C.bw g/\z<C.bw g/\a+1<C.len g
 | .jump t=>t<C.len g
 | .branch x t=>x<C.bw g/\t<C.len g/\a+1<C.len g
 | .spawn s f c=>s<8/\f<C.QA/\(C.params f=0∨c+C.params f<=C.bw g)/\a+1<C.len g
 | .sync=>a+1<C.len g
 | .load x s=>x<C.bw g/\s<8/\a+1<C.len g
 | .ret x=>x<C.bw g
structure jt.OK(C:jt):Prop where
 n1:1<=C.N
 n64:C.N<=64
 f1:1<=C.F
 f4:C.F<=4096
 c1:1<=C.first
 cm:C.first<=C.most
 m4:C.most<=4096
 fn0:0<C.QA
 ZV:∀g,g<C.QA->0<C.len g
 Ln:∀g,g<C.QA->C.params g<=C.bw g/\C.bw g<=16
 ins:∀g,g<C.QA->∀a,a<C.len g->Kf C g a
def live:Loc->Bool
 | .fin _ | .gone=>false
 | _=>true
def FR1(C:jt)(x:Fr)(l:Loc):Prop:=x.fn<C.QA/\x.slot<8/\(live l=true->x.J<C.len x.fn)
def FR(C:jt)(s:St):Prop:=∀f,f<s.nf->FR1 C (s.fr f) (s.loc f)
section
variable {C:jt}{s:St}{i:Nat}
theorem FR.gL{s':St}(h:FR C s)(h1:s'.nf=s.nf)(h2:s'.fr=s.fr)(h3:s'.loc=s.loc):FR C s':=by
 intro f hf;rw[h2,h3];exact h f (h1▸ hf)
theorem FR.put{s':St}{f:Nat}{l:Loc}(h:FR C s)(h1:s'.nf=s.nf)(h2:s'.fr=s.fr)(h3:s'.loc=bJ s.loc f l)(hl:live l=true->live (s.loc f)=true):FR C s':=by
 intro g hg;rw[h2,h3,cA];have:=h g (h1▸ hg);split
 ·next e=>subst e;exact⟨this.1,this.2.1,λhh=>this.2.2 (hl hh)⟩
 ·exact this
theorem FR.lay{s':St}{f:Nat}{x:Fr}(h:FR C s)(h1:s'.nf=s.nf)(h2:s'.fr=bJ s.fr f x)(h3:s'.loc=s.loc)(hx:f<s.nf->FR1 C x (s.loc f)):FR C s':=by
 intro g hg;rw[h2,h3,cA];have JY:=h1▸ hg;split
 ·next e=>subst e;exact hx JY
 ·exact h g JY
theorem nA(hf:(view s).FI C.N C.F)(hi:i<C.N){f:Nat}(hh:s.hold i=some f):live (s.loc f)=true/\f<s.nf:=by
 have a:=hf.hold i f hi hh;have e:s.loc f= .uz i∨s.loc f= .held i:=a.elim (λa=>.inl a.2) (λa=>.inr a.2);refine⟨by rcases e with e | e<;>rw[e]<;>rfl,?_⟩;rcases AV f s.nf with h | h
 ·exact h
 ·have:=hf.free f h;change s.loc f=_ at this;rw[this]at e;rcases e with e | e<;>cases e
theorem FR.instr(hC:C.OK)(h:FR C s)(hf:(view s).FI C.N C.F)(hi:i<C.N)(hp:s.pc i= .run):FR C (instr C s i).s:=by
 obtain⟨f,hh⟩:=n9 hf hi (by rw[hp];rfl);obtain⟨hl,hn⟩:=nA hf hi hh;obtain⟨a1,a2,a3⟩:=h f hn;have a3:=a3 hl;have ok:=hC.ins _ a1 _ a3;unfold Kf at ok;unfold Am.instr;simp only[hh,nQ];split<;>rename_i hc<;>rw[hc]at ok<;>simp only at ok
 ·exact h.lay rfl rfl rfl (λ_=>⟨a1,a2,λ_=>ok.2⟩)
 ·exact h.lay rfl rfl rfl (λ_=>⟨a1,a2,λ_=>ok.2.2⟩)
 ·exact h.lay rfl rfl rfl (λ_=>⟨a1,a2,λ_=>ok.2.2.2⟩)
 ·exact h.lay rfl rfl rfl (λ_=>⟨a1,a2,λ_=>ok⟩)
 ·exact h.lay rfl rfl rfl (λ_=>by
   split
   ·exact⟨a1,a2,λ_=>ok.2.1⟩
   ·exact⟨a1,a2,λ_=>ok.2.2⟩)
 ·exact h.lay rfl rfl rfl (λ_=>⟨a1,a2,λ_=>ok.2⟩)
 ·exact h.lay rfl rfl rfl (λ_=>⟨a1,a2,λ_=>ok.2.2⟩)
 ·split
  ·exact h.lay rfl rfl rfl (λ_=>⟨a1,a2,λ_=>ok.2.2.2⟩)
  ·intro g hg;simp only[St.wr,St.lay,St.to,St.put,cA];split
   ·next e=>subst e;exact⟨ok.2.1,ok.1,λ_=>hC.ZV _ ok.2.1⟩
   ·next e =>
    have JY:g<s.nf:=by have:g<s.nf+1:=hg;omega
    split
    ·next e=>subst e;exact⟨a1,a2,λ_=>ok.2.2.2⟩
    ·exact h g JY
 ·split
  ·intro g hg;simp only[St.wr,St.lay,St.to,St.put,St.holds,cA];split
   ·next e=>exact⟨a1,a2,λ_=>ok⟩
   ·exact h g hg
  ·intro g hg;simp only[St.wr,St.lay,St.to,St.put,St.holds,cA];split
   ·next e=>exact⟨a1,a2,λ_=>ok⟩
   ·exact h g hg
 ·split
  ·next e0 =>
   subst e0;intro g hg;simp only[St.wr,St.lay,St.to,St.put,St.holds,cA];split
   ·next e=>exact⟨a1,a2,λe=>by cases e⟩
   ·exact h g hg
  ·intro g hg;simp only[St.wr,St.lay,St.to,St.put,St.holds,cA];split
   ·next e=>exact⟨a1,a2,λe=>by cases e⟩
   ·exact h g hg
theorem FR.aC(hC:C.OK)(h:FR C s)(hf:(view s).FI C.N C.F)(hd:DT C s)(hi:i<C.N)(d:Int):FR C (aC C s i d).s:=by
 cases hp:s.pc i with
 | run=>unfold Am.aC;rw[hp];exact FR.instr hC h hf hi hp
 | nP =>
  obtain⟨f,hh⟩:=n9 hf hi (by rw[hp];rfl);unfold Am.aC;rw[hp];simp only[hh,nQ];exact h.put rfl rfl rfl (λ_=>(nA hf hi hh).1)
 | out p c =>
  have hg:(view s).g i= .out p c:=by show sig (s.pc i)=_;rw[hp];rfl
  unfold Am.aC;rw[hp];simp only;split
  ·rename_i hn;have hw:s.loc p= .waiting:=(hf.ie hi hg hn).1;have h1:FR C (s.put c .gone):=h.put rfl rfl rfl (λe=>by cases e);refine FR.put (f:=p) (l:=.sQ i) h1 rfl rfl rfl (λ_ => ?_);show live (bJ s.loc c .gone p)=true;rw[aA (hf.ie hi hg hn).2.2,hw];rfl
  ·exact h.put rfl rfl rfl (λe=>by cases e)
 | take p c =>
  have hg:(view s).g i= .take p c:=by show sig (s.pc i)=_;rw[hp];rfl
  unfold Am.aC;rw[hp];simp only;exact h.put rfl rfl rfl (λ_=>by rw[show s.loc p= .sQ i from hf.tk i p c hi hg];rfl)
 | n7 c b =>
  have hg:(view s).g i= .push c:=by show sig (s.pc i)=_;rw[hp];rfl
  unfold Am.aC;rw[hp];simp only;exact h.put rfl rfl rfl (λ_=>by rw[show s.loc c= .bW i from(hf.ps i c hi hg).2.1];rfl)
 | AB b =>
  have P:=(hd.1 i hi).ph;unfold pT at P;rw[hp]at P;simp only at P;unfold Am.aC;rw[hp];simp only;split
  ·rename_i hlt;have hne:s.q i≠[]:=by
    intro e;simp only[St.L,St.T,e,xL]at P;omega
   have hm:(s.q i).getLastD 0∈s.q i:=by
    rw[JU,List.getLast?_eq_some_getLast hne];exact List.getLast_mem hne
   exact h.put rfl rfl rfl (λ_=>by rw[show s.loc _= .Lc i from(hf.q i _ hi hm).2];rfl)
  ·split<;>exact h.gL rfl rfl rfl
 | pS b t cc =>
  have P:=(hd.1 i hi).ph;unfold pT at P;rw[hp]at P;simp only at P;unfold Am.aC;rw[hp];simp only;split
  ·rename_i hlt;obtain⟨x,hx,he⟩:=(P.1.2.2.2.1 hlt).2.2;rw[<-P.2]at he;rw[he];refine h.put (f:=x) (l:=.held i) rfl rfl (by simp only[got,St.put,St.nH,St.to,St.holds,cL]) (λ_ => ?_);rw[show s.loc x= .pop i from(hf.pop i x hi hx).2];rfl
  ·exact h.gL rfl rfl rfl
 | sP b t x =>
  have P:=(hd.1 i hi).ph;unfold pT at P;rw[hp]at P;simp only at P;unfold Am.aC;rw[hp];simp only;split
  ·rename_i ht;have hq:=(P.2.2.2.2.1 ht).1;exact h.put rfl rfl rfl (λ_=>by rw[show s.loc x.toNat= .Lc i from(hf.q i _ hi (by show x.toNat∈s.q i;rw[hq];simp)).2];rfl)
  ·exact h.gL rfl rfl rfl
 | qa t x Al =>
  have P:=(hd.1 i hi).ph;unfold pT at P;rw[hp]at P;simp only at P;unfold Am.aC;rw[hp];simp only;split
  ·rename_i hw;exact h.put (f:=x.toNat) (l:=.held i) rfl rfl rfl (λ_=>by rw[show s.loc x.toNat= .pop i from(hf.pop i _ hi (P.2.2.2 hw).1).2];rfl)
  ·exact h.gL rfl rfl rfl
 | ny v t x =>
  have HT:=hd.2 i hi;unfold Th at HT;rw[hp]at HT;simp only at HT;unfold Am.aC;rw[hp];simp only;split
  ·rename_i ht;obtain⟨y,l,hq,hx⟩:=HT.2.2.2 ht.symm;exact h.put (f:=x.toNat) (l:=.held i) rfl rfl rfl (λ_=>by rw[show s.loc x.toNat= .Lc v from(hf.q v _ HT.1 (by show x.toNat∈s.q v;rw[hq,hx];simp)).2];rfl)
  ·exact h.gL rfl rfl rfl
 | _ =>
  unfold Am.aC;rw[hp];simp only[lU,looking,yp]
  repeat' split
  all_goals exact h.gL rfl rfl rfl
end
def tG(C:jt):Nat->Nat
 | 0=>C.first
 | g+1=>min (2*tG C g) C.most
def lV:Pc->Bool
 | .mS .. | .kP .. | .j8 .. | .mT .. => true
 | _=>false
def gen(s:St)(j:Nat):Nat:=s.cur j+(if lV (s.pc j)then 1 else 0)
def tot(C:jt):Nat->Nat
 | 0=>0
 | g+1=>tot C g+1+tG C (g+1)
def S0(C:jt):Nat:=4+10*C.F+C.N+C.N*(4+C.first)
def wW(C:jt)(j:Nat):Nat:=4+10*C.F+C.N+j*(4+C.first)
def fU(f:Nat->Nat):Nat->Nat
 | 0=>0
 | n+1=>fU f n+f n
theorem pP{f g:Nat->Nat}:∀{n:Nat},(∀j,j<n->f j=g j)->fU f n=fU g n
 | 0,_=>rfl
 | n+1,h=>by simp only[fU];rw[pP (λj hj=>h j I),h n I]
theorem nW{f g:Nat->Nat}{i k:Nat}:∀{n:Nat},i<n->(∀j,j≠i->g j=f j)->g i=f i+k->fU g n=fU f n+k
 | n+1,hi,h,e=>by
  simp only[fU];by_cases hn:i=n
  ·subst hn;rw[pP (f:=g) (g:=f) (λj hj=>h j I),e];omega
  ·rw[nW (n:=n) I h e,h n I];omega
theorem Lo{f:Nat->Nat}{k:Nat}:∀{n:Nat},(∀j,j<n->f j<=k)->fU f n<=n*k
 | 0,_=>by simp[fU]
 | n+1,h=>by simp only[fU];have:=Lo (n:=n) (λj hj=>h j I);have:=h n I;rw[FW];omega
theorem AH(C:jt)(g:Nat):iY C (tG C g)=(tG C (g+1):Int):=by
 unfold iY;simp only[tG];split<;>omega
theorem GR{C:jt}(h:C.OK):∀g,1<=tG C g
 | 0=>h.c1
 | g+1=>by have:=GR h g;have:=h.c1;have:=h.cm;simp only[tG];omega
theorem O2{C:jt}(h:C.OK):∀g,tG C g<=C.most
 | 0=>h.cm
 | g+1=>by simp only[tG];omega
structure SZ(C:jt)(s:St):Prop where
 cap:∀j,j<C.N->∀g,g<=s.cur j->s.mem (.cap j g)=tG C g
 Ur:∀j,j<C.N->s.base j 0=wW C j+3
 size:s.size=S0 C+fU (λj=>tot C (gen s j)) C.N
 bs:∀j,j<C.N->∀g,1<=g->g<=gen s j->(S0 C:Int)<=s.base j g/\s.base j g+1+tG C g<=s.size
 dj:∀j j' g g',j<C.N->j'<C.N->1<=g->1<=g'->g<=gen s j->g'<=gen s j'->(j≠j'∨g≠g')->s.base j g+1+tG C g<=s.base j' g'∨s.base j' g'+1+tG C g'<=s.base j g
 gm:∀j,j<C.N->∀g,g<gen s j->tG C g<C.most
section
variable {C:jt}{s:St}{i:Nat}
theorem SZ.of{s':St}(h:SZ C s)(h1:s'.cur=s.cur)(h2:∀j,lV (s'.pc j)=lV (s.pc j))(h3:s'.base=s.base)(h4:s'.size=s.size)
 (h5:∀j g,g<=s.cur j->s'.mem (.cap j g)=s.mem (.cap j g)):SZ C s':=by
 obtain⟨a1,a2,a3,a4,a5,a6⟩:=h;have hg:gen s'=gen s:=by funext j;unfold gen;rw[h1,h2]
 exact⟨λj hj g O3=>by rw[h1]at O3;rw[h5 j g O3];exact a1 j hj g O3,by rw[h3];exact a2,by rw[h4,hg];exact a3,by rw[h3,h4,hg];exact a4,by rw[h3,hg];exact a5,by rw[hg];exact a6⟩
def tF.QC:tF->Bool
 | .cap .. => true
 | _=>false
theorem Nq{s':St}{p:Pc}(h:s'.pc=bJ s.pc i p)(hp:lV p=lV (s.pc i))(j:Nat):lV (s'.pc j)=lV (s.pc j):=by
 rw[h,cA];split
 ·next e=>rw[e,hp]
 ·rfl
theorem SZ.gL{s':St}{p:Pc}(h:SZ C s)(hp:s'.pc=bJ s.pc i p)(hg:lV p=lV (s.pc i))(h1:s'.cur=s.cur)(h3:s'.base=s.base)(h4:s'.size=s.size)
 (hm:∀a,a.QC=true->s'.mem a=s.mem a):SZ C s':=
 h.of h1 (Nq hp hg) h3 h4 (λ_ _ _=>hm _ rfl)
theorem wX{a x:tF}{v:Int}(h:a.QC=false):x.QC=true->(s.wr a v).mem x=s.mem x:=λhx=>kq (by rintro rfl;rw[h]at hx;cases hx)
theorem SZ.same{s':St}(h:SZ C s)(hp:s'.pc=s.pc)(h1:s'.cur=s.cur)(h3:s'.base=s.base)(h4:s'.size=s.size)
 (hm:∀a,a.QC=true->s'.mem a=s.mem a):SZ C s':=
 h.of h1 (λj=>by rw[hp]) h3 h4 (λ_ _ _=>hm _ rfl)
theorem SZ.instr(h:SZ C s)(hp:s.pc i= .run):SZ C (instr C s i).s:=by
 unfold Am.instr;simp only;split
 ·exact h.same rfl rfl rfl rfl (λ_ _=>rfl)
 ·exact h.same rfl rfl rfl rfl (λ_ _=>rfl)
 ·exact h.same rfl rfl rfl rfl (λ_ _=>rfl)
 ·exact h.same rfl rfl rfl rfl (λ_ _=>rfl)
 ·exact h.same rfl rfl rfl rfl (λ_ _=>rfl)
 ·exact h.same rfl rfl rfl rfl (λ_ _=>rfl)
 ·exact h.same rfl rfl rfl rfl (λ_ _=>rfl)
 ·split<;>exact h.gL rfl (by rw[hp];rfl) rfl rfl rfl (λ_=>wX rfl)
 ·split<;>exact h.gL rfl (by rw[hp];rfl) rfl rfl rfl (λ_=>wX rfl)
 ·split<;>exact h.gL rfl (by rw[hp];rfl) rfl rfl rfl (λ_=>wX rfl)
theorem FJ(h:SZ C s)(hi:i<C.N):s.cc i=tG C (s.cur i):=h.cap i hi _ (ja _)
theorem SZ.aC(hC:C.OK)(h:SZ C s)(hd:DT C s)(hi:i<C.N)(d:Int):SZ C (aC C s i d).s:=by
 have P:=(hd.1 i hi).ph;cases hp:s.pc i with
 | run=>unfold Am.aC;rw[hp];exact h.instr hp
 | halted=>unfold Am.aC;rw[hp];exact h
 | full=>unfold Am.aC;rw[hp];exact h
 | parked =>
  unfold Am.aC;rw[hp];simp only;split
  ·exact h
  ·exact h.gL rfl (by rw[hp];split<;>rfl) rfl rfl rfl (λ_ _=>rfl)
 | grow c b t cc =>
  unfold pT at P;rw[hp]at P;simp only at P;have hg:gen s i=s.cur i:=by unfold gen;rw[hp];rfl
  have Sm:cc=tG C (s.cur i):=by rw[P.2.2.2.2.1];exact FJ h hi
  have hb:iY C cc=tG C (s.cur i+1):=by rw[Sm];exact AH C _
  unfold Am.aC;rw[hp];simp only;obtain⟨a1,a2,a3,a4,a5,a6⟩:=h;have hs:(S0 C:Int)<=s.size:=by rw[a3];omega
  refine⟨?_,?_,?_,?_,?_,?_⟩
  ·intro j hj g O3;simp only[St.to]at O3⊢;rw[bZ (by rintro⟨rfl,rfl⟩;omega)];exact a1 j hj g O3
  ·intro j hj;simp only[St.to,cA];split
   ·next e=>subst e;rw[aA I];exact a2 j hj
   ·exact a2 j hj
  ·simp only[St.to];rw[nW (f:=λj=>tot C (gen s j)) (i:=i) (k:=1+tG C (s.cur i+1)) hi,a3,hb]
   ·omega
   ·intro j hj;unfold gen;simp only[aA hj]
   ·unfold gen;simp only[aF,lV,if_true,hp];simp only[tot,G5,if_false,w5];omega
  ·intro j hj g h1 h2;simp only[St.to]at h2⊢;by_cases e:j=i
   ·subst e;simp only[gen,aF,lV,if_true]at h2;simp only[aF];by_cases e2:g=s.cur j+1
    ·subst e2;rw[aF,hb];exact⟨hs,I⟩
    ·rw[aA e2,hb];have:=a4 j hj g h1 (by rw[hg];omega);exact⟨this.1,I⟩
   ·simp only[gen,aA e]at h2;simp only[aA e];have:=a4 j hj g h1 (by unfold gen;exact h2);exact⟨this.1,I⟩
  ·intro j j' g g' hj hj' h1 h1' h2 h2' hne;simp only[St.to]at h2 h2'⊢;have key:∀k x,k<C.N->1<=x->x<=gen s k->s.base k x+1+tG C x<=s.size:=λk x hk h1 h2=>(a4 k hk x h1 h2).2;have gk:∀k x,x<=gen {s with base:=bJ s.base i (bJ (s.base i) (s.cur i+1) s.size),pc:=bJ s.pc i (.mS c b t cc)} k->(k=i/\x=s.cur i+1)∨(x<=gen s k/\¬(k=i/\x=s.cur i+1)):=by
    intro k x hx;by_cases e:k=i
    ·subst e;simp only[gen,aF,lV,if_true]at hx;by_cases e2:x=s.cur k+1
     ·exact .inl ⟨rfl,e2⟩
     ·exact .inr ⟨by rw[hg];omega,λh=>e2 h.2⟩
    ·simp only[gen,aA e]at hx;exact .inr ⟨hx,λh=>e h.1⟩
   have bk:∀k x,¬(k=i/\x=s.cur i+1)->bJ s.base i (bJ (s.base i) (s.cur i+1) s.size) k x=s.base k x:=by
    intro k x hx;simp only[cA];split
    ·next e=>subst e;rw[aA (λe=>hx ⟨rfl,e⟩)]
    ·rfl
   have bn:bJ s.base i (bJ (s.base i) (s.cur i+1) s.size) i (s.cur i+1)=s.size:=by rw[aF,aF]
   rcases gk j g h2 with ⟨rfl,rfl⟩ | ⟨c1,c2⟩
   ·rcases gk j' g' h2' with ⟨rfl,rfl⟩ | ⟨c1',c2'⟩
    ·simp at hne
    ·right;rw[bn,bk _ _ c2'];exact key j' g' hj' h1' c1'
   ·rcases gk j' g' h2' with ⟨rfl,rfl⟩ | ⟨c1',c2'⟩
    ·left;rw[bn,bk _ _ c2];exact key j g hj h1 c1
    ·rw[bk _ _ c2,bk _ _ c2'];exact a5 j j' g g' hj hj' h1 h1' c1 c1' hne
  ·intro j hj g O3;simp only[St.to]at O3;by_cases e:j=i
   ·subst e;simp only[gen,aF,lV,if_true]at O3;by_cases e2:g=s.cur j
    ·have:=P.2.2.2.2.2.2;rw[Sm]at this;rw[e2];omega
    ·exact a6 j hj g (by rw[hg];omega)
   ·simp only[gen,aA e]at O3;exact a6 j hj g O3
 | mS c b t cc =>
  unfold Am.aC;rw[hp];simp only;refine h.of rfl (Nq (p:=.kP c b t cc t) rfl (by rw[hp];rfl)) rfl rfl (λj g hg=>kq (by intro e;cases e;omega))
 | j8 c b t cc n x =>
  unfold Am.aC;rw[hp];simp only;exact h.gL rfl (by rw[hp];split<;>rfl) rfl rfl rfl (λ_=>wX rfl)
 | mT c b t cc =>
  unfold pT at P;rw[hp]at P;simp only at P;have hcap:=P.2.1;rw[FJ h hi,AH]at hcap;unfold Am.aC;rw[hp];simp only;obtain⟨a1,a2,a3,a4,a5,a6⟩:=h;have hg:gen {s.wr (.buf i) (s.base i (s.cur i+1))with cur:=bJ s.cur i (s.cur i+1),pc:=bJ s.pc i (.jV c b (iY C cc))}=gen s:=by
   funext j;unfold gen
   by_cases e:j=i
   ·subst e;simp only[aF,hp,lV,if_true];rfl
   ·simp only[aA e]
  have JY:gen (({s.wr (.buf i) (s.base i (s.cur i+1))with cur:=bJ s.cur i (s.cur i+1)}:St).to i (.jV c b (iY C cc)))=gen s:=hg;refine⟨?_,a2,by rw[JY];exact a3,by rw[JY];exact a4,by rw[JY];exact a5,by rw[JY];exact a6⟩;intro j hj g O3;show bJ s.mem (.buf i) (s.base i (s.cur i+1)) (.cap j g)=_;rw[aA (by simp)];by_cases e:j=i
  ·subst e;simp only[St.to,aF]at O3;by_cases e2:g=s.cur j+1
   ·rw[e2];exact hcap
   ·exact a1 j hj g I
  ·simp only[St.to,aA e]at O3;exact a1 j hj g O3
 | back b =>
  unfold Am.aC;rw[hp];simp only[yp];split
  ·exact h.gL rfl (by rw[hp];rfl) rfl rfl rfl (λ_=>wX rfl)
  ·split
   ·exact h.gL rfl (by rw[hp];rfl) rfl rfl rfl (λ_ _=>rfl)
   ·exact h.gL rfl (by rw[hp];split<;>rfl) rfl rfl rfl (λ_ _=>rfl)
 | v8 b =>
  unfold Am.aC;rw[hp];simp only[yp];split
  ·exact h.gL rfl (by rw[hp];rfl) rfl rfl rfl (λ_=>wX rfl)
  ·exact h.gL rfl (by rw[hp];split<;>rfl) rfl rfl rfl (λ_=>wX rfl)
 | pM t =>
  unfold Am.aC;rw[hp];simp only;exact h.gL rfl (by rw[hp];split<;>rfl) rfl rfl rfl (λ_=>wX rfl)
 | qa t x Al =>
  unfold Am.aC;rw[hp];simp only;split
  ·exact h.gL rfl (by rw[hp];rfl) rfl rfl rfl (λ_=>wX rfl)
  ·exact h.gL rfl (by rw[hp];split<;>rfl) rfl rfl rfl (λ_=>wX rfl)
 | DQ =>
  unfold Am.aC;rw[hp];simp only;exact h.gL rfl (by rw[hp];split<;>rfl) rfl rfl rfl (λ_ _=>rfl)
 | sW j =>
  unfold Am.aC;rw[hp];simp only;split
  ·exact h.gL rfl (by rw[hp];rfl) rfl rfl rfl (λ_=>wX rfl)
  ·exact h.gL rfl (by rw[hp];split<;>rfl) rfl rfl rfl (λ_ _=>rfl)
 | EL =>
  unfold Am.aC;rw[hp];simp only;split
  ·exact h.gL rfl (by rw[hp];rfl) rfl rfl rfl (λ_ _=>rfl)
  ·exact h.gL rfl (by rw[hp];split<;>rfl) rfl rfl rfl (λ_ _=>rfl)
 | _ =>
  unfold Am.aC;rw[hp];simp only[lU,looking,yp]
  repeat' split
  all_goals first
   | exact h.gL rfl (by rw[hp];rfl) rfl rfl rfl (λ_ _=>rfl)
   | exact h.gL rfl (by rw[hp];rfl) rfl rfl rfl (λ_=>wX rfl)
end
def tF.Nr:tF->Bool
 | .next | .join _ | .mark _ | .tW | .top _ | .bot _=>true
 | _=>false
def gR:Pc->List Int
 | .yc _ b=>[b]
 | .q9 _ b t | .rf _ b t | .grow _ b t _ | .mS _ b t _ | .mT _ b t _=>[b,t]
 | .kP _ b t _ n | .j8 _ b t _ n _=>[b,t,n]
 | .jV _ b _ | .n7 _ b=>[b]
 | .wV b | .rJ b | .AB b=>[b]
 | .pM t=>[t]
 | .tP b t | .pS b t _ | .sP b t _=>[b,t]
 | .qa t _ _=>[t]
 | .vU _ t | .rK _ t | .qB _ t _ | .n8 _ t _ _ | .ny _ t _=>[t]
 | .Dq _ t=>[t]
 | _=>[]
def Lp(x:Int)(n:Nat):Prop:=-(n:Int)<=x/\x<=n
structure BD(s:St)(n:Nat):Prop where
 m:∀a,a.Nr=true->Lp (s.mem a) (n+1)
 r:∀i,∀x∈gR (s.pc i),Lp x (n+1)
 k:∀f,(s.fr f).bt<=n
section
variable {C:jt}{s:St}{i n:Nat}
theorem Lp.mono{x:Int}{m:Nat}(h:Lp x n)(hm:n<=m):Lp x m:=⟨by have:=h.1;omega,by have:=h.2;omega⟩
theorem Lp.inc{x:Int}(h:Lp x n):Lp (x+1) (n+1):=⟨by have:=h.1;omega,by have:=h.2;omega⟩
theorem Lp.dec{x:Int}(h:Lp x n):Lp (x-1) (n+1):=⟨by have:=h.1;omega,by have:=h.2;omega⟩
theorem BD.of{s':St}{p:Pc}(h:BD s n)(hm:∀a,a.Nr=true->Lp (s'.mem a) (n+2))(hp:s'.pc=bJ s.pc i p)(hr:∀x∈gR p,Lp x (n+2))(hk:∀f,(s'.fr f).bt<=n+1):BD s' (n+1):=
 ⟨hm,λj x hx=>by
  rw[hp,cA]at hx;split at hx
  ·exact hr x hx
  ·exact(h.r j x hx).mono I,hk⟩
theorem BD.mem(h:BD s n){a:tF}(ha:a.Nr=true):Lp (s.mem a) (n+2):=(h.m a ha).mono I
theorem BD.wr(h:BD s n){b:tF}{v:Int}(hv:b.Nr=true->Lp v (n+2)):∀a,a.Nr=true->Lp ((s.wr b v).mem a) (n+2):=λa ha=>by
 show Lp (bJ s.mem b v a) _;rw[cA];split
 ·next e=>exact hv (e▸ ha)
 ·exact h.mem ha
theorem BD.bt(h:BD s n)(f:Nat):(s.fr f).bt<=n+1:=Nat.le_succ_of_le (h.k f)
theorem BD.lay(h:BD s n){g:Nat}{x:Fr}(hx:x.bt<=n+1)(f:Nat):((s.lay g x).fr f).bt<=n+1:=by
 show(bJ s.fr g x f).bt<=_;rw[cA];split
 ·exact hx
 ·exact h.bt f
theorem BD.aC(h:BD s n)(d:Int):BD (aC C s i d).s (n+1):=by
 have R:=h.r i;cases hp:s.pc i with
 | run =>
  unfold Am.aC;rw[hp];simp only;unfold instr;simp only;split
  ·exact h.of (p:=s.pc i) (λa ha=>h.mem ha) (rL _ _).symm (λx hx=>(R x hx).mono I) (h.lay (h.bt _))
  ·exact h.of (p:=s.pc i) (λa ha=>h.mem ha) (rL _ _).symm (λx hx=>(R x hx).mono I) (h.lay (h.bt _))
  ·exact h.of (p:=s.pc i) (λa ha=>h.mem ha) (rL _ _).symm (λx hx=>(R x hx).mono I) (h.lay (h.bt _))
  ·exact h.of (p:=s.pc i) (λa ha=>h.mem ha) (rL _ _).symm (λx hx=>(R x hx).mono I) (h.lay (h.bt _))
  ·exact h.of (p:=s.pc i) (λa ha=>h.mem ha) (rL _ _).symm (λx hx=>(R x hx).mono I) (h.lay (by split<;>exact h.bt _))
  ·exact h.of (p:=s.pc i) (λa ha=>h.mem ha) (rL _ _).symm (λx hx=>(R x hx).mono I) (h.lay (h.bt _))
  ·exact h.of (p:=s.pc i) (λa ha=>h.mem ha) (rL _ _).symm (λx hx=>(R x hx).mono I) (h.lay (h.bt _))
  ·split
   ·exact h.of (h.wr (λ_=>(h.m .next rfl).inc)) rfl (λx hx=>by cases hx) (h.lay (h.bt _))
   ·refine h.of (h.wr (λ_=>(h.m .next rfl).inc)) rfl (λx hx=>by cases hx) (λf => ?_);simp only[St.lay,St.wr,St.to,St.put,cA];have k1:=h.k ((s.hold i).getD 0);have k2:=h.bt f;split
    ·exact xM _
    ·split
     ·exact Nat.succ_le_succ k1
     ·exact k2
  ·split<;>exact h.of (h.wr (λ_=>(h.m (.join _) rfl).dec)) rfl (λx hx=>by cases hx) (h.lay (h.bt _))
  ·split<;>exact h.of (h.wr (λe=>by cases e)) rfl (λx hx=>by cases hx) (h.lay (h.bt _))
 | halted=>unfold Am.aC;rw[hp];exact h.of (p:=s.pc i) (λa ha=>h.mem ha) (rL _ _).symm (λx hx=>(R x hx).mono I) h.bt
 | full=>unfold Am.aC;rw[hp];exact h.of (p:=s.pc i) (λa ha=>h.mem ha) (rL _ _).symm (λx hx=>(R x hx).mono I) h.bt
 | parked =>
  unfold Am.aC;rw[hp];simp only;split
  ·exact h.of (p:=s.pc i) (λa ha=>h.mem ha) (rL _ _).symm (λx hx=>(R x hx).mono I) h.bt
  ·exact h.of (λa ha=>h.mem ha) rfl (by intro x hx;split at hx<;>cases hx) h.bt
 | grow c b t cc =>
  unfold Am.aC;rw[hp];simp only;rw[hp]at R;refine h.of (λa ha => ?_) rfl (λx hx=>(R x hx).mono I) h.bt;cases a<;>first | exact h.mem ha | cases ha
 | start x=>unfold Am.aC;rw[hp];exact h.of (h.wr (λ_=>(h.m (.mark _) rfl).inc)) rfl (λx hx=>by cases hx) h.bt
 | fork c=>unfold Am.aC;rw[hp];exact h.of (h.wr (λ_=>(h.m (.join _) rfl).inc)) rfl (λx hx=>by cases hx) h.bt
 | nP=>unfold Am.aC;rw[hp];exact h.of (h.wr (λ_=>⟨I,I⟩)) rfl (λx hx=>by cases hx) h.bt
 | out p c=>unfold Am.aC;rw[hp];simp only;split<;>exact h.of (h.wr (λ_=>(h.m (.join _) rfl).dec)) rfl (λx hx=>by cases hx) h.bt
 | take p c=>unfold Am.aC;rw[hp];exact h.of (h.wr (λ_=>⟨I,I⟩)) rfl (λx hx=>by cases hx) h.bt
 | done=>unfold Am.aC;rw[hp];simp only[lU];split<;>exact h.of (h.wr (λe=>by cases e)) rfl (λx hx=>by cases hx) h.bt
 | tell j =>
  unfold Am.aC;rw[hp];simp only[lU];split
  ·exact h.of (h.wr (λe=>by cases e)) rfl (λx hx=>by cases hx) h.bt
  ·split<;>exact h.of (λa ha=>h.mem ha) rfl (λx hx=>by cases hx) h.bt
 | xA j=>unfold Am.aC;rw[hp];simp only[lU];split<;>exact h.of (h.wr (λ_=>(h.m .tW rfl).dec)) rfl (λx hx=>by cases hx) h.bt
 | zP c=>unfold Am.aC;rw[hp];exact h.of (λa ha=>h.mem ha) rfl (λx hx=>by rw[List.mem_singleton.1 hx];exact h.mem (a:=.bot i) rfl) h.bt
 | yc c b =>
  unfold Am.aC;rw[hp];rw[hp]at R;simp only;exact h.of (λa ha=>h.mem ha) rfl (λx hx=>by
   simp only[gR,tX,tY,tZ]at hx;rcases hx with rfl | rfl
   ·exact(R _ (by simp[gR])).mono I
   ·exact h.mem (a:=.top i) rfl) h.bt
 | q9 c b t =>
  unfold Am.aC;rw[hp];rw[hp]at R;simp only;exact h.of (λa ha=>h.mem ha) rfl (λx hx=>by
   simp only[gR,tX,tY,tZ]at hx;rcases hx with rfl | rfl
   ·exact(R _ (by simp[gR])).mono I
   ·exact(R _ (by simp[gR])).mono I) h.bt
 | rf c b t =>
  unfold Am.aC;rw[hp];rw[hp]at R;simp only;split
  ·exact h.of (λa ha=>h.mem ha) rfl (λx hx=>by rw[List.mem_singleton.1 hx];exact(R _ (by simp[gR])).mono I) h.bt
  ·split
   ·exact h.of (λa ha=>h.mem ha) rfl (λx hx=>by cases hx) h.bt
   ·exact h.of (λa ha=>h.mem ha) rfl (λx hx=>by
    simp only[gR,tX,tY,tZ]at hx;rcases hx with rfl | rfl
    ·exact(R _ (by simp[gR])).mono I
    ·exact(R _ (by simp[gR])).mono I) h.bt
 | mS c b t cc =>
  unfold Am.aC;rw[hp];rw[hp]at R;simp only;exact h.of (h.wr (λe=>by cases e)) rfl (λx hx=>by
   simp only[gR,tX,tY,tZ]at hx;rcases hx with rfl | rfl | rfl
   ·exact(R _ (by simp[gR])).mono I
   ·exact(R _ (by simp[gR])).mono I
   ·exact(R _ (by simp[gR])).mono I) h.bt
 | kP c b t cc n =>
  unfold Am.aC;rw[hp];rw[hp]at R;simp only;exact h.of (λa ha=>h.mem ha) rfl (λx hx=>by
   simp only[gR,tX,tY,tZ]at hx;rcases hx with rfl | rfl | rfl
   ·exact(R _ (by simp[gR])).mono I
   ·exact(R _ (by simp[gR])).mono I
   ·exact(R _ (by simp[gR])).mono I) h.bt
 | j8 c b t cc n x =>
  unfold Am.aC;rw[hp];rw[hp]at R;simp only;refine h.of (h.wr (λe=>by cases e)) rfl (λy hy => ?_) h.bt;split at hy
  ·simp only[gR,tX,tY,tZ]at hy;rcases hy with rfl | rfl | rfl
   ·exact(R _ (by simp[gR])).mono I
   ·exact(R _ (by simp[gR])).mono I
   ·exact(R n (by simp[gR])).inc
  ·simp only[gR,tX,tY,tZ]at hy;rcases hy with rfl | rfl
   ·exact(R _ (by simp[gR])).mono I
   ·exact(R _ (by simp[gR])).mono I
 | mT c b t cc =>
  unfold Am.aC;rw[hp];rw[hp]at R;simp only;exact h.of (h.wr (λe=>by cases e)) rfl (λx hx=>by rw[List.mem_singleton.1 hx];exact(R _ (by simp[gR])).mono I) h.bt
 | jV c b cc =>
  unfold Am.aC;rw[hp];rw[hp]at R;simp only;exact h.of (h.wr (λe=>by cases e)) rfl (λx hx=>by rw[List.mem_singleton.1 hx];exact(R _ (by simp[gR])).mono I) h.bt
 | n7 c b =>
  unfold Am.aC;rw[hp];rw[hp]at R;simp only;exact h.of (h.wr (λ_=>(R b (by simp[gR])).inc)) rfl (λx hx=>by cases hx) h.bt
 | DQ =>
  unfold Am.aC;rw[hp];rw[hp]at R;simp only;refine h.of (λa ha=>h.mem ha) rfl (λy hy => ?_) h.bt;split at hy<;>cases hy
 | sW j =>
  unfold Am.aC;rw[hp];rw[hp]at R;simp only;split
  ·exact h.of (h.wr (λe=>by cases e)) rfl (λx hx=>by cases hx) h.bt
  ·refine h.of (λa ha=>h.mem ha) rfl (λy hy => ?_) h.bt;split at hy<;>cases hy
 | vm j =>
  unfold Am.aC;rw[hp];rw[hp]at R;simp only;exact h.of (h.wr (λ_=>(h.m .tW rfl).dec)) rfl (λx hx=>by cases hx) h.bt
 | Bw =>
  unfold Am.aC;rw[hp];rw[hp]at R;simp only;exact h.of (λa ha=>h.mem ha) rfl (λx hx=>by rw[List.mem_singleton.1 hx];exact(h.m (.bot i) rfl).dec) h.bt
 | wV b =>
  unfold Am.aC;rw[hp];rw[hp]at R;simp only;exact h.of (λa ha=>h.mem ha) rfl (λx hx=>by rw[List.mem_singleton.1 hx];exact(R _ (by simp[gR])).mono I) h.bt
 | rJ b =>
  unfold Am.aC;rw[hp];rw[hp]at R;simp only;exact h.of (h.wr (λ_=>(R b (by simp[gR])).mono I)) rfl (λx hx=>by rw[List.mem_singleton.1 hx];exact(R _ (by simp[gR])).mono I) h.bt
 | AB b =>
  unfold Am.aC;rw[hp];rw[hp]at R;simp only;split
  ·exact h.of (λa ha=>h.mem ha) rfl (λx hx=>by
   simp only[gR,tX,tY,tZ]at hx;rcases hx with rfl | rfl
   ·exact(R _ (by simp[gR])).mono I
   ·exact h.mem (a:=.top i) rfl) h.bt
  ·split
   ·exact h.of (λa ha=>h.mem ha) rfl (λx hx=>by
    simp only[gR,tX,tY,tZ]at hx;rcases hx with rfl | rfl
    ·exact(R _ (by simp[gR])).mono I
    ·exact h.mem (a:=.top i) rfl) h.bt
   ·exact h.of (λa ha=>h.mem ha) rfl (λx hx=>by rw[List.mem_singleton.1 hx];exact h.mem (a:=.top i) rfl) h.bt
 | pM t =>
  unfold Am.aC;rw[hp];rw[hp]at R;simp only;refine h.of (h.wr (λ_=>(R t (by simp[gR])).mono I)) rfl (λy hy => ?_) h.bt;split at hy<;>cases hy
 | tP b t =>
  unfold Am.aC;rw[hp];rw[hp]at R;simp only;exact h.of (λa ha=>h.mem ha) rfl (λx hx=>by
   simp only[gR,tX,tY,tZ]at hx;rcases hx with rfl | rfl
   ·exact(R _ (by simp[gR])).mono I
   ·exact(R _ (by simp[gR])).mono I) h.bt
 | pS b t cc =>
  unfold Am.aC;rw[hp];rw[hp]at R;simp only;split
  ·exact h.of (λa ha=>h.mem ha) rfl (λx hx=>by cases hx) h.bt
  ·exact h.of (λa ha=>h.mem ha) rfl (λx hx=>by
   simp only[gR,tX,tY,tZ]at hx;rcases hx with rfl | rfl
   ·exact(R _ (by simp[gR])).mono I
   ·exact(R _ (by simp[gR])).mono I) h.bt
 | sP b t x =>
  unfold Am.aC;rw[hp];rw[hp]at R;simp only;split
  ·exact h.of (h.wr (λ_=>(R t (by simp[gR])).inc)) rfl (λx hx=>by rw[List.mem_singleton.1 hx];exact(R _ (by simp[gR])).mono I) h.bt
  ·exact h.of (λa ha=>h.mem ha) rfl (λx hx=>by rw[List.mem_singleton.1 hx];exact(R _ (by simp[gR])).mono I) h.bt
 | qa t x Al =>
  unfold Am.aC;rw[hp];rw[hp]at R;simp only;split
  ·exact h.of (h.wr (λ_=>(R t (by simp[gR])).inc)) rfl (λx hx=>by cases hx) h.bt
  ·refine h.of (h.wr (λ_=>(R t (by simp[gR])).inc)) rfl (λy hy => ?_) h.bt;split at hy<;>cases hy
 | jQ =>
  unfold Am.aC;rw[hp];rw[hp]at R;simp only;exact h.of (λa ha=>h.mem ha) rfl (λx hx=>by rw[List.mem_singleton.1 hx];exact h.mem (a:=.top _) rfl) h.bt
 | vU v t =>
  unfold Am.aC;rw[hp];rw[hp]at R;simp only;split
  ·exact h.of (λa ha=>h.mem ha) rfl (λx hx=>by cases hx) h.bt
  ·exact h.of (λa ha=>h.mem ha) rfl (λx hx=>by rw[List.mem_singleton.1 hx];exact(R _ (by simp[gR])).mono I) h.bt
 | rK v t =>
  unfold Am.aC;rw[hp];rw[hp]at R;simp only;exact h.of (λa ha=>h.mem ha) rfl (λx hx=>by rw[List.mem_singleton.1 hx];exact(R _ (by simp[gR])).mono I) h.bt
 | qB v t g =>
  unfold Am.aC;rw[hp];rw[hp]at R;simp only;exact h.of (λa ha=>h.mem ha) rfl (λx hx=>by rw[List.mem_singleton.1 hx];exact(R _ (by simp[gR])).mono I) h.bt
 | n8 v t g cc =>
  unfold Am.aC;rw[hp];rw[hp]at R;simp only;exact h.of (λa ha=>h.mem ha) rfl (λx hx=>by rw[List.mem_singleton.1 hx];exact(R _ (by simp[gR])).mono I) h.bt
 | ny v t x =>
  unfold Am.aC;rw[hp];rw[hp]at R;simp only;split
  ·exact h.of (h.wr (λ_=>(R t (by simp[gR])).inc)) rfl (λx hx=>by cases hx) h.bt
  ·exact h.of (λa ha=>h.mem ha) rfl (λx hx=>by cases hx) h.bt
 | EL =>
  unfold Am.aC;rw[hp];rw[hp]at R;simp only;split
  ·exact h.of (λa ha=>h.mem ha) rfl (λx hx=>by cases hx) h.bt
  ·refine h.of (λa ha=>h.mem ha) rfl (λy hy => ?_) h.bt;split at hy<;>cases hy
 | flag =>
  unfold Am.aC;rw[hp];rw[hp]at R;simp only;exact h.of (h.wr (λe=>by cases e)) rfl (λx hx=>by cases hx) h.bt
 | sleep =>
  unfold Am.aC;rw[hp];rw[hp]at R;simp only;exact h.of (h.wr (λ_=>(h.m .tW rfl).inc)) rfl (λx hx=>by cases hx) h.bt
 | vn =>
  unfold Am.aC;rw[hp];rw[hp]at R;simp only[looking];split
  ·exact h.of (λa ha=>h.mem ha) rfl (λx hx=>by cases hx) h.bt
  ·split<;>exact h.of (λa ha=>h.mem ha) rfl (λx hx=>by cases hx) h.bt
 | Dp j =>
  unfold Am.aC;rw[hp];rw[hp]at R;simp only;exact h.of (λa ha=>h.mem ha) rfl (λx hx=>by rw[List.mem_singleton.1 hx];exact h.mem (a:=.top j) rfl) h.bt
 | Dq j t =>
  unfold Am.aC;rw[hp];rw[hp]at R;simp only[looking];split
  ·exact h.of (λa ha=>h.mem ha) rfl (λx hx=>by cases hx) h.bt
  ·split<;>exact h.of (λa ha=>h.mem ha) rfl (λx hx=>by cases hx) h.bt
 | back b =>
  unfold Am.aC;rw[hp];rw[hp]at R;simp only[yp];split
  ·exact h.of (h.wr (λe=>by cases e)) rfl (λx hx=>by cases hx) h.bt
  ·split
   ·exact h.of (λa ha=>h.mem ha) rfl (λx hx=>by cases hx) h.bt
   ·refine h.of (λa ha=>h.mem ha) rfl (λy hy => ?_) h.bt;split at hy<;>cases hy
 | v8 b =>
  unfold Am.aC;rw[hp];rw[hp]at R;simp only[yp];split
  ·exact h.of (h.wr (λ_=>(h.m .tW rfl).dec)) rfl (λx hx=>by cases hx) h.bt
  ·refine h.of (h.wr (λ_=>(h.m .tW rfl).dec)) rfl (λy hy => ?_) h.bt;split at hy<;>cases hy
end
def FK(C:jt)(s:St):tF->Prop
 | .result | .next | .tW | .E5=>True
 | .join f | .mark f=>f<C.F
 | .slot f k=>f<C.F/\k<8
 | .flag i | .top i | .bot i | .buf i=>i<C.N
 | .cap i g=>i<C.N/\g<=gen s i
 | .el i g n=>i<C.N/\g<=gen s i/\n<tG C g
def cB(C:jt)(s:St):tF->Int
 | .result=>0
 | .next=>1
 | .join f=>2+10*f
 | .mark f=>3+10*f
 | .slot f k=>4+10*f+k
 | .tW=>2+10*C.F
 | .E5=>3+10*C.F
 | .flag i=>4+10*C.F+i
 | .top i=>wW C i
 | .bot i=>wW C i+1
 | .buf i=>wW C i+2
 | .cap i g=>s.base i g
 | .el i g n=>s.base i g+1+n
inductive O4 | fix (x:Int) | dq (i r:Nat) | gr (i g r:Nat)
def Ns(C:jt):tF->O4
 | .result=>.fix 0
 | .next=>.fix 1
 | .join f=>.fix (2+10*f)
 | .mark f=>.fix (3+10*f)
 | .slot f k=>.fix (4+10*f+k)
 | .tW=>.fix (2+10*C.F)
 | .E5=>.fix (3+10*C.F)
 | .flag i=>.fix (4+10*C.F+i)
 | .top i=>.dq i 0
 | .bot i=>.dq i 1
 | .buf i=>.dq i 2
 | .cap i g=>if g=0 then .dq i 3 else .gr i g 0
 | .el i g n=>if g=0 then .dq i (4+n)else .gr i g (1+n)
section
variable {C:jt}{s:St}
theorem Lr{i:Nat}(h:i<C.N):wW C i+(4+C.first)<=S0 C:=by
 unfold wW S0;have:(i+1)*(4+C.first)<=C.N*(4+C.first):=rQ _ h;rw[FW]at this;omega
theorem QD(i:Nat):4+10*C.F+C.N<=wW C i:=by unfold wW;omega
theorem Kg{i j:Nat}(h:i<j):wW C i+(4+C.first)<=wW C j:=by
 unfold wW;have:(i+1)*(4+C.first)<=j*(4+C.first):=rQ _ h;rw[FW]at this;omega
def zin(C:jt)(s:St)(z:O4)(x:Int):Prop:=
 match z with
 | .fix y=>x=y/\0<=y/\y<4+10*C.F+C.N
 | .dq i r=>i<C.N/\r<4+C.first/\x=wW C i+r
 | .gr i g r=>i<C.N/\1<=g/\g<=gen s i/\r<1+tG C g/\x=s.base i g+r
theorem Lt(h:SZ C s){a:tF}(ha:FK C s a):zin C s (Ns C a) (cB C s a):=by
 cases a with
 | result=>exact⟨rfl,I,I⟩
 | next=>exact⟨rfl,I,I⟩
 | tW=>exact⟨rfl,I,I⟩
 | E5=>exact⟨rfl,I,I⟩
 | join f=>have:f<C.F:=ha;exact⟨rfl,I,I⟩
 | mark f=>have:f<C.F:=ha;exact⟨rfl,I,I⟩
 | slot f k=>have:f<C.F/\k<8:=ha;exact⟨rfl,I,I⟩
 | flag i=>have:i<C.N:=ha;exact⟨rfl,I,I⟩
 | top i=>exact⟨ha,I,by simp[cB]⟩
 | bot i=>exact⟨ha,I,by simp[cB]⟩
 | buf i=>exact⟨ha,I,by simp[cB]⟩
 | cap i g =>
  by_cases e:g=0
  ·subst e;simp only[Ns,if_true];exact⟨ha.1,I,by simp only[cB];rw[h.Ur i ha.1];omega⟩
  ·simp only[Ns,bZ e];exact⟨ha.1,I,ha.2,I,by simp[cB]⟩
 | el i g n =>
  by_cases e:g=0
  ·subst e;simp only[Ns,if_true];exact⟨ha.1,by have:=ha.2.2;simp only[tG]at this;omega,by simp only[cB];rw[h.Ur i ha.1];omega⟩
  ·simp only[Ns,bZ e];exact⟨ha.1,I,ha.2.1,by have:=ha.2.2;omega,by simp only[cB];omega⟩
theorem ZW(h:SZ C s){z:O4}{x:Int}(hz:zin C s z x):0<=x/\x<s.size:=by
 have hs:(S0 C:Int)<=s.size:=by rw[h.size];omega
 have h0:4+10*C.F+C.N<=S0 C:=by unfold S0;omega
 cases z with
 | fix y=>obtain⟨rfl,a,b⟩:=hz;omega
 | dq i r=>obtain⟨a,b,rfl⟩:=hz;have:=Lr a;omega
 | gr i g r=>obtain⟨a,b,c,d,rfl⟩:=hz;have:=h.bs i a g b c;omega
theorem WU(h:SZ C s){z z':O4}{x:Int}(hz:zin C s z x)(Oa:zin C s z' x):z=z':=by
 have h0:4+10*C.F+C.N<=S0 C:=by unfold S0;omega
 cases z with
 | fix y =>
  obtain⟨rfl,a,b⟩:=hz;cases z' with
  | fix y'=>obtain⟨rfl,_,_⟩:=Oa;rfl
  | dq i r=>obtain⟨a',b',c'⟩:=Oa;have:=QD (C:=C) i;omega
  | gr i g r=>obtain⟨a',b',c',d',e'⟩:=Oa;have:=h.bs i a' g b' c';omega
 | dq i r =>
  obtain⟨a,b,c⟩:=hz;have hi:=Lr a;cases z' with
  | fix y'=>obtain⟨rfl,_,_⟩:=Oa;have:=QD (C:=C) i;omega
  | dq i' r' =>
   obtain⟨a',b',c'⟩:=Oa;rcases Nat.lt_trichotomy i i' with e | e | e
   ·have:=Kg (C:=C) e;omega
   ·subst e;have:r=r':=by omega
    rw[this]
   ·have:=Kg (C:=C) e;omega
  | gr i' g r'=>obtain⟨a',b',c',d',e'⟩:=Oa;have:=h.bs i' a' g b' c';omega
 | gr i g r =>
  obtain⟨a,b,c,d,e⟩:=hz;have hb:=h.bs i a g b c;cases z' with
  | fix y'=>obtain⟨rfl,_,_⟩:=Oa;omega
  | dq i' r'=>obtain⟨a',b',c'⟩:=Oa;have:=Lr a';omega
  | gr i' g' r' =>
   obtain⟨a',b',c',d',e'⟩:=Oa;by_cases hh:i≠i'∨g≠g'
   ·have:=h.dj i i' g g' a a' b b' c c' hh;omega
   ·have e1:i=i':=Decidable.byContradiction λe=>hh (.inl e);have e2:g=g':=Decidable.byContradiction λe=>hh (.inr e);subst e1;subst e2;have:r=r':=by omega
    rw[this]
theorem Us(h:SZ C s){a b:tF}(ha:FK C s a)(hb:FK C s b)(e:Ns C a=Ns C b):a=b:=by
 cases a<;>cases b<;>simp only[Ns]at e<;>simp only[FK]at ha hb<;>(try rfl)<;>(repeat' split at e)<;>simp only[O4.fix.injEq,O4.dq.injEq,O4.gr.injEq,reduceCtorEq]at e<;>first
  | omega
  | (exfalso;revert e ha hb;simp;done)
  | (simp only[tF.join.injEq,tF.mark.injEq,tF.slot.injEq,tF.flag.injEq,tF.top.injEq,tF.bot.injEq,tF.buf.injEq,tF.cap.injEq,tF.el.injEq];first | omega | (refine⟨?_,?_⟩<;>omega) | (refine⟨?_,?_,?_⟩<;>omega))
theorem RM(h:SZ C s){a b:tF}(ha:FK C s a)(hb:FK C s b)(e:cB C s a=cB C s b):a=b:=
 Us h ha hb (WU h (Lt h ha) (e▸ Lt h hb))
theorem EO(h:SZ C s){a:tF}(ha:FK C s a):0<=cB C s a/\cB C s a<s.size:=ZW h (Lt h ha)
structure CL(C:jt)(s:St)(c:List Int):Prop where
 len:(c.length:Int)=s.size
 get:∀a,FK C s a->c.getD (cB C s a).toNat 0=s.mem a
theorem CL.FL{c:List Int}(h:CL C s c)(hz:SZ C s){a:tF}(ha:FK C s a):0<=cB C s a/\cB C s a<c.length/\(cB C s a).toNat<c.length:=by
 have:=EO hz ha;have:=h.len;omega
theorem CL.of{s':St}{c:List Int}(h:CL C s c)(h1:s'.mem=s.mem)(h2:s'.size=s.size)(h3:s'.base=s.base)(h4:gen s'=gen s):CL C s' c:=by
 have e1:∀a,FK C s' a=FK C s a:=λa=>by cases a<;>simp only[FK,h4]
 have e2:∀a,cB C s' a=cB C s a:=λa=>by cases a<;>simp only[cB,h3]
 exact⟨by rw[h2];exact h.len,λa ha=>by rw[e2,h1];exact h.get a (e1 a▸ ha)⟩
theorem CL.set{s':St}{c:List Int}{b:tF}{v:Int}(h:CL C s c)(hz:SZ C s)(hb:FK C s b)(h1:s'.mem=bJ s.mem b v)(h2:s'.size=s.size)(h3:s'.base=s.base)(h4:gen s'=gen s):CL C s' (c.set (cB C s b).toNat v):=by
 have e1:∀a,FK C s' a=FK C s a:=λa=>by cases a<;>simp only[FK,h4]
 have e2:∀a,cB C s' a=cB C s a:=λa=>by cases a<;>simp only[cB,h3]
 refine⟨by rw[h2,gV];exact h.len,λa ha => ?_⟩;rw[e1]at ha;rw[e2,h1,cA,List.getD_eq_getElem?_getD,List.getElem?_set];have la:=h.FL hz ha;have lb:=h.FL hz hb;by_cases e:a=b
 ·subst e;rw[aM rfl,aM la.2.2,aM rfl];rfl
 ·have hne:(cB C s b).toNat≠(cB C s a).toNat:=λe'=>e (RM hz ha hb I);rw[bZ hne,bZ e,<-List.getD_eq_getElem?_getD];exact h.get a ha
theorem CL.grow{s':St}{c:List Int}{i:Nat}(h:CL C s c)(hz:SZ C s)(hi:i<C.N)(hg:gen s i=s.cur i)
 (h1:∀a,s'.mem a=match a with | .cap i' g'=>if i'=i/\g'=s.cur i+1 then 0 else s.mem a | .el i' g' _=>if i'=i/\g'=s.cur i+1 then 0 else s.mem a | _=>s.mem a)
 (h2:s'.size=s.size+1+tG C (s.cur i+1)) (h3:s'.base=bJ s.base i (bJ (s.base i) (s.cur i+1) s.size)) (h4:gen s'=bJ (gen s) i (s.cur i+1)):CL C s' (c++List.replicate (1+tG C (s.cur i+1)) 0):=by
 have hl:=h.len;have hnew:∀k,c.length<=k->(c++List.replicate (1+tG C (s.cur i+1)) (0:Int)).getD k 0=0:=λk hk=>by
  rw[List.getD_eq_getElem?_getD,List.getElem?_append_right hk,List.getElem?_replicate];split<;>rfl
 have hold:∀k,k<c.length->(c++List.replicate (1+tG C (s.cur i+1)) (0:Int)).getD k 0=c.getD k 0:=λk hk=>by
  rw[List.getD_eq_getElem?_getD,List.getElem?_append_left hk,<-List.getD_eq_getElem?_getD]
 refine⟨by rw[h2,kQ,nX];omega,λa ha => ?_⟩;have key:∀a,FK C s a->cB C s' a=cB C s a->s'.mem a=s.mem a->(c++List.replicate (1+tG C (s.cur i+1)) (0:Int)).getD (cB C s' a).toNat 0=s'.mem a:=λa hv hp hm=>by
  rw[hp,hm,hold _ (h.FL hz hv).2.2];exact h.get a hv
 cases a with
 | cap j g =>
  have ha1:=ha.1;have ZX:=ha.2;rw[h4,cA]at ZX;by_cases e:j=i/\g=s.cur i+1
  ·obtain⟨rfl,rfl⟩:=e;rw[h1];simp only[and_self,if_true,cB];rw[h3,aF,aF];exact hnew _ I
  ·refine key _ ⟨ha1,?_⟩ ?_ (by rw[h1];exact bZ e)
   ·split at ZX
    ·next e'=>subst e';rw[hg];have:g≠s.cur j+1:=λx=>e ⟨rfl,x⟩;omega
    ·exact ZX
   ·simp only[cB];rw[h3,cA];split
    ·next e'=>subst e';rw[aA (λx=>e ⟨rfl,x⟩)]
    ·rfl
 | el j g n =>
  have ha1:=ha.1;have ZX:=ha.2.1;rw[h4,cA]at ZX;by_cases e:j=i/\g=s.cur i+1
  ·obtain⟨rfl,rfl⟩:=e;rw[h1];simp only[and_self,if_true,cB];rw[h3,aF,aF];exact hnew _ I
  ·refine key _ ⟨ha1,?_,ha.2.2⟩ ?_ (by rw[h1];exact bZ e)
   ·split at ZX
    ·next e'=>subst e';rw[hg];have:g≠s.cur j+1:=λx=>e ⟨rfl,x⟩;omega
    ·exact ZX
   ·simp only[cB];rw[h3,cA];split
    ·next e'=>subst e';rw[aA (λx=>e ⟨rfl,x⟩)]
    ·rfl
 | _=>exact key _ ha rfl (by rw[h1])
end
end Am
end
section
namespace Mo
open Go SL GX
def mU(i:cG):Am.ZQ:=
 if i.aP=0 then .const i.A.toNat i.K else if i.aP=1 then .move i.A.toNat i.B.toNat else if i.aP=2 then .arith i.K i.A.toNat i.B.toNat i.C.toNat
 else if i.aP=3 then .jump i.A.toNat else if i.aP=4 then .branch i.A.toNat i.B.toNat else if i.aP=5 then .spawn i.A.toNat i.B.toNat i.C.toNat
 else if i.aP=6 then .sync else if i.aP=7 then .load i.A.toNat i.B.toNat else if i.aP=8 then .k8 i.A.toNat else .ret i.A.toNat
def Ut(op x y:Int):Int:=match rH op x y with
 | some r=>r.1
 | none=>0
theorem Iw{op:Int}(h0:0<=op)(h1:op<16)(x y:Int):rH op x y=some (Ut op x y,0):=by
 have d :∃a b,og x y=some (a,b):=by
  unfold og;by_cases h:y=0
  ·rw[aM h];exact⟨_,_,rfl⟩
  ·rw[bZ h];split
   ·exact⟨_,_,rfl⟩
   ·exact⟨_,_,rfl⟩
 obtain⟨a,b,d⟩:=d;have e :∃v,um op x y=some v:=by
  have it:∀{c:Prop} [Decidable c] {x y:Option Int},(∃v,x=some v)->(∃v,y=some v)->∃v,(if c then x else y)=some v:=λhx hy=>by
   split
   ·exact hx
   ·exact hy
  have tr:∀b:Bool,∃v,mu b=some v:=λb=>by cases b<;>exact⟨_,rfl⟩
  have ob:∀{x:Option Int},(∃v,x=some v)->∃v,eA x (λr=>some r)=some v:=λ⟨v,h⟩=>⟨v,by rw[h];rfl⟩;unfold um;rw[d];exact it ⟨_,rfl⟩ (it ⟨_,rfl⟩ (it ⟨_,rfl⟩ (it ⟨_,rfl⟩ (it ⟨_,rfl⟩ (it ⟨_,rfl⟩ (it ⟨_,rfl⟩ (it ⟨_,rfl⟩ (it ⟨_,rfl⟩ (it ⟨_,rfl⟩ (it ⟨_,rfl⟩ (it ⟨_,rfl⟩ (it (ob (tr _)) (it (ob (tr _)) (it (ob (tr _)) (ob (tr _))))))))))))))))
 obtain⟨v,e⟩:=e;have:rH op x y=some (v,0):=by
  unfold rH zN;rw[aM h0,aq,aM (tJ h1),e,aq]
 unfold Ut;rw[this]
def cfg(p:aH)(N F f m:Nat):Am.jt:=
 { N:=N,F:=F,first:=f,most:=m,QA:=p.ah.length,len:=λg=>(J p.ah g).ai.length,params:=λg=>(J p.ah g).aS.toNat,bw:=λg=>(J p.ah g).cZ.toNat,
   code:=λg a=>mU (J (J p.ah g).ai a),ap:=Ut,pd:=λx k=>wi (wi (wi (x*1000003)+(k:Int))+1)}
theorem DS{x n:Int}(h:tM x n=true):0<=x/\x<n:=xx.1 h
theorem Uu{p:aH}{g:aD}(h:Code p g)(hs:LR g){a:Nat}(ha:a<g.ai.length)(h3:¬(J g.ai a).aP=3)(h9:¬(J g.ai a).aP=9):a+1<g.ai.length:=by
 have en:=h.fin;unfold OM at en;simp only[BH,BI]at en;by_cases e:a=g.ai.length-1
 ·rw[<-e]at en;rcases en with en | en
  ·exact absurd en h3
  ·exact absurd en h9
 ·omega
theorem ZY{p:aH}{N F f m:Nat}(hv:Valid p)(Vw:1<=N)(hn:N<=64)(hf1:1<=F)(hf:F<=4096)(h1:1<=f)(ZZ:f<=m)(hm:m<=4096):(cfg p N F f m).OK where
 n1:=Vw
 n64:=hn
 f1:=hf1
 f4:=hf
 c1:=h1
 cm:=ZZ
 m4:=hm
 fn0:=hv.n1
 ZV:=λg hg=>by have:=(hv.GO g hg).c1;exact this
 Ln:=λg hg=>by
  have a1:=(hv.GO g hg).rp;have a2:=(hv.GO g hg).r16;have a3:=(hv.GO g hg).O;exact⟨by show(J p.ah g).aS.toNat<=(J p.ah g).cZ.toNat;omega,by show(J p.ah g).cZ.toNat<=16;omega⟩
 ins:=λg hg a ha=>by
  change g<p.ah.length at hg;change a<(J p.ah g).ai.length at ha;have hs:=hv.GO g hg;have hc:=hv.code g hg;have hi:=(hc.ins a ha).1;have VO:=(hc.ins a ha).2;have hl:=Uu hc hs ha;have s8:=hs.s8;unfold nl at hi;unfold vY at VO;unfold Am.Kf;show match mU (J (J p.ah g).ai a)with
   | .const x _=>x<(J p.ah g).cZ.toNat/\a+1<(J p.ah g).ai.length
   | .k8 x=>x<(J p.ah g).cZ.toNat/\a+1<(J p.ah g).ai.length
   | .move x y=>x<(J p.ah g).cZ.toNat/\y<(J p.ah g).cZ.toNat/\a+1<(J p.ah g).ai.length
   | .arith op x y z=>x<(J p.ah g).cZ.toNat/\y<(J p.ah g).cZ.toNat/\z<(J p.ah g).cZ.toNat/\a+1<(J p.ah g).ai.length
   | .jump t=>t<(J p.ah g).ai.length
   | .branch x t=>x<(J p.ah g).cZ.toNat/\t<(J p.ah g).ai.length/\a+1<(J p.ah g).ai.length
   | .spawn s f c=>s<8/\f<p.ah.length/\((J p.ah f).aS.toNat=0∨c+(J p.ah f).aS.toNat<=(J p.ah g).cZ.toNat)/\a+1<(J p.ah g).ai.length
   | .sync=>a+1<(J p.ah g).ai.length
   | .load x s=>x<(J p.ah g).cZ.toNat/\s<8/\a+1<(J p.ah g).ai.length
   | .ret x=>x<(J p.ah g).cZ.toNat
  have hk:=(Code.snd hs hc).kind (a:Int) I I;rw[cL]at hk;generalize J (J p.ah g).ai a=c at *;have hk:c.aP=0∨c.aP=1∨c.aP=2∨c.aP=3∨c.aP=4∨c.aP=5∨c.aP=6∨c.aP=7∨c.aP=8∨c.aP=9:=by omega
  unfold mU;rcases hk with k | k | k | k | k | k | k | k | k | k<;>simp[k,tM]at hi VO hl⊢
  ·omega
  ·omega
  ·omega
  ·omega
  ·omega
  ·have:=(hv.GO c.B.toNat I).O;omega
  ·omega
  ·omega
  ·omega
  ·omega
def nt(M:ag)(c:List Int)(k a x y:Int)(ok:Bool):ag:={M with cell:=c,log:=if M.watched=true then M.log++[⟨M.u4,k,a,x,y,ok⟩]else M.log}
structure AR(C:Am.jt)(s:Am.St)(M:ag)(sz n:Nat):Prop where
 size:M.oN=sz
 s1:sz<=1048576
 fit:s.size<=sz
 mark:M.fP=(M.cell.length:Int)
 cl:Am.CL C s M.cell
 lg:M.log.length<=n
section
variable {C:Am.jt}{s:Am.St}{M:ag}{sz n:Nat}
theorem zS(h:M.log.length<=2000000000)(c:List Int)(k a x y:Int)(ok:Bool):ga {M with cell:=c} k a x y ok=some (nt M c k a x y ok):=by
 unfold ga nt;by_cases e:M.watched=true
 ·rw[aM e,aM e,aM (by show(M.log.length+1)*48<=_;omega)]
 ·rw[bZ e,bZ e]
theorem AR.WV(h:AR C s M sz n)(hz:Am.SZ C s){a:Am.tF}(ha:Am.FK C s a):bM (Am.cB C s a) M.cell.length/\Am.cB C s a<1048576/\J M.cell (Am.cB C s a).toNat=s.mem a:=by
 have l:=h.cl.FL hz ha;have p:=Am.EO hz ha;have f:=h.fit;have s1:=h.s1;exact⟨⟨l.1,l.2.1⟩,I,h.cl.get a ha⟩
theorem AR.out(h:AR C s M sz n)(hz:Am.SZ C s){a:Am.tF}(ha:Am.FK C s a):iw M (Am.cB C s a)=some false:=by
 have l:=h.cl.FL hz ha;unfold iw rE;rw[h.mark,sR,tJ I,aq];rfl
theorem za(h:AR C s M sz n)(hz:Am.SZ C s)(hn:n<=2000000000){a:Am.tF}(ha:Am.FK C s a):gJ M (Am.cB C s a)=some (s.mem a,0,nt M M.cell 0 (Am.cB C s a) (s.mem a) 0 true):=by
 obtain⟨i1,_,i3⟩:=h.WV hz ha;have lg:=h.lg;unfold gJ;rw[h.out hz ha,aq,bZ dO,aM i1,i3];have:=zS (M:=M) I M.cell 0 (Am.cB C s a) (s.mem a) 0 true;rw[show ga M 0 (Am.cB C s a) (s.mem a) 0 true=_ from this,aq]
theorem v9(h:AR C s M sz n)(hz:Am.SZ C s)(hn:n<=2000000000){a:Am.tF}(ha:Am.FK C s a)(v:Int):dP M (Am.cB C s a) v=some (0,nt M (M.cell.set (Am.cB C s a).toNat v) 1 (Am.cB C s a) v 0 true):=by
 obtain⟨i1,_,i3⟩:=h.WV hz ha;have lg:=h.lg;unfold dP;rw[h.out hz ha,aq,bZ dO,aM i1,zS I,aq]
theorem Kh(h:AR C s M sz n)(hz:Am.SZ C s)(hn:n<=2000000000){a:Am.tF}(ha:Am.FK C s a){d v:Int}(hv:wi (s.mem a+d)=v):iU M (Am.cB C s a) d=some (v,0,nt M (M.cell.set (Am.cB C s a).toNat v) 3 (Am.cB C s a) d v true):=by
 obtain⟨i1,_,i3⟩:=h.WV hz ha;have lg:=h.lg;have l:=h.cl.FL hz ha;unfold iU;rw[h.out hz ha,aq,bZ dO,aM i1,i3,hv,aM (by rw[gV];exact i1),zS I,aq];have hin:bM (Am.cB C s a) (nt M (M.cell.set (Am.cB C s a).toNat v) 3 (Am.cB C s a) d v true).cell.length:=by
  show bM _ (M.cell.set _ v).length;rw[gV];exact i1
 rw[aM hin];have:J (nt M (M.cell.set (Am.cB C s a).toNat v) 3 (Am.cB C s a) d v true).cell (Am.cB C s a).toNat=v:=by
  show J (M.cell.set _ v) _=v;rw[qU I,aM rfl]
 rw[this]
theorem Uv(h:AR C s M sz n)(hz:Am.SZ C s)(hn:n<=2000000000){a:Am.tF}(ha:Am.FK C s a)(o v:Int):oh M (Am.cB C s a) o v=some (s.mem a==o,0,nt M (if s.mem a=o then M.cell.set (Am.cB C s a).toNat v else M.cell) 2 (Am.cB C s a) o v (s.mem a==o)):=by
 obtain⟨i1,_,i3⟩:=h.WV hz ha;have lg:=h.lg;unfold oh;rw[h.out hz ha,aq,bZ dO,aM i1,i3];by_cases e:s.mem a=o
 ·rw[aM e,aM e,zS I,aq]
 ·rw[bZ e,bZ e];have:=zS (M:=M) I M.cell 2 (Am.cB C s a) o v (s.mem a==o);rw[show ga M 2 (Am.cB C s a) o v (s.mem a==o)=_ from this,aq]
theorem ab4(h:AR C s M sz n)(hn:n<=2000000000){k:Nat}(hk:1<=k)(hf:M.cell.length+k<=sz):fN M (k:Int)=some (s.size,0,{nt M (M.cell++List.replicate k 0) 4 s.size k 0 true with fP:=s.size+k}):=by
 have lg:=h.lg;have s1:=h.s1;have hl:=h.cl.len;unfold fN mW qv;rw[ju,eu,h.mark,h.size,eO (x:=(sz:Int)-(M.cell.length:Int)) I,eu,aq,aM rfl,eF,aM ⟨I,by show(M.cell.length+(k:Int).toNat)*8<=_;omega⟩,cL];have:=zS (M:={M with fP:=wi (((M.cell.length:Nat):Int)+k)}) (by show M.log.length<=_;omega) (M.cell++List.replicate k 0) 4 (M.cell.length:Int) k 0 true;have e:ga ({({M with fP:=wi (((M.cell.length:Nat):Int)+k)}:ag)with cell:=M.cell++List.replicate k 0}) 4 ((M.cell.length:Nat):Int) (k:Int) 0 true=_:=this;obtain⟨z1,z2,z3,z4,z5,z6⟩:=M;simp only at e h hf hl lg s1⊢;have hs:=h.size;have hm:=h.mark;simp only at hs hm;subst hs;subst hm;rw[e,aq,eO I,hl];rfl
theorem AR.same{s':Am.St}(h:AR C s M sz n)(h1:s'.mem=s.mem)(h2:s'.size=s.size)(h3:s'.base=s.base)(h4:Am.gen s'=Am.gen s)(k a x y:Int)(ok:Bool):AR C s' (nt M M.cell k a x y ok) sz (n+1):=
 ⟨h.size,h.s1,by rw[h2];exact h.fit,h.mark,h.cl.of h1 h2 h3 h4,by
  have:=h.lg;show(if M.watched=true then M.log++[_]else M.log).length<=_;split
  ·rw[kQ];simp;omega
  ·omega⟩
theorem AR.keep{s':Am.St}(h:AR C s M sz n)(h1:s'.mem=s.mem)(h2:s'.size=s.size)(h3:s'.base=s.base)(h4:Am.gen s'=Am.gen s):AR C s' M sz (n+1):=
 ⟨h.size,h.s1,by rw[h2];exact h.fit,h.mark,h.cl.of h1 h2 h3 h4,Nat.le_succ_of_le h.lg⟩
theorem AR.set{s':Am.St}{b:Am.tF}{v:Int}(h:AR C s M sz n)(hz:Am.SZ C s)(hb:Am.FK C s b)(h1:s'.mem=Am.bJ s.mem b v)(h2:s'.size=s.size)(h3:s'.base=s.base)(h4:Am.gen s'=Am.gen s)(k a x y:Int)(ok:Bool) :
 AR C s' (nt M (M.cell.set (Am.cB C s b).toNat v) k a x y ok) sz (n+1):=
 ⟨h.size,h.s1,by rw[h2];exact h.fit,by show M.fP=((M.cell.set _ _).length:Nat);rw[gV];exact h.mark,h.cl.set hz hb h1 h2 h3 h4,by
  have:=h.lg;show(if M.watched=true then M.log++[_]else M.log).length<=_;split
  ·rw[kQ];simp;omega
  ·omega⟩
end
def DO(C:Am.jt)(v:Nat)(k st:Int)(o:bV):Prop:=o.kind=k/\o.J=st/\o.oe=Am.wW C v/\o.oH=C.most
def TO(C:Am.jt)(k st:Int)(f:Nat)(o:bL):Prop:=o.ez=1/\o.dV=C.F/\o.gy=f/\o.az=st/\o.kind=k
def LO(C:Am.jt)(i:Nat)(k st kk:Int)(o:bQ):Prop:=o.bT=2+10*(C.F:Int)/\o.cg=C.N/\o.gz=i/\o.dg=k/\o.ay=st/\o.da=kk
def Nt(C:Am.jt)(v:Nat):cw:=⟨Am.wW C v,C.most⟩
def RO(C:Am.jt)(i:Nat)(st kk:Int)(a:bE):Prop:=a.aK=12/\LO C i 1 st kk a.cF/\∀v,v<C.N->J a.cF.dw v=Nt C v
def ring(C:Am.jt)(i j:Nat)(k:Nat):Prop:=1<=k/\k<C.N/\(i+k)%C.N=j
def ph(C:Am.jt)(i:Nat)(p:Am.Pc)(tr:Nat)(cj:Nat)(bs:Nat->Nat->Int)(a:bE):Prop:=
 match p with
 | .halted=>a.aK=13
 | .full=>a.aK=14
 | .start x=>a.aK=0/\a.from_=x
 | .run=>a.aK=1
 | .fork c=>a.aK=2/\a.bW=c
 | .nP=>a.aK=5/\TO C 3 2 a.ax.toNat a.dB
 | .out p c=>a.aK=6/\a.done=c/\TO C 2 2 p a.dB
 | .take p c=>a.aK=6/\a.done=c/\TO C 2 3 p a.dB
 | .done=>a.aK=7/\LO C i 4 10 1 a.cF
 | .tell j=>a.aK=7/\∃k:Nat,LO C i 4 9 k a.cF/\ring C i j k
 | .xA j=>a.aK=7/\∃k:Nat,LO C i 4 7 k a.cF/\ring C i j k
 | .zP c=>a.aK=3/\a.bW=c/\DO C i 1 1 a.bq/\a.bq.v=c
 | .yc c b=>a.aK=3/\a.bW=c/\DO C i 1 2 a.bq/\a.bq.v=c/\a.bq.b=b
 | .q9 c b t=>a.aK=3/\a.bW=c/\DO C i 1 3 a.bq/\a.bq.v=c/\a.bq.b=b/\a.bq.t=t
 | .rf c b t=>a.aK=3/\a.bW=c/\DO C i 1 4 a.bq/\a.bq.v=c/\a.bq.b=b/\a.bq.t=t/\a.bq.a=bs i cj
 | .grow c b t cc=>a.aK=3/\a.bW=c/\DO C i 1 5 a.bq/\a.bq.v=c/\a.bq.b=b/\a.bq.t=t/\a.bq.a=bs i cj/\a.bq.c=cc/\a.bq.c2=Am.iY C cc
 | .mS c b t cc=>a.aK=3/\a.bW=c/\DO C i 1 6 a.bq/\a.bq.v=c/\a.bq.b=b/\a.bq.t=t/\a.bq.a=bs i cj/\a.bq.c=cc/\a.bq.c2=Am.iY C cc/\a.bq.a2=bs i (cj+1)
 | .kP c b t cc n=>a.aK=3/\a.bW=c/\DO C i 1 7 a.bq/\a.bq.v=c/\a.bq.b=b/\a.bq.t=t/\a.bq.a=bs i cj/\a.bq.c=cc/\a.bq.c2=Am.iY C cc/\a.bq.a2=bs i (cj+1)/\a.bq.i=n
 | .j8 c b t cc n x=>a.aK=3/\a.bW=c/\DO C i 1 8 a.bq/\a.bq.v=c/\a.bq.b=b/\a.bq.t=t/\a.bq.a=bs i cj/\a.bq.c=cc/\a.bq.c2=Am.iY C cc/\a.bq.a2=bs i (cj+1)/\a.bq.i=n/\a.bq.x=x
 | .mT c b t cc=>a.aK=3/\a.bW=c/\DO C i 1 9 a.bq/\a.bq.v=c/\a.bq.b=b/\a.bq.c2=Am.iY C cc/\a.bq.a2=bs i (cj+1)
 | .jV c b cc=>a.aK=3/\a.bW=c/\DO C i 1 10 a.bq/\a.bq.v=c/\a.bq.b=b/\a.bq.a=bs i cj/\a.bq.c=cc
 | .n7 c b=>a.aK=3/\a.bW=c/\DO C i 1 11 a.bq/\a.bq.b=b
 | .DQ=>a.aK=4/\LO C i 2 8 1 a.cF
 | .sW j=>a.aK=4/\∃k:Nat,LO C i 2 9 k a.cF/\ring C i j k
 | .vm j=>a.aK=4/\∃k:Nat,LO C i 2 7 k a.cF/\ring C i j k
 | .Bw=>a.aK=8/\DO C i 2 1 a.bq/\a.bq.i=0/\a.bq.Al=false
 | .wV b=>a.aK=8/\DO C i 2 3 a.bq/\a.bq.i=0/\a.bq.Al=false/\a.bq.b=b
 | .rJ b=>a.aK=8/\DO C i 2 11 a.bq/\a.bq.i=0/\a.bq.Al=false/\a.bq.b=b/\a.bq.a=bs i cj
 | .AB b=>a.aK=8/\DO C i 2 2 a.bq/\a.bq.b=b/\a.bq.a=bs i cj/\a.bq.Al=false
 | .pM t=>a.aK=8/\DO C i 2 11 a.bq/\a.bq.i=1/\a.bq.t=t/\a.bq.b<t/\a.bq.Al=false
 | .tP b t=>a.aK=8/\DO C i 2 4 a.bq/\a.bq.i=1/\a.bq.b=b/\a.bq.t=t/\a.bq.a=bs i cj
 | .pS b t cc=>a.aK=8/\DO C i 2 12 a.bq/\a.bq.i=1/\a.bq.b=b/\a.bq.t=t/\a.bq.a=bs i cj/\a.bq.c=cc
 | .sP b t x=>a.aK=8/\DO C i 2 13 a.bq/\a.bq.i=1/\a.bq.b=b/\a.bq.t=t/\a.bq.x=x
 | .qa t x Al=>a.aK=8/\DO C i 2 11 a.bq/\a.bq.i=1/\a.bq.t=t/\t<=a.bq.b/\a.bq.x=x/\a.bq.Al=Al
 | .jQ=>a.aK=9/\a.fW=tr/\tr<3
 | .vU v t=>a.aK=10/\(a.fW=tr/\tr<3)/\a.fE=v/\DO C v 3 1 a.bq/\a.bq.t=t
 | .rK v t=>a.aK=10/\(a.fW=tr/\tr<3)/\a.fE=v/\DO C v 3 3 a.bq/\a.bq.t=t
 | .qB v t g=>a.aK=10/\(a.fW=tr/\tr<3)/\a.fE=v/\DO C v 3 4 a.bq/\a.bq.t=t/\a.bq.a=bs v g
 | .n8 v t g cc=>a.aK=10/\(a.fW=tr/\tr<3)/\a.fE=v/\DO C v 3 12 a.bq/\a.bq.t=t/\a.bq.a=bs v g/\a.bq.c=cc
 | .ny v t x=>a.aK=10/\(a.fW=tr/\tr<3)/\a.fE=v/\DO C v 3 13 a.bq/\a.bq.t=t/\a.bq.x=x
 | .EL=>a.aK=11/\a.fW=tr/\a.cF.dg=3/\a.cF.ay=3/\a.cF.bT=2+10*(C.F:Int)/\a.cF.cg=C.N
 | .flag=>(a.aK=9/\C.N=1)∨(RO C i 1 0 a/\a.parked=false)
 | .sleep=>RO C i 2 0 a/\a.parked=false
 | .vn=>RO C i 3 0 a/\a.parked=false
 | .Dp j=>a.parked=false/\∃k:Nat,RO C i 4 k a/\ring C i j k/\DO C j 4 2 a.cF.look
 | .Dq j t=>a.parked=false/\∃k:Nat,RO C i 4 k a/\ring C i j k/\DO C j 4 1 a.cF.look/\a.cF.look.t=t
 | .parked=>a.parked=true/\∃k:Int,RO C i 5 k a
 | .back h=>a.parked=false/\∃k:Int,RO C i 6 k a/\a.cF.jM=if h then 17 else 16
 | .v8 h=>a.parked=false/\∃k:Int,RO C i 7 k a/\a.cF.jM=if h then 17 else 16
def fi(h:Option Nat):Int:=match h with
 | some f=>(f:Int)
 | none=>-1
structure aOK(C:Am.jt)(s:Am.St)(i:Nat)(a:bE):Prop where
 self:a.bx=i
 ax:a.ax=fi (s.hold i)
 ph:ph C i (s.pc i) (s.fW i) (s.cur i) s.base a
structure RN(x:Am.Fr)(f:Nat)(t:aU):Prop where
 fn:t.fn=x.fn
 J:t.J=x.J
 par:t.parent=if f=0 then -1 else(x.par:Int)
 slot:t.slot=x.slot
 bt:t.bt=x.bt
 k8:t.k8=x.k8
 bw:∀r,r<16->GX.J t.bw r=x.bw r
structure WW(C:Am.jt)(p:aH)(s:Am.St)(S:af):Prop where
 code:S.code=p.ah
 res:S.result=0
 tb:S.dx=1
 tf:S.cJ=C.F
 lb:S.fo=2+10*(C.F:Int)
 lw:S.cH=C.N
 dl:S.dw.length=C.N
 dq:∀v,v<C.N->GX.J S.dw v=Nt C v
 tl:S.aJ.length=C.F
 tk:∀f,f<s.nf->RN (s.fr f) f (GX.J S.aJ f)
 wl:S.aj.length=C.N
 wk:∀i,i<C.N->aOK C s i (GX.J S.aj i)
 left:S.left=s.val.isSome
 val:S.value=s.val.getD 0
section
variable {C:Am.jt}{s:Am.St}{p:aH}{S:af}{i:Nat}
theorem ph.keep{j:Nat}{bs bs':Nat->Nat->Int}{pc:Am.Pc}{tr cj:Nat}{a:bE}(h:ph C j pc tr cj bs a)(h1:∀g,g<=cj+1->bs' j g=bs j g)(h2:∀v t g,pc= .qB v t g->bs' v g=bs v g)(h3:∀v t g cc,pc= .n8 v t g cc->bs' v g=bs v g):ph C j pc tr cj bs' a:=by
 unfold ph at h⊢;have e0:=h1 cj I;have e1:=h1 (cj+1) I;cases pc<;>first
  | exact h
  | (simp only[e0,e1]at h⊢;exact h)
  | (simp only[h2 _ _ _ rfl]at h⊢;exact h)
  | (simp only[h3 _ _ _ _ rfl]at h⊢;exact h)
end
section
variable {K:Nat}{M M':ag}{o:bV}{v x:Int}
theorem dnz(h:o.kind≠0):¬o=(⟨0,0,0,0,0,0,0,0,0,0,0,0,0,false,0,0⟩:bV):=λe=>h (by rw[e])
theorem qD{k a:Int}(hk:o.kind=k)(ha:o.J=a)(Ww:k≠0)(ha0:a≠0)(hx:bC o M=some (v,0,M')){o':bV}
 (hn:(if k=1 then eX o v else if k=2 then eY o v else if k=3 then fO o v else mw o v)=some o'):fu M o=some (o',M'):=by
 unfold fu bK;rw[bZ (dnz (by rw[hk];exact Ww)),bZ (by rw[ha];exact ha0),fB,hx,dc,aM rfl,hk];split at hn
 ·rename_i h;rw[aM h,hn,aq]
 ·rename_i h;rw[bZ h];split at hn
  ·rename_i h;rw[aM h,hn,aq]
  ·rename_i h;rw[bZ h];split at hn
   ·rename_i h;rw[aM h,hn,aq]
   ·rename_i h;rw[bZ h,hn,aq]
theorem Nu(hk:o.kind≠0)(ha:o.J≠0):oL o=some (0,0):=by
 unfold oL bK;rw[bZ (dnz hk),bZ ha]
theorem O5(hk:o.kind≠0)(ha:o.J=0):oL o=some (o.code,o.value):=by
 unfold oL bK;rw[bZ (dnz hk),aM ha]
theorem Uw{a c n:Int}(ha0:0<=a)(ha:a<=1048576)(hc:1<=c)(NZ:c<=4096)(hn:-1000000000000<=n/\n<=1000000000000):qx a c n=some (a+1+(Am.ix n c:Int)):=by
 have e1:=BK n (b:=c) I;have e2:=C6 n (show 0<c by omega);have e3:(Am.ix n c:Int)=n%c:=by unfold Am.ix;omega
 have e4:n.tmod c=if 0<=n∨c∣n then n%c else n%c-c:=by
  rw[JV];split
  ·omega
  ·rw[show((c.natAbs:Nat):Int)=c by omega]
 unfold qx;rw[sR,e3];by_cases h:0<=n∨c∣n
 ·rw[e4,aM h,eu,eO (x:=a+1) I,eO I]
 ·rw[e4,bZ h,sR,eO (x:=a+1) I,eO (x:=n%c-c+c) I,eO I];congr 1;omega
end
section
variable {C:Am.jt}{s:Am.St}{M:ag}{sz n:Nat}{o:bV}{i:Nat}
theorem AR.cast(h:AR C s M sz n)(hz:Am.SZ C s){a:Am.tF}(ha:Am.FK C s a){x:Int}(hx:x=Am.cB C s a):wi x=Am.cB C s a:=by
 have p:=Am.EO hz ha;have f:=h.fit;have s1:=h.s1;rw[hx,eO I]
theorem Cp(s:Am.St)(i:Nat):s.cur i<=Am.gen s i:=by unfold Am.gen;omega
theorem GS(h:AR C s M sz n)(hz:Am.SZ C s)(hn:n<=2000000000)(hi:i<C.N)(ha:o.J=1)(hb:o.oe=Am.wW C i):bC o M=some (s.mem (.bot i),0,nt M M.cell 0 (Am.cB C s (.bot i)) (s.mem (.bot i)) 0 true):=by
 unfold bC;rw[aM ha,h.cast hz (a:=.bot i) hi (by rw[hb];rfl),za h hz hn (a:=.bot i) hi,dc]
theorem GU(h:AR C s M sz n)(hz:Am.SZ C s)(hn:n<=2000000000)(hi:i<C.N)(ha:o.J=2)(hb:o.oe=Am.wW C i):bC o M=some (s.mem (.top i),0,nt M M.cell 0 (Am.cB C s (.top i)) (s.mem (.top i)) 0 true):=by
 unfold bC;rw[dD ha,aM ha,h.cast hz (a:=.top i) hi (by rw[hb,Int.add_zero];rfl),za h hz hn (a:=.top i) hi,dc]
theorem Lu(h:AR C s M sz n)(hz:Am.SZ C s)(hn:n<=2000000000)(hi:i<C.N)(ha:o.J=3)(hb:o.oe=Am.wW C i):bC o M=some (s.mem (.buf i),0,nt M M.cell 0 (Am.cB C s (.buf i)) (s.mem (.buf i)) 0 true):=by
 unfold bC;rw[dD ha,dD ha,aM ha,h.cast hz (a:=.buf i) hi (by rw[hb];rfl),za h hz hn (a:=.buf i) hi,dc]
theorem Lv{g:Nat}(h:AR C s M sz n)(hz:Am.SZ C s)(hn:n<=2000000000)(hi:i<C.N)(hg:g<=Am.gen s i)(ha:o.J=4)(hb:o.a=s.base i g):bC o M=some (s.mem (.cap i g),0,nt M M.cell 0 (Am.cB C s (.cap i g)) (s.mem (.cap i g)) 0 true):=by
 unfold bC;rw[dD ha,dD ha,dD ha,aM ha,hb,show s.base i g=Am.cB C s (.cap i g)from rfl,za h hz hn (a:=.cap i g) ⟨hi,hg⟩,dc]
theorem WX{k:Nat}(h:AR C s M sz n)(hn:n<=2000000000)(ha:o.J=5)(hk:o.c2=k)(hf:M.cell.length+(1+k)<=sz):bC o M=some (s.size,0,{nt M (M.cell++List.replicate (1+k) 0) 4 s.size ((1+k:Nat):Int) 0 true with fP:=s.size+((1+k:Nat):Int)}):=by
 have s1:=h.s1;unfold bC;rw[dD ha,dD ha,dD ha,dD ha,aM ha,hk,show wi (1+(k:Int))=((1+k:Nat):Int) by rw[eO I];omega,ab4 h hn I hf,dc]
theorem O6{g:Nat}(h:AR C s M sz n)(hz:Am.SZ C s)(hn:n<=2000000000)(hi:i<C.N)(hg:g<=Am.gen s i)(ha:o.J=6)(hb:o.a2=s.base i g):bC o M=some (0,0,nt M (M.cell.set (Am.cB C s (.cap i g)).toNat o.c2) 1 (Am.cB C s (.cap i g)) o.c2 0 true):=by
 unfold bC;rw[dD ha,dD ha,dD ha,dD ha,dD ha,aM ha,hb,show s.base i g=Am.cB C s (.cap i g)from rfl,v9 h hz hn (a:=.cap i g) ⟨hi,hg⟩,eF]
theorem CA(h:AR C s M sz n)(hz:Am.SZ C s)(hC:C.OK)(hi:i<C.N){g:Nat}(hg:g<=Am.gen s i){c x:Int}(hc:c=Am.tG C g)(hx:-1000000000000<=x/\x<=1000000000000):qx (s.base i g) c x=some (Am.cB C s (.el i g (Am.ix x c)))/\Am.FK C s (.el i g (Am.ix x c)):=by
 have b1:=h.WV hz (a:=.cap i g) ⟨hi,hg⟩;have p:=Am.EO hz (a:=.cap i g) ⟨hi,hg⟩;have c1:=Am.GR hC g;have c2:=Am.O2 hC g;have m4:=hC.m4;have e2:=C6 x (show 0<c by omega);have e1:=BK x (b:=c) I;refine⟨Uw p.1 (by have:=b1.2.1;show Am.cB C s (.cap i g)<=_;omega) I I hx,hi,hg,?_⟩;unfold Am.ix;omega
theorem WY{g:Nat}(h:AR C s M sz n)(hz:Am.SZ C s)(hC:C.OK)(hn:n<=2000000000)(hi:i<C.N)(hg:g<=Am.gen s i)(ha:o.J=7)(hb:o.a=s.base i g)(hc:o.c=Am.tG C g)(hx:-1000000000000<=o.i/\o.i<=1000000000000) :
 bC o M=some (s.mem (.el i g (Am.ix o.i o.c)),0,nt M M.cell 0 (Am.cB C s (.el i g (Am.ix o.i o.c))) (s.mem (.el i g (Am.ix o.i o.c))) 0 true):=by
 obtain⟨e1,e2⟩:=CA h hz hC hi hg hc hx;unfold bC;rw[dD ha,dD ha,dD ha,dD ha,dD ha,dD ha,aM ha,hb,e1,aq,za h hz hn e2,dc]
theorem WZ{g:Nat}(h:AR C s M sz n)(hz:Am.SZ C s)(hC:C.OK)(hn:n<=2000000000)(hi:i<C.N)(hg:g<=Am.gen s i)(ha:o.J=8)(hb:o.a2=s.base i g)(hc:o.c2=Am.tG C g)(hx:-1000000000000<=o.i/\o.i<=1000000000000) :
 bC o M=some (0,0,nt M (M.cell.set (Am.cB C s (.el i g (Am.ix o.i o.c2))).toNat o.x) 1 (Am.cB C s (.el i g (Am.ix o.i o.c2))) o.x 0 true):=by
 obtain⟨e1,e2⟩:=CA h hz hC hi hg hc hx;unfold bC;rw[dD ha,dD ha,dD ha,dD ha,dD ha,dD ha,dD ha,aM ha,hb,e1,aq,v9 h hz hn e2,eF]
theorem O7(h:AR C s M sz n)(hz:Am.SZ C s)(hn:n<=2000000000)(hi:i<C.N)(ha:o.J=9)(hb:o.oe=Am.wW C i):bC o M=some (0,0,nt M (M.cell.set (Am.cB C s (.buf i)).toNat o.a2) 1 (Am.cB C s (.buf i)) o.a2 0 true):=by
 unfold bC;rw[dD ha,dD ha,dD ha,dD ha,dD ha,dD ha,dD ha,dD ha,aM ha,h.cast hz (a:=.buf i) hi (by rw[hb];rfl),v9 h hz hn (a:=.buf i) hi,eF]
theorem W0{g:Nat}(h:AR C s M sz n)(hz:Am.SZ C s)(hC:C.OK)(hn:n<=2000000000)(hi:i<C.N)(hg:g<=Am.gen s i)(ha:o.J=10)(hb:o.a=s.base i g)(hc:o.c=Am.tG C g)(hx:-1000000000000<=o.b/\o.b<=1000000000000) :
 bC o M=some (0,0,nt M (M.cell.set (Am.cB C s (.el i g (Am.ix o.b o.c))).toNat o.v) 1 (Am.cB C s (.el i g (Am.ix o.b o.c))) o.v 0 true):=by
 obtain⟨e1,e2⟩:=CA h hz hC hi hg hc hx;unfold bC;rw[dD ha,dD ha,dD ha,dD ha,dD ha,dD ha,dD ha,dD ha,dD ha,aM ha,hb,e1,aq,v9 h hz hn e2,eF]
theorem AJ(h:AR C s M sz n)(hz:Am.SZ C s)(hn:n<=2000000000)(hi:i<C.N)(ha:o.J=11)(hb:o.oe=Am.wW C i){v:Int}(hv:jv o=some v):bC o M=some (0,0,nt M (M.cell.set (Am.cB C s (.bot i)).toNat v) 1 (Am.cB C s (.bot i)) v 0 true):=by
 unfold bC;rw[dD ha,dD ha,dD ha,dD ha,dD ha,dD ha,dD ha,dD ha,dD ha,dD ha,aM ha,hv,aq,h.cast hz (a:=.bot i) hi (by rw[hb];rfl),v9 h hz hn (a:=.bot i) hi,eF]
theorem Nv{g:Nat}{x:Int}(h:AR C s M sz n)(hz:Am.SZ C s)(hC:C.OK)(hn:n<=2000000000)(hi:i<C.N)(hg:g<=Am.gen s i)(ha:o.J=12)(hb:o.a=s.base i g)(hc:o.c=Am.tG C g)(hk:x=if o.kind=2 then o.b else o.t)(hx:-1000000000000<=x/\x<=1000000000000) :
 bC o M=some (s.mem (.el i g (Am.ix x o.c)),0,nt M M.cell 0 (Am.cB C s (.el i g (Am.ix x o.c))) (s.mem (.el i g (Am.ix x o.c))) 0 true):=by
 obtain⟨e1,e2⟩:=CA h hz hC hi hg hc hx;have e3:(if o.kind=2 then some o.b else some o.t)=some x:=by rw[hk];split<;>rfl
 unfold bC;rw[dD ha,dD ha,dD ha,dD ha,dD ha,dD ha,dD ha,dD ha,dD ha,dD ha,dD ha,aM ha,e3,aq,hb,e1,aq,za h hz hn e2,dc]
theorem QE(h:AR C s M sz n)(hz:Am.SZ C s)(hn:n<=2000000000)(hi:i<C.N)(ha:o.J=13)(hb:o.oe=Am.wW C i)(ht:-1000000000000<=o.t/\o.t<=1000000000000):bC o M=some (if s.mem (.top i)=o.t then 1 else 0,0,nt M (if s.mem (.top i)=o.t then M.cell.set (Am.cB C s (.top i)).toNat (o.t+1)else M.cell) 2 (Am.cB C s (.top i)) o.t (o.t+1) (s.mem (.top i)==o.t)):=by
 unfold bC;rw[dD ha,dD ha,dD ha,dD ha,dD ha,dD ha,dD ha,dD ha,dD ha,dD ha,dD ha,dD ha,eO (x:=o.t+1) I,h.cast hz (a:=.top i) hi (by rw[hb,Int.add_zero];rfl),Uv h hz hn (a:=.top i) hi,dc];by_cases e:s.mem (.top i)=o.t
 ·rw[aM (by rw[e];simp),aM e,aM e]
 ·rw[bZ (by simpa using e),bZ e,bZ e]
end
def CZ:Option Am.Ev->aB
 | none=>⟨0,0,0,0,0,0⟩
 | some e=>⟨0,0,e.kind,e.ax,e.x,e.v⟩
def Ux(i:Nat):Option Am.Ev->aB
 | none=>⟨0,0,0,0,0,0⟩
 | some e=>⟨0,i,e.kind,e.ax,e.x,e.v⟩
def Uy(e:Option Am.Ev):Prop:=match e with
 | none=>True
 | some e=>e.kind≠0
def Yk(C:Am.jt)(s:Am.St)(w:Int)(a:Am.Acc):bl:=⟨w,a.kind,Am.cB C s a.a,a.x,a.y,a.ok⟩
def Lg(C:Am.jt)(s:Am.St)(M M':ag)(acc:Option Am.Acc):Prop:=
 M'.u4=M.u4/\M'.watched=M.watched/\M'.log=if M.watched=true then M.log++(acc.toList.map (Yk C s M.u4))else M.log
def jE(C:Am.jt)(p:aH)(sz n:Nat)(M:ag)(o:Am.Out)(r:Option (aB×af×ag)):Prop:=
 ∃S' M',r=some (CZ o.ev,S',M')/\WW C p o.s S'/\AR C o.s M' sz (n+1)/\Lg C o.s M M' o.acc/\Uy o.ev
structure zj(C:Am.jt)(p:aH)(s:Am.St)(S:af)(M:ag)(sz n:Nat):Prop where
 ok:C.OK
 jX:WW C p s S
 ar:AR C s M sz n
 z:Am.SZ C s
 bd:Am.BD s n
 dt:Am.DT C s
 fi:(Am.view s).FI C.N C.F
 fr:Am.FR C s
 n:n<=1000000000
 vd:Valid p
 cf:C=cfg p C.N C.F C.first C.most
 room :∃afV,(sz:Int)=Am.S0 C+C.N*Am.tot C afV/\Am.tG C afV=C.most
section
variable {K:Nat}{C:Am.jt}{p:aH}{s:Am.St}{S:af}{M:ag}{sz n i:Nat}{D:aV}
theorem Lg.nt{s':Am.St}{c:List Int}{k:Nat}{a:Am.tF}{x y pl:Int}{ok:Bool}(h:Am.cB C s' a=pl):Lg C s' M (nt M c k pl x y ok) (some ⟨k,a,x,y,ok⟩):=by
 refine⟨rfl,rfl,?_⟩;show(if M.watched=true then M.log++[_]else M.log)=_;simp only[Option.toList_some,C4,Ea,Yk,h]
theorem Lg.none_{s':Am.St}:Lg C s' M M none:=by
 refine⟨rfl,rfl,?_⟩;simp
def gE(S:af)(i:Nat)(a:bE):af:={S with aj:=S.aj.set i a}
abbrev act(S:af)(i:Nat):bE:=J S.aj i
theorem jW(i:Nat)(a:bE):(gE S i a).aj.length=S.aj.length:=gV
theorem oa{a:bE}(h:i<S.aj.length):act (gE S i a) i=a:=by
 show J (S.aj.set i a) i=a;rw[qU h,aM rfl]
theorem Nw{a b:bE}:gE (gE S i a) i b=gE S i b:=by
 show {S with aj:=(S.aj.set i a).set i b}=_;rw[iP];rfl
theorem WW.act{s':Am.St}{a:bE}{q:Am.Pc}(h:WW C p s S)(ht:Am.DT C s)(hi:i<C.N)(ha:aOK C s' i a)(Z0:s'.pc=Am.bJ s.pc i q)(hh:∀j,j≠i->s'.hold j=s.hold j)(RP:∀j,j≠i->s'.fW j=s.fW j)
 (hc:∀j,j≠i->s'.cur j=s.cur j) (hb:∀j g,(j≠i∨g<=s.cur i)->s'.base j g=s.base j g) (hf:s'.fr=s.fr) (hn:s'.nf=s.nf) (hv:s'.val=s.val):WW C p s' (gE S i a):=by
 have hl:=h.wl;refine⟨h.code,h.res,h.tb,h.tf,h.lb,h.lw,h.dl,h.dq,h.tl,λf hf'=>by rw[hf];exact h.tk f (hn▸ hf'),by rw[jW];exact h.wl,λj hj => ?_,by rw[hv];exact h.left,by rw[hv];exact h.val⟩;show aOK C s' j (GX.J (S.aj.set i a) j);by_cases e:j=i
 ·subst e;rw[qU I,aM rfl];exact ha
 ·rw[qU I,bZ e];obtain⟨w1,w2,w3⟩:=h.wk j hj;have ep:s'.pc j=s.pc j:=by rw[Z0];exact Am.aA e
  refine⟨w1,by rw[hh j e];exact w2,?_⟩;rw[ep,RP j e,hc j e];have T:=ht.2 j hj;refine w3.keep (λg _=>hb j g (.inl e)) (λv t g hq => ?_) (λv t g cc hq => ?_)
  ·unfold Am.Th at T;rw[hq]at T;simp only at T;by_cases ev:v=i
   ·subst ev;exact hb v g (.inr T.2.2.2.1)
   ·exact hb v g (.inl ev)
  ·unfold Am.Th at T;rw[hq]at T;simp only at T;by_cases ev:v=i
   ·subst ev;exact hb v g (.inr T.2.2.2.1)
   ·exact hb v g (.inl ev)
theorem wc{o':bV}{M':ag}{c v:Int}(h1:fu M (act S i).bq=some (o',M'))(h2:oL o'=some (c,v)) :
 lZ S M (i:Int)=some (c,v,gE S i {act S i with bq:=o' },M'):=by
 unfold lZ jT an;rw[cL,h1,eF];simp only;rw[h2,eF];rfl
theorem Lw{o':bL}{M':ag}{c v:Int}(h1:cT M (act S i).dB=some (o',M'))(h2:jd o'=some (c,v)) :
 eW S M (i:Int)=some (c,v,gE S i {act S i with dB:=o' },M'):=by
 unfold eW jT an;rw[cL,h1,eF];simp only;rw[h2,eF];rfl
theorem yG{o':bQ}{M':ag}{c v:Int}(h1:eK M (act S i).cF=some (o',M'))(h2:qy o'=some (c,v)) :
 jD S M (i:Int)=some (c,v,gE S i {act S i with cF:=o' },M'):=by
 unfold jD jT an;rw[cL,h1,eF];simp only;rw[h2,eF];rfl
theorem zj.BE(b:zj C p s S M sz n)(hi:i<C.N):bM (i:Int) S.aj.length:=⟨I,by rw[b.jX.wl];omega⟩
theorem zj.wl(b:zj C p s S M sz n)(hi:i<C.N):i<S.aj.length:=by rw[b.jX.wl];exact hi
theorem zj.cN(b:zj C p s S M sz n):n<=2000000000:=by have:=b.n;omega
theorem zj.Ln(b:zj C p s S M sz n){x:Int}(h:x∈Am.gR (s.pc i)):-1000000000000<=x/\x<=1000000000000:=by
 have:=b.bd.r i x h;have hn:=b.n;unfold Am.Lp at this;omega
theorem zj.Nr(b:zj C p s S M sz n){a:Am.tF}(h:a.Nr=true):-1000000000000<=s.mem a/\s.mem a<=1000000000000:=by
 have:=b.bd.m a h;have hn:=b.n;unfold Am.Lp at this;omega
theorem Uz{s':Am.St}{q:Am.Pc}(h:s'.pc=Am.bJ s.pc i q)(hc:s'.cur=s.cur)(hg:Am.lV q=Am.lV (s.pc i)):Am.gen s'=Am.gen s:=by
 funext j;unfold Am.gen;rw[h,hc,Am.cA];split
 ·next e=>rw[e,hg]
 ·rfl
theorem UA(C:Am.jt){a b:Nat}(h:a<=b):Am.tot C a<=Am.tot C b:=by
 induction b with
 | zero=>rw[show a=0 by omega];exact ja _
 | succ b ih =>
  by_cases e:a=b+1
  ·rw[e];exact ja _
  ·have:=ih I;show _<=Am.tot C b+1+Am.tG C (b+1);omega
theorem Nx{afV:Nat}(hz:Am.SZ C s)(h1:(sz:Int)=Am.S0 C+C.N*Am.tot C afV)(h2:Am.tG C afV=C.most):s.size<=sz:=by
 have key:∀j,j<C.N->Am.tot C (Am.gen s j)<=Am.tot C afV:=λj hj=>by
  rcases AV afV (Am.gen s j)with h | h
  ·have:=hz.gm j hj afV h;omega
  ·exact UA C h
 have:=Am.Lo (f:=λj=>Am.tot C (Am.gen s j)) (k:=Am.tot C afV) (n:=C.N) key;rw[hz.size,h1];have e:((C.N*Am.tot C afV:Nat):Int)=(C.N:Int)*(Am.tot C afV:Int):=by simp
 omega
theorem jE.mk{a:bE}{M':ag}{o:Am.Out}{q:Am.Pc}{r:Option (aB×af×ag)}(b:zj C p s S M sz n)(hi:i<C.N)(hr:r=some (CZ o.ev,gE S i a,M'))
 (Hg:a.bx=i) (hfr:a.ax=fi (o.s.hold i)) (hq:o.s.pc=Am.bJ s.pc i q) (hph:ph C i q (o.s.fW i) (o.s.cur i) o.s.base a) (har:AR C o.s M' sz (n+1)) (QF:Lg C o.s M M' o.acc) (VP:Uy o.ev)
 (hh:∀j,j≠i->o.s.hold j=s.hold j:=by intros;rfl) (RP:∀j,j≠i->o.s.fW j=s.fW j:=by intros;rfl) (hc:∀j,j≠i->o.s.cur j=s.cur j:=by intros;rfl)
 (hb:∀j g,(j≠i∨g<=s.cur i)->o.s.base j g=s.base j g:=by intros;rfl) (hf:o.s.fr=s.fr:=by rfl) (hn:o.s.nf=s.nf:=by rfl) (hv:o.s.val=s.val:=by rfl):jE C p sz n M o r:=
 ⟨_,_,hr,b.jX.act b.dt hi ⟨Hg,hfr,by rw[hq,Am.aF];exact hph⟩ hq hh RP hc hb hf hn hv,har,QF,VP⟩
theorem zj.zk(b:zj C p s S M sz n){s':Am.St}{q:Am.Pc}(hq:s'.pc=Am.bJ s.pc i q)(hg:Am.lV q=Am.lV (s.pc i))(k a x y:Int)(ok:Bool)(h1:s'.mem=s.mem:=by rfl)(h2:s'.size=s.size:=by rfl)(h3:s'.base=s.base:=by rfl)(h4:s'.cur=s.cur:=by rfl) :
 AR C s' (nt M M.cell k a x y ok) sz (n+1):=b.ar.same h1 h2 h3 (Uz hq h4 hg) k a x y ok
theorem zj.Bx(b:zj C p s S M sz n){s':Am.St}{q:Am.Pc}{c:Am.tF}{v:Int}(hq:s'.pc=Am.bJ s.pc i q)(hg:Am.lV q=Am.lV (s.pc i))(hb:Am.FK C s c)(k a x y:Int)(ok:Bool)(h1:s'.mem=Am.bJ s.mem c v:=by rfl)(h2:s'.size=s.size:=by rfl)(h3:s'.base=s.base:=by rfl)(h4:s'.cur=s.cur:=by rfl) :
 AR C s' (nt M (M.cell.set (Am.cB C s c).toNat v) k a x y ok) sz (n+1):=b.ar.set b.z hb h1 h2 h3 (Uz hq h4 hg) k a x y ok
end
section
variable {K:Nat}{C:Am.jt}{p:aH}{s:Am.St}{S:af}{M:ag}{sz n i:Nat}{D:aV}{d:Int}
theorem Ix(b:zj C p s S M sz n)(hi:i<C.N){c:Nat}(hg:(Am.view s).g i= .push c):c<s.nf:=by
 have z:=b.fi.ps i c hi hg;rcases AV c s.nf with h | h
 ·exact h
 ·have:=b.fi.free c h;rw[this]at z;exact absurd z.2.1 (by simp)
theorem zj.task(b:zj C p s S M sz n){f:Nat}(hf:f<s.nf):bM (f:Int) S.aJ.length:=⟨I,by rw[b.jX.tl];have:s.nf<=C.F:=b.fi.xC;omega⟩
theorem sE(b:zj C p s S M sz n)(hi:i<C.N){c:Nat}(hc:(act S i).bW=c)(hg:(Am.view s).g i= .push c){o':bV}{M':ag}(h1:fu M (act S i).bq=some (o',M'))(h2:o'.kind=1)(h3:o'.J≠0) :
 cz S M (i:Int) D=some (CZ none,gE S i {act S i with bq:=o' },M'):=by
 have hin:bM (act S i).bW S.aJ.length:=by rw[hc];exact b.task (Ix b hi hg)
 unfold cz dY jT an;rw[cL,aM hin,ju,aM hin,wc h1 (Nu (by rw[h2];decide) h3),gu,aM rfl];rfl
section
variable (b:zj C p s S M sz n)(hi:i<C.N)
include b hi
theorem UB{c:Nat}(hp:s.pc i= .zP c):jE C p sz n M (Am.aC C s i d) (cz S M (i:Int) D):=by
 obtain⟨w1,w2,w3⟩:=b.jX.wk i hi;rw[hp]at w3;obtain⟨a1,a2,⟨o1,o2,o3,o4⟩,a3⟩:=w3;have hs:=qD o1 o2 dO dO (GS b.ar b.z b.cN hi o2 o3) (o':={(act S i).bq with J:=2,b:=s.mem (.bot i)}) (by
  rw[aM rfl];unfold eX;rw[aM o2])
 unfold Am.aC;rw[hp];simp only;exact .mk b hi (sE b hi a2 (by show Am.sig (s.pc i)=_;rw[hp];rfl) hs o1 (by show(2:Int)≠0;decide)) w1 w2 rfl ⟨a1,a2,⟨o1,rfl,o3,o4⟩,a3,rfl⟩ (b.zk rfl (by rw[hp];rfl) _ _ _ _ _) (Lg.nt rfl) trivial
theorem UC{c:Nat}{bb:Int}(hp:s.pc i= .yc c bb):jE C p sz n M (Am.aC C s i d) (cz S M (i:Int) D):=by
 obtain⟨w1,w2,w3⟩:=b.jX.wk i hi;rw[hp]at w3;obtain⟨a1,a2,⟨o1,o2,o3,o4⟩,a3,a4⟩:=w3;have hs:=qD o1 o2 dO dO (GU b.ar b.z b.cN hi o2 o3) (o':={(act S i).bq with J:=3,t:=s.mem (.top i)}) (by
  rw[aM rfl];unfold eX;rw[dD o2,aM o2])
 unfold Am.aC;rw[hp];simp only;exact .mk b hi (sE b hi a2 (by show Am.sig (s.pc i)=_;rw[hp];rfl) hs o1 (by show(3:Int)≠0;decide)) w1 w2 rfl ⟨a1,a2,⟨o1,rfl,o3,o4⟩,a3,a4,rfl⟩ (b.zk rfl (by rw[hp];rfl) _ _ _ _ _) (Lg.nt rfl) trivial
theorem O8{c:Nat}{bb t:Int}(hp:s.pc i= .q9 c bb t):jE C p sz n M (Am.aC C s i d) (cz S M (i:Int) D):=by
 obtain⟨w1,w2,w3⟩:=b.jX.wk i hi;rw[hp]at w3;obtain⟨a1,a2,⟨o1,o2,o3,o4⟩,a3,a4,a5⟩:=w3;have hs:=qD o1 o2 dO dO (Lu b.ar b.z b.cN hi o2 o3) (o':={(act S i).bq with J:=4,a:=s.mem (.buf i)}) (by
  rw[aM rfl];unfold eX;rw[dD o2,dD o2,aM o2])
 unfold Am.aC;rw[hp];simp only;exact .mk b hi (sE b hi a2 (by show Am.sig (s.pc i)=_;rw[hp];rfl) hs o1 (by show(4:Int)≠0;decide)) w1 w2 rfl ⟨a1,a2,⟨o1,rfl,o3,o4⟩,a3,a4,a5,(b.dt.1 i hi).FG⟩ (b.zk rfl (by rw[hp];rfl) _ _ _ _ _) (Lg.nt rfl) trivial
end
end
theorem W1{o:bV}{v:Int}(ha:o.J=4)(h1:1<=v)(h2:v<=4096)(hb:-4000000000000<=o.b-o.t/\o.b-o.t<=4000000000000):eX o v=if o.b-o.t<v then some {o with J:=10,c:=v}else if o.oH<=v then some {o with J:=0,c:=v,code:=3,value:=0}
 else some {o with J:=5,c:=v,c2:=if o.oH<2*v then o.oH else 2*v}:=by
 unfold eX eJ;rw[dD ha,dD ha,dD ha,aM ha,eu,eO (x:=o.b-o.t) I,eO (x:=2*v) I];rfl
theorem W2{o:bV}{v:Int}(ha:o.J=8)(hb:-4000000000000<=o.i/\o.i<=4000000000000):eX o v=if o.i+1=o.b then some {o with J:=9,i:=o.i+1}else some {o with J:=7,i:=o.i+1}:=by
 unfold eX;rw[dD ha,dD ha,dD ha,dD ha,dD ha,dD ha,dD ha,aM ha,eO (x:=o.i+1) I]
section
variable {K:Nat}{C:Am.jt}{p:aH}{s:Am.St}{S:af}{M:ag}{sz n i:Nat}{D:aV}{d:Int}
variable (b:zj C p s S M sz n)(hi:i<C.N)
include b hi
theorem Yl:s.mem (.cap i (s.cur i))=Am.tG C (s.cur i)/\(1:Int)<=s.mem (.cap i (s.cur i))/\s.mem (.cap i (s.cur i))<=C.most/\(C.most:Int)<=4096:=by
 have h:=Am.FJ b.z hi;have h1:=Am.GR b.ok (s.cur i);have h2:=Am.O2 b.ok (s.cur i);have h3:=b.ok.m4;change s.mem (.cap i (s.cur i))=_ at h;omega
theorem RQ{c:Nat}(hc:(act S i).bW=c)(hg:(Am.view s).g i= .push c){o':bV}{M':ag}(h1:fu M (act S i).bq=some (o',M'))(h2:o'.kind=1)(h3:o'.J=0)(h4:o'.code=3) :
 cz S M (i:Int) D=some (CZ (Am.ev 11 c 1 0),gE S i {{act S i with bq:=o' }with aK:=14},M'):=by
 have hin:bM (act S i).bW S.aJ.length:=by rw[hc];exact b.task (Ix b hi hg)
 have hw:=b.wl hi;unfold cz dY jT an;rw[cL,aM hin,ju,aM hin,wc h1 (O5 (by rw[h2];decide) h3),gu,h4,bZ dO,aM rfl,aM (by rw[jW];exact b.BE hi)];rw[show J (gE S i {act S i with bq:=o' }).aj i={act S i with bq:=o' }from oa hw];show some (_,gE (gE S i _) i _,_)=_;rw[Nw];show some ((⟨0,0,11,(act S i).bW,1,0⟩:aB),_,_)=_;rw[hc];rfl
theorem O9{c:Nat}{bb t:Int}(hp:s.pc i= .rf c bb t):jE C p sz n M (Am.aC C s i d) (cz S M (i:Int) D):=by
 obtain⟨w1,w2,w3⟩:=b.jX.wk i hi;rw[hp]at w3;obtain⟨a1,a2,⟨o1,o2,o3,o4⟩,a3,a4,a5,a6⟩:=w3;obtain⟨c0,c1,c2,c3⟩:=Yl b hi;have r1:=b.Ln (i:=i) (x:=bb) (by rw[hp];simp[Am.gR]);have r2:=b.Ln (i:=i) (x:=t) (by rw[hp];simp[Am.gR]);have hg:(Am.view s).g i= .push c:=by show Am.sig (s.pc i)=_;rw[hp];rfl
 have hs:∀o',eX (act S i).bq (s.mem (.cap i (s.cur i)))=some o'->_:=λo' h=>qD o1 o2 dO dO (Lv b.ar b.z b.cN hi (Cp s i) o2 a6) (o':=o') (by rw[aM rfl];exact h);have e0:=W1 o2 (v:=s.mem (.cap i (s.cur i))) c1 I (by rw[a4,a5];omega);unfold Am.aC;rw[hp];simp only;by_cases h1:bb-t<s.mem (.cap i (s.cur i))
 ·rw[aM h1];rw[aM (by rw[a4,a5];exact h1)]at e0;exact .mk b hi (sE b hi a2 hg (hs _ e0) o1 (by show(10:Int)≠0;decide)) w1 w2 rfl ⟨a1,a2,⟨o1,rfl,o3,o4⟩,a3,a4,a6,rfl⟩ (b.zk rfl (by rw[hp];rfl) _ _ _ _ _) (Lg.nt rfl) trivial
 ·rw[bZ h1];rw[bZ (by rw[a4,a5];exact h1)]at e0;by_cases h2:(C.most:Int)<=s.mem (.cap i (s.cur i))
  ·rw[aM h2];rw[aM (by rw[o4];exact h2)]at e0;exact .mk b hi (RQ b hi a2 hg (hs _ e0) o1 rfl rfl) w1 w2 rfl rfl (b.zk rfl (by rw[hp];rfl) _ _ _ _ _) (Lg.nt rfl) (by show(11:Nat)≠0;decide)
  ·rw[bZ h2];rw[bZ (by rw[o4];exact h2)]at e0;refine .mk b hi (sE b hi a2 hg (hs _ e0) o1 (by show(5:Int)≠0;decide)) w1 w2 rfl ⟨a1,a2,⟨o1,rfl,o3,o4⟩,a3,a4,a5,a6,rfl,?_⟩ (b.zk rfl (by rw[hp];rfl) _ _ _ _ _) (Lg.nt rfl) trivial;show(if(act S i).bq.oH<_ then(act S i).bq.oH else _)=_;rw[o4];unfold Am.iY;split<;>split<;>omega
theorem Lx{c:Nat}{bb t cc:Int}(h:Am.DR C s i bb t cc):cc=Am.tG C (s.cur i)/\Am.iY C cc=Am.tG C (s.cur i+1)/\(1:Int)<=Am.iY C cc/\Am.iY C cc<=4096:=by
 have e:=h.2.2.2.2.1;rw[Am.FJ b.z hi]at e;have h1:=Am.GR b.ok (s.cur i+1);have h2:=Am.O2 b.ok (s.cur i+1);have h3:=b.ok.m4;refine⟨e,by rw[e];exact Am.AH C _,?_,?_⟩<;>rw[e,Am.AH C]<;>omega
theorem W3{c:Nat}{bb t cc:Int}(hp:s.pc i= .grow c bb t cc):jE C p sz n M (Am.aC C s i d) (cz S M (i:Int) D):=by
 obtain⟨w1,w2,w3⟩:=b.jX.wk i hi;rw[hp]at w3;obtain⟨a1,a2,⟨o1,o2,o3,o4⟩,a3,a4,a5,a6,a7,a8⟩:=w3;have P:=(b.dt.1 i hi).ph;unfold Am.pT at P;rw[hp]at P;simp only at P;obtain⟨g1,g2,g3,g4⟩:=Lx b hi (c:=c) P;have hg:(Am.view s).g i= .push c:=by show Am.sig (s.pc i)=_;rw[hp];rfl
 have Pa:Am.gen s i=s.cur i:=by unfold Am.gen;rw[hp];rfl
 obtain⟨afV,q1,q2⟩:=b.room;have Oa:=b.z.aC b.ok b.dt hi d;have hsz:=Nx Oa q1 q2;have hlen:=b.ar.cl.len;have hss:(Am.aC C s i d).s.size=s.size+1+Am.tG C (s.cur i+1):=by unfold Am.aC;rw[hp];show s.size+1+Am.iY C cc=_;rw[g2]
 have hs:=qD o1 o2 dO dO (WX (k:=Am.tG C (s.cur i+1)) b.ar b.cN o2 (by rw[a8];exact g2) I) (o':={(act S i).bq with J:=6,a2:=s.size}) (by
  rw[aM rfl];unfold eX;rw[dD o2,dD o2,dD o2,dD o2,aM o2])
 have hgs:Am.gen (Am.aC C s i d).s=Am.bJ (Am.gen s) i (s.cur i+1):=by
  unfold Am.aC;rw[hp];simp only
  funext j;rw[Am.cA];unfold Am.gen;simp only[Am.St.to,Am.cA]
  split
  ·next e=>subst e;rfl
  ·rfl
 have VO:=b.ar.cl.grow (s':=(Am.aC C s i d).s) b.z hi Pa (λa=>by unfold Am.aC;rw[hp];cases a<;>rfl) hss (by unfold Am.aC;rw[hp];rfl) hgs;have hbs:(Am.aC C s i d).s.base=Am.bJ s.base i (Am.bJ (s.base i) (s.cur i+1) s.size):=by unfold Am.aC;rw[hp];rfl
 have har:AR C (Am.aC C s i d).s {nt M (M.cell++List.replicate (1+Am.tG C (s.cur i+1)) 0) 4 s.size ((1+Am.tG C (s.cur i+1):Nat):Int) 0 true with fP:=s.size+((1+Am.tG C (s.cur i+1):Nat):Int)} sz (n+1):=by
  refine⟨b.ar.size,b.ar.s1,hsz,?_,VO,?_⟩
  ·show s.size+((1+Am.tG C (s.cur i+1):Nat):Int)=(((M.cell++List.replicate _ 0).length:Nat):Int);rw[kQ,nX];omega
  ·have:=b.ar.lg;show(if M.watched=true then M.log++[_]else M.log).length<=_;split
   ·rw[kQ];simp;omega
   ·omega
 have QF:Lg C (Am.aC C s i d).s M {nt M (M.cell++List.replicate (1+Am.tG C (s.cur i+1)) 0) 4 s.size ((1+Am.tG C (s.cur i+1):Nat):Int) 0 true with fP:=s.size+((1+Am.tG C (s.cur i+1):Nat):Int)} (Am.ZR (.cap i (s.cur i+1)) (1+Am.iY C cc)):=by
  have pl:Am.cB C (Am.aC C s i d).s (.cap i (s.cur i+1))=s.size:=by show(Am.aC C s i d).s.base i (s.cur i+1)=_;rw[hbs,Am.aF,Am.aF]
  have e:((1+Am.tG C (s.cur i+1):Nat):Int)=1+Am.iY C cc:=by rw[g2];omega
  rw[e];exact Lg.nt (M:=M) (c:=M.cell++List.replicate (1+Am.tG C (s.cur i+1)) 0) pl
 have hb:∀j g,(j≠i∨g<=s.cur i)->(Am.aC C s i d).s.base j g=s.base j g:=λj g h=>by
  rw[hbs,Am.cA];split
  ·next e=>subst e;rw[Am.aA I]
  ·rfl
 have ab5:(Am.aC C s i d).s.cur=s.cur:=by unfold Am.aC;rw[hp];rfl
 have Z0:(Am.aC C s i d).s.pc=Am.bJ s.pc i (.mS c bb t cc):=by unfold Am.aC;rw[hp];rfl
 have VP:(Am.aC C s i d).ev=none:=by unfold Am.aC;rw[hp]
 have hac:(Am.aC C s i d).acc=Am.ZR (.cap i (s.cur i+1)) (1+Am.iY C cc):=by unfold Am.aC;rw[hp]
 refine jE.mk (a:={act S i with bq:={(act S i).bq with J:=6,a2:=s.size}}) b hi (by rw[VP];exact sE b hi a2 hg hs o1 (by show(6:Int)≠0;decide)) w1 (by show(act S i).ax=_;rw[w2];unfold Am.aC;rw[hp];rfl) Z0 ?_ har (by rw[hac];exact QF) (by rw[VP];trivial)
  (by unfold Am.aC;rw[hp];intros;rfl) (by unfold Am.aC;rw[hp];intros;rfl) (λj _=>by rw[ab5]) hb (by unfold Am.aC;rw[hp];rfl) (by unfold Am.aC;rw[hp];rfl) (by unfold Am.aC;rw[hp];rfl)
 rw[ab5];refine⟨a1,a2,⟨o1,rfl,o3,o4⟩,a3,a4,a5,?_,a7,a8,?_⟩
 ·rw[hb i (s.cur i) (.inr (ja _))];exact a6
 ·show s.size=_;rw[hbs,Am.aF,Am.aF]
theorem Pb{c:Nat}{bb t cc:Int}(hp:s.pc i= .mS c bb t cc):jE C p sz n M (Am.aC C s i d) (cz S M (i:Int) D):=by
 obtain⟨w1,w2,w3⟩:=b.jX.wk i hi;rw[hp]at w3;obtain⟨a1,a2,⟨o1,o2,o3,o4⟩,a3,a4,a5,a6,a7,a8,a9⟩:=w3;have hg:(Am.view s).g i= .push c:=by show Am.sig (s.pc i)=_;rw[hp];rfl
 have Pa:s.cur i+1<=Am.gen s i:=by unfold Am.gen;rw[hp];exact ja _
 have hs:=qD o1 o2 dO dO (O6 b.ar b.z b.cN hi Pa o2 a9) (o':={(act S i).bq with J:=7,i:=(act S i).bq.t}) (by
  rw[aM rfl];unfold eX;rw[dD o2,dD o2,dD o2,dD o2,dD o2,aM o2])
 rw[a8]at hs;unfold Am.aC;rw[hp];simp only;exact .mk b hi (sE b hi a2 hg hs o1 (by show(7:Int)≠0;decide)) w1 w2 rfl ⟨a1,a2,⟨o1,rfl,o3,o4⟩,a3,a4,a5,a6,a7,a8,a9,a5⟩ (b.Bx (c:=.cap i (s.cur i+1)) rfl (by rw[hp];rfl) ⟨hi,Pa⟩ _ _ _ _ _) (Lg.nt rfl) trivial
theorem Ny{c:Nat}{bb t cc m:Int}(hp:s.pc i= .kP c bb t cc m):jE C p sz n M (Am.aC C s i d) (cz S M (i:Int) D):=by
 obtain⟨w1,w2,w3⟩:=b.jX.wk i hi;rw[hp]at w3;obtain⟨a1,a2,⟨o1,o2,o3,o4⟩,a3,a4,a5,a6,a7,a8,a9,VQ⟩:=w3;have P:=(b.dt.1 i hi).ph;unfold Am.pT at P;rw[hp]at P;simp only at P;obtain⟨g1,g2,g3,g4⟩:=Lx b hi (c:=c) P.1;have r1:=b.Ln (i:=i) (x:=m) (by rw[hp];simp[Am.gR]);have hg:(Am.view s).g i= .push c:=by show Am.sig (s.pc i)=_;rw[hp];rfl
 have hs:=qD o1 o2 dO dO (WY b.ar b.z b.ok b.cN hi (Cp s i) o2 a6 (by rw[a7];exact g1) (by rw[VQ];exact r1)) (o':={(act S i).bq with J:=8,x:=s.mem (.el i (s.cur i) (Am.ix (act S i).bq.i (act S i).bq.c))}) (by
  rw[aM rfl];unfold eX;rw[dD o2,dD o2,dD o2,dD o2,dD o2,dD o2,aM o2])
 rw[a7,VQ]at hs;unfold Am.aC;rw[hp];simp only;exact .mk b hi (sE b hi a2 hg hs o1 (by show(8:Int)≠0;decide)) w1 w2 rfl ⟨a1,a2,⟨o1,rfl,o3,o4⟩,a3,a4,a5,a6,a7,a8,a9,VQ,rfl⟩ (b.zk rfl (by rw[hp];rfl) _ _ _ _ _) (Lg.nt rfl) trivial
theorem Ly{c:Nat}{bb t cc m x:Int}(hp:s.pc i= .j8 c bb t cc m x):jE C p sz n M (Am.aC C s i d) (cz S M (i:Int) D):=by
 obtain⟨w1,w2,w3⟩:=b.jX.wk i hi;rw[hp]at w3;obtain⟨a1,a2,⟨o1,o2,o3,o4⟩,a3,a4,a5,a6,a7,a8,a9,VQ,a11⟩:=w3;have P:=(b.dt.1 i hi).ph;unfold Am.pT at P;rw[hp]at P;simp only at P;obtain⟨g1,g2,g3,g4⟩:=Lx b hi (c:=c) P.1;have r1:=b.Ln (i:=i) (x:=m) (by rw[hp];simp[Am.gR]);have hg:(Am.view s).g i= .push c:=by show Am.sig (s.pc i)=_;rw[hp];rfl
 have Pa:s.cur i+1<=Am.gen s i:=by unfold Am.gen;rw[hp];exact ja _
 have hac:=WZ b.ar b.z b.ok b.cN hi Pa o2 a9 (by rw[a8];exact g2) (by rw[VQ];exact r1);rw[a8,VQ,a11]at hac;have hv:=(CA (x:=m) b.ar b.z b.ok hi Pa g2 r1).2;have e0:=W2 o2 (v:=0) (by rw[VQ];omega);have hlt:=P.2.2.2.1;unfold Am.aC;rw[hp];simp only;by_cases e:m+1<bb
 ·rw[aM e];rw[bZ (by rw[VQ,a4];omega)]at e0;have hs:=qD o1 o2 dO dO hac (o':=_) (by rw[aM rfl];exact e0);exact .mk b hi (sE b hi a2 hg hs o1 (by show(7:Int)≠0;decide)) w1 w2 rfl ⟨a1,a2,⟨o1,rfl,o3,o4⟩,a3,a4,a5,a6,a7,a8,a9,by rw[<-VQ]⟩ (b.Bx (c:=.el i (s.cur i+1) (Am.ix m (Am.iY C cc))) rfl (by rw[hp];rfl) hv _ _ _ _ _) (Lg.nt rfl) trivial
 ·rw[bZ e];rw[aM (by rw[VQ,a4];omega)]at e0;have hs:=qD o1 o2 dO dO hac (o':=_) (by rw[aM rfl];exact e0);exact .mk b hi (sE b hi a2 hg hs o1 (by show(9:Int)≠0;decide)) w1 w2 rfl ⟨a1,a2,⟨o1,rfl,o3,o4⟩,a3,a4,a8,a9⟩ (b.Bx (c:=.el i (s.cur i+1) (Am.ix m (Am.iY C cc))) rfl (by rw[hp];rfl) hv _ _ _ _ _) (Lg.nt rfl) trivial
theorem Pd{c:Nat}{bb t cc:Int}(hp:s.pc i= .mT c bb t cc):jE C p sz n M (Am.aC C s i d) (cz S M (i:Int) D):=by
 obtain⟨w1,w2,w3⟩:=b.jX.wk i hi;rw[hp]at w3;obtain⟨a1,a2,⟨o1,o2,o3,o4⟩,a3,a4,a8,a9⟩:=w3;have hg:(Am.view s).g i= .push c:=by show Am.sig (s.pc i)=_;rw[hp];rfl
 have hs:=qD o1 o2 dO dO (O7 b.ar b.z b.cN hi o2 o3) (o':={(act S i).bq with J:=10,a:=(act S i).bq.a2,c:=(act S i).bq.c2}) (by
  rw[aM rfl];unfold eX;rw[dD o2,dD o2,dD o2,dD o2,dD o2,dD o2,dD o2,dD o2,aM o2])
 unfold Am.aC;rw[hp];simp only;have hcu:Am.bJ s.cur i (s.cur i+1) i=s.cur i+1:=Am.aF _ _ _;refine .mk b hi (sE b hi a2 hg hs o1 (by show(10:Int)≠0;decide)) w1 w2 (q:=.jV c bb (Am.iY C cc)) rfl ?_ ?_ ?_ trivial (hc:=λj hj=>Am.aA hj)
 ·show ph C i _ _ (Am.bJ s.cur i (s.cur i+1) i) _ _;rw[hcu];exact⟨a1,a2,⟨o1,rfl,o3,o4⟩,a3,a4,a9,a8⟩
 ·rw[a9];refine b.ar.set (s':=({s.wr (.buf i) (s.base i (s.cur i+1))with cur:=Am.bJ s.cur i (s.cur i+1)}:Am.St).to i (.jV c bb (Am.iY C cc))) b.z (b:=.buf i) (v:=s.base i (s.cur i+1)) hi rfl rfl rfl ?_ _ _ _ _ _
  funext j;unfold Am.gen;simp only[Am.St.to,Am.St.wr,Am.cA]
  split
  ·next e=>subst e;rw[hp];rfl
  ·rfl
 ·rw[a9];exact Lg.nt rfl
theorem Nz{c:Nat}{bb cc:Int}(hp:s.pc i= .jV c bb cc):jE C p sz n M (Am.aC C s i d) (cz S M (i:Int) D):=by
 obtain⟨w1,w2,w3⟩:=b.jX.wk i hi;rw[hp]at w3;obtain⟨a1,a2,⟨o1,o2,o3,o4⟩,a3,a4,a6,a7⟩:=w3;have P:=(b.dt.1 i hi).ph;unfold Am.pT at P;rw[hp]at P;simp only at P;have Sm:cc=Am.tG C (s.cur i):=P.2.2.2.trans (Am.FJ b.z hi);have r1:=b.Ln (i:=i) (x:=bb) (by rw[hp];simp[Am.gR]);have hg:(Am.view s).g i= .push c:=by show Am.sig (s.pc i)=_;rw[hp];rfl
 have hv:=(CA (x:=bb) b.ar b.z b.ok hi (Cp s i) Sm r1).2;have hs:=qD o1 o2 dO dO (W0 b.ar b.z b.ok b.cN hi (Cp s i) o2 a6 (by rw[a7];exact Sm) (by rw[a4];exact r1)) (o':={(act S i).bq with J:=11}) (by
  rw[aM rfl];unfold eX;rw[dD o2,dD o2,dD o2,dD o2,dD o2,dD o2,dD o2,dD o2,dD o2,aM o2])
 rw[a7,a4,a3]at hs;unfold Am.aC;rw[hp];simp only;exact .mk b hi (sE b hi a2 hg hs o1 (by show(11:Int)≠0;decide)) w1 w2 rfl ⟨a1,a2,⟨o1,rfl,o3,o4⟩,a4⟩ (b.Bx (c:=.el i (s.cur i) (Am.ix bb cc)) rfl (by rw[hp];rfl) hv _ _ _ _ _) (Lg.nt rfl) trivial
end
theorem ab6{o:bV}(hk:o.kind=1)(hb:-4000000000000<=o.b/\o.b<=4000000000000):jv o=some (o.b+1):=by
 unfold jv;rw[aM hk,eO I]
theorem ab7{o:bV}(hk:o.kind=2)(hi:o.i=0):jv o=some o.b:=by
 unfold jv;rw[dD hk,aM hi]
theorem ab8{o:bV}(hk:o.kind=2)(hi:o.i=1)(h:o.b<o.t):jv o=some o.t:=by
 unfold jv;rw[dD hk,dD hi,sR]
theorem ab9{o:bV}(hk:o.kind=2)(hi:o.i=1)(h:o.t<=o.b)(hb:-4000000000000<=o.t/\o.t<=4000000000000):jv o=some (o.t+1):=by
 unfold jv;rw[dD hk,dD hi,eu,eO I]
section
variable {o:bV}{v:Int}
theorem acd(ha:o.J=1)(hv:-4000000000000<=v/\v<=4000000000000):eY o v=some {o with J:=3,b:=v-1}:=by
 unfold eY;rw[aM ha,eO I]
theorem ace(ha:o.J=3):eY o v=some {o with J:=11,a:=v}:=by
 unfold eY;rw[dD ha,aM ha]
theorem Pe(ha:o.J=11):eY o v=if o.i=0 then some {o with J:=2}else if o.Al=true then some {o with J:=0,code:=4,value:=o.x}else some {o with J:=0,code:=5,value:=0}:=by
 unfold eY eJ;rw[dD ha,dD ha,aM ha];rfl
theorem acf(ha:o.J=2):eY o v=if v>o.b then some {o with J:=11,t:=v,i:=1}else some {o with J:=4,t:=v,i:=1}:=by
 unfold eY;rw[dD ha,dD ha,dD ha,aM ha]
theorem acg(ha:o.J=4)(hv:1<=v):eY o v=some {o with J:=12,c:=v}:=by
 unfold eY;rw[dD ha,dD ha,dD ha,dD ha,aM ha,eu]
theorem Z1(ha:o.J=12):eY o v=if o.t<o.b then some {o with J:=0,x:=v,code:=4,value:=v}else some {o with J:=13,x:=v}:=by
 unfold eY eJ;rw[dD ha,dD ha,dD ha,dD ha,dD ha,aM ha];rfl
theorem Z2(ha:o.J=13):eY o v=some {o with J:=11,Al:=v==1}:=by
 unfold eY;rw[dD ha,dD ha,dD ha,dD ha,dD ha,dD ha,aM ha]
theorem ach(ha:o.J=2):fO o v=some {o with J:=1,t:=v}:=by unfold fO;rw[aM ha]
theorem aci(ha:o.J=1):fO o v=if o.t>=v then some {o with J:=0,b:=v,code:=5,value:=0}else some {o with J:=3,b:=v}:=by
 unfold fO eJ;rw[dD ha,aM ha];rfl
theorem acj(ha:o.J=3):fO o v=some {o with J:=4,a:=v}:=by
 unfold fO;rw[dD ha,dD ha,aM ha]
theorem ack(ha:o.J=4)(hv:1<=v):fO o v=some {o with J:=12,c:=v}:=by
 unfold fO;rw[dD ha,dD ha,dD ha,aM ha,eu]
theorem Z3(ha:o.J=12):fO o v=some {o with J:=13,x:=v}:=by
 unfold fO;rw[dD ha,dD ha,dD ha,dD ha,aM ha]
theorem Z4(ha:o.J=13):fO o v=if v=1 then some {o with J:=0,code:=4,value:=o.x}else some {o with J:=0,code:=6,value:=0}:=by
 unfold fO eJ;rw[dD ha,dD ha,dD ha,dD ha,dD ha,aM ha];rfl
end
section
variable {K:Nat}{C:Am.jt}{p:aH}{s:Am.St}{S:af}{M M':ag}{sz n i:Nat}{D:aV}{d:Int}{o':bV}
theorem zj.W4(b:zj C p s S M sz n)(hi:i<C.N):vS (⟨S.fo,S.cH⟩:fc) (i:Int)=some (⟨2+10*(C.F:Int),C.N,i,2,8,1,0,0,0,List.replicate 64 ⟨0,0⟩,⟨0,0,0,0,0,0,0,0,0,0,0,0,0,false,0,0⟩⟩:bQ):=by
 have h1:=b.ok.n1;have h2:=b.ok.n64;unfold vS nh pD cy bK;rw[b.jX.lb,b.jX.lw];simp only;rw[eu,eu,aq,eO (x:=2+(C.N:Int)) I,sR,sR,tJ I,aq,aM rfl]
def acm(C:Am.jt)(i:Nat):bQ:=⟨2+10*(C.F:Int),C.N,i,2,8,1,0,0,0,List.replicate 64 ⟨0,0⟩,⟨0,0,0,0,0,0,0,0,0,0,0,0,0,false,0,0⟩⟩
variable (b:zj C p s S M sz n)(hi:i<C.N)
include b hi
theorem RR{c:Nat}(hc:(act S i).bW=c)(hg:(Am.view s).g i= .push c)(h1:fu M (act S i).bq=some (o',M'))(h2:o'.kind=1)(h3:o'.J=0)(h4:o'.code=2){f:Nat}(hf:(act S i).ax=f) :
 cz S M (i:Int) D=some (CZ (Am.ev 2 c f (s.fr c).k8),gE S i {act S i with bq:=o',cF:=acm C i,aK:=4},M'):=by
 have hcn:=Ix b hi hg;have hin:bM (act S i).bW S.aJ.length:=by rw[hc];exact b.task hcn
 have hw:=b.wl hi;have Hg:=(b.jX.wk i hi).self;have ht:=(b.jX.tk c hcn).k8;have hwk:=b.W4 hi;unfold cz dY jT an;rw[cL,aM hin,ju,aM hin,wc h1 (O5 (by rw[h2];decide) h3),gu,h4,bZ dO,bZ dO,aM rfl,aM (by rw[jW];exact b.BE hi)];rw[show J (gE S i {act S i with bq:=o' }).aj i={act S i with bq:=o' }from oa hw];have aey:vS (⟨S.fo,S.cH⟩:fc) (act S i).bx=some (acm C i):=by rw[show(act S i).bx=i from Hg];exact hwk
 show eA (vS (⟨S.fo,S.cH⟩:fc) (act S i).bx) _=_;rw[aey,aq];show some ((⟨0,0,2,(act S i).bW,(act S i).ax,(J S.aJ (act S i).bW.toNat).k8⟩:aB),({S with aj:=((S.aj.set i _).set i _).set i _}:af),M')=_;rw[iP,iP,hf,hc,cL,ht];rfl
theorem Pf{c:Nat}{bb:Int}(hp:s.pc i= .n7 c bb):jE C p sz n M (Am.aC C s i d) (cz S M (i:Int) D):=by
 obtain⟨w1,w2,w3⟩:=b.jX.wk i hi;rw[hp]at w3;obtain⟨a1,a2,⟨o1,o2,o3,o4⟩,a4⟩:=w3;have r1:=b.Ln (i:=i) (x:=bb) (by rw[hp];simp[Am.gR]);have hg:(Am.view s).g i= .push c:=by show Am.sig (s.pc i)=_;rw[hp];rfl
 obtain⟨f,hh⟩:=Am.n9 b.fi hi (by rw[hp];rfl);have hac:=AJ b.ar b.z b.cN hi o2 o3 (ab6 o1 (by rw[a4];omega));rw[a4]at hac;have hs:=qD o1 o2 dO dO hac (o':={(act S i).bq with J:=0,code:=2,value:=0}) (by
  rw[aM rfl];unfold eX eJ;rw[dD o2,dD o2,dD o2,dD o2,dD o2,dD o2,dD o2,dD o2,dD o2,dD o2,aM o2];rfl)
 unfold Am.aC;rw[hp];simp only[hh,nQ];exact .mk b hi (RR b hi a2 hg hs o1 rfl rfl (f:=f) (by rw[show(act S i).ax=fi (s.hold i)from w2,hh];rfl)) w1 w2 rfl ⟨rfl,rfl,rfl,rfl,rfl,rfl,rfl⟩ (b.Bx (c:=.bot i) rfl (by rw[hp];rfl) hi _ _ _ _ _) (Lg.nt rfl) (by show(2:Nat)≠0;decide)
theorem we(h1:fu M (act S i).bq=some (o',M'))(h2:o'.kind=2)(h3:o'.J≠0):cK S M (i:Int) D=some (CZ none,gE S i {act S i with bq:=o' },M'):=by
 unfold cK jT an;rw[wc h1 (Nu (by rw[h2];decide) h3),gu,aM rfl];rfl
theorem QG(h1:fu M (act S i).bq=some (o',M'))(h2:o'.kind=2)(h3:o'.J=0)(h4:o'.code=4) :
 cK S M (i:Int) D=some (CZ none,gE S i {act S i with bq:=o',ax:=o'.value,from_:=-1,aK:=0},M'):=by
 have hw:=b.wl hi;unfold cK jT an;rw[wc h1 (O5 (by rw[h2];decide) h3),gu,h4,bZ dO,aM rfl,aM (by rw[jW];exact b.BE hi),cL];rw[show J (gE S i {act S i with bq:=o' }).aj i={act S i with bq:=o' }from oa hw];show some (_,({S with aj:=(((S.aj.set i _).set i _).set i _).set i _}:af),M')=_;rw[iP,iP,iP];rfl
theorem pop_empty(h1:fu M (act S i).bq=some (o',M'))(h2:o'.kind=2)(h3:o'.J=0)(h4:o'.code=5) :
 cK S M (i:Int) D=some (CZ none,gE S i {act S i with bq:=o',fW:=0,aK:=9},M'):=by
 have hw:=b.wl hi;unfold cK jT an;rw[wc h1 (O5 (by rw[h2];decide) h3),gu,h4,bZ dO,bZ dO,aM rfl,aM (by rw[jW];exact b.BE hi),cL];rw[show J (gE S i {act S i with bq:=o' }).aj i={act S i with bq:=o' }from oa hw];show some (_,({S with aj:=((S.aj.set i _).set i _).set i _}:af),M')=_;rw[iP,iP];rfl
theorem W5(hp:s.pc i= .Bw):jE C p sz n M (Am.aC C s i d) (cK S M (i:Int) D):=by
 obtain⟨w1,w2,w3⟩:=b.jX.wk i hi;rw[hp]at w3;obtain⟨a1,⟨o1,o2,o3,o4⟩,a3,a4⟩:=w3;have r:=b.Nr (a:=.bot i) rfl;have hs:=qD o1 o2 dO dO (GS b.ar b.z b.cN hi o2 o3) (by rw[bZ dO,aM rfl];exact acd o2 I);unfold Am.aC;rw[hp];simp only;exact .mk b hi (we b hi hs o1 (by show(3:Int)≠0;decide)) w1 w2 rfl ⟨a1,⟨o1,rfl,o3,o4⟩,a3,a4,rfl⟩ (b.zk rfl (by rw[hp];rfl) _ _ _ _ _) (Lg.nt rfl) trivial
theorem RS{bb:Int}(hp:s.pc i= .wV bb):jE C p sz n M (Am.aC C s i d) (cK S M (i:Int) D):=by
 obtain⟨w1,w2,w3⟩:=b.jX.wk i hi;rw[hp]at w3;obtain⟨a1,⟨o1,o2,o3,o4⟩,a3,a4,a5⟩:=w3;have hs:=qD o1 o2 dO dO (Lu b.ar b.z b.cN hi o2 o3) (by rw[bZ dO,aM rfl];exact ace o2);unfold Am.aC;rw[hp];simp only;exact .mk b hi (we b hi hs o1 (by show(11:Int)≠0;decide)) w1 w2 rfl ⟨a1,⟨o1,rfl,o3,o4⟩,a3,a4,a5,(b.dt.1 i hi).FG⟩ (b.zk rfl (by rw[hp];rfl) _ _ _ _ _) (Lg.nt rfl) trivial
theorem NA{bb:Int}(hp:s.pc i= .rJ bb):jE C p sz n M (Am.aC C s i d) (cK S M (i:Int) D):=by
 obtain⟨w1,w2,w3⟩:=b.jX.wk i hi;rw[hp]at w3;obtain⟨a1,⟨o1,o2,o3,o4⟩,a3,a4,a5,a6⟩:=w3;have hac:=AJ b.ar b.z b.cN hi o2 o3 (ab7 o1 a3);rw[a5]at hac;have hs:=qD o1 o2 dO dO hac (by rw[bZ dO,aM rfl,Pe o2,aM a3]);unfold Am.aC;rw[hp];simp only;exact .mk b hi (we b hi hs o1 (by show(2:Int)≠0;decide)) w1 w2 rfl ⟨a1,⟨o1,rfl,o3,o4⟩,a5,a6,a4⟩ (b.Bx (c:=.bot i) rfl (by rw[hp];rfl) hi _ _ _ _ _) (Lg.nt rfl) trivial
theorem W6{bb:Int}(hp:s.pc i= .AB bb):jE C p sz n M (Am.aC C s i d) (cK S M (i:Int) D):=by
 obtain⟨w1,w2,w3⟩:=b.jX.wk i hi;rw[hp]at w3;obtain⟨a1,⟨o1,o2,o3,o4⟩,a5,a6,a4⟩:=w3;have hac:=GU b.ar b.z b.cN hi o2 o3;have hs:=λo' h=>qD o1 o2 dO dO hac (o':=o') (by rw[bZ dO,aM rfl];exact h);have e:=acf o2 (v:=s.mem (.top i));unfold Am.aC;rw[hp];simp only;by_cases h1:s.mem (.top i)<bb
 ·rw[aM h1];rw[bZ (by rw[a5];omega)]at e;exact .mk b hi (we b hi (hs _ e) o1 (by show(4:Int)≠0;decide)) w1 w2 rfl ⟨a1,⟨o1,rfl,o3,o4⟩,rfl,a5,rfl,a6⟩ (b.zk rfl (by rw[hp];rfl) _ _ _ _ _) (Lg.nt rfl) trivial
 ·rw[bZ h1];by_cases h2:s.mem (.top i)=bb
  ·rw[aM h2];rw[bZ (by rw[a5];omega)]at e;exact .mk b hi (we b hi (hs _ e) o1 (by show(4:Int)≠0;decide)) w1 w2 rfl ⟨a1,⟨o1,rfl,o3,o4⟩,rfl,a5,rfl,a6⟩ (b.zk rfl (by rw[hp];rfl) _ _ _ _ _) (Lg.nt rfl) trivial
  ·rw[bZ h2];rw[aM (by rw[a5];omega)]at e;exact .mk b hi (we b hi (hs _ e) o1 (by show(11:Int)≠0;decide)) w1 w2 rfl ⟨a1,⟨o1,rfl,o3,o4⟩,rfl,rfl,by show(act S i).bq.b<_;rw[show(act S i).bq.b=bb from a5];omega,a4⟩ (b.zk rfl (by rw[hp];rfl) _ _ _ _ _) (Lg.nt rfl) trivial
theorem EP{tr cj:Nat}{bs:Nat->Nat->Int}{a:bE}(h1:a.aK=9)(h2:a.fW=0)(h3:tr=0):ph C i (if C.N=1 then .flag else .jQ) tr cj bs a:=by
 by_cases e:C.N=1
 ·rw[aM e];exact .inl ⟨h1,e⟩
 ·rw[bZ e];exact⟨h1,by rw[h2,h3];rfl,I⟩
theorem ER{q:Am.Pc}(h:Am.lV q=false):Am.lV (if C.N=1 then .flag else .jQ)=Am.lV q:=by rw[h];split<;>rfl
theorem NB{t:Int}(hp:s.pc i= .pM t):jE C p sz n M (Am.aC C s i d) (cK S M (i:Int) D):=by
 obtain⟨w1,w2,w3⟩:=b.jX.wk i hi;rw[hp]at w3;obtain⟨a1,⟨o1,o2,o3,o4⟩,a3,a5,a6,a4⟩:=w3;have hac:=AJ b.ar b.z b.cN hi o2 o3 (ab8 o1 a3 (by rw[a5];exact a6));rw[a5]at hac;have hs:=qD o1 o2 dO dO hac (by rw[bZ dO,aM rfl,Pe o2,dD a3,dD a4]);unfold Am.aC;rw[hp];simp only;exact .mk b hi (pop_empty b hi hs o1 rfl rfl) w1 w2 rfl (EP b hi rfl rfl (Am.aF _ _ _)) (b.Bx (c:=.bot i) rfl (by rw[hp];exact ER b hi rfl) hi _ _ _ _ _) (Lg.nt rfl) trivial (RP:=λj hj=>Am.aA hj)
theorem RT{bb t:Int}(hp:s.pc i= .tP bb t):jE C p sz n M (Am.aC C s i d) (cK S M (i:Int) D):=by
 obtain⟨w1,w2,w3⟩:=b.jX.wk i hi;rw[hp]at w3;obtain⟨a1,⟨o1,o2,o3,o4⟩,a3,a4,a5,a6⟩:=w3;obtain⟨c0,c1,c2,c3⟩:=Yl b hi;have hs:=qD o1 o2 dO dO (Lv b.ar b.z b.cN hi (Cp s i) o2 a6) (by rw[bZ dO,aM rfl];exact acg o2 c1);unfold Am.aC;rw[hp];simp only;exact .mk b hi (we b hi hs o1 (by show(12:Int)≠0;decide)) w1 w2 rfl ⟨a1,⟨o1,rfl,o3,o4⟩,a3,a4,a5,a6,rfl⟩ (b.zk rfl (by rw[hp];rfl) _ _ _ _ _) (Lg.nt rfl) trivial
theorem Pg{bb t cc:Int}(hp:s.pc i= .pS bb t cc):jE C p sz n M (Am.aC C s i d) (cK S M (i:Int) D):=by
 obtain⟨w1,w2,w3⟩:=b.jX.wk i hi;rw[hp]at w3;obtain⟨a1,⟨o1,o2,o3,o4⟩,a3,a4,a5,a6,a7⟩:=w3;have P:=(b.dt.1 i hi).ph;unfold Am.pT at P;rw[hp]at P;simp only at P;have Sm:cc=Am.tG C (s.cur i):=P.2.trans (Am.FJ b.z hi);have r1:=b.Ln (i:=i) (x:=bb) (by rw[hp];simp[Am.gR]);have hac:=Nv (x:=bb) b.ar b.z b.ok b.cN hi (Cp s i) o2 a6 (by rw[a7];exact Sm) (by rw[aM o1];exact a4.symm) r1;rw[a7]at hac;have hs:=λo' h=>qD o1 o2 dO dO hac (o':=o') (by rw[bZ dO,aM rfl];exact h);have e:=Z1 o2 (v:=s.mem (.el i (s.cur i) (Am.ix bb cc)));unfold Am.aC;rw[hp];simp only;by_cases h1:t<bb
 ·rw[aM h1];rw[aM (by rw[a4,a5];exact h1)]at e;obtain⟨x,hx,he⟩:=(P.1.2.2.2.1 h1).2.2;rw[<-P.2]at he;have hn:fi (some (s.mem (.el i (s.cur i) (Am.ix bb cc))).toNat)=s.mem (.el i (s.cur i) (Am.ix bb cc)):=by rw[he];rfl
  exact .mk b hi (QG b hi (hs _ e) o1 rfl rfl) w1 (by show s.mem _=fi (Am.bJ s.hold i _ i);rw[Am.aF];exact hn.symm) rfl ⟨rfl,rfl⟩ (b.zk rfl (by rw[hp];rfl) _ _ _ _ _) (Lg.nt rfl) trivial (hh:=λj hj=>Am.aA hj)
 ·rw[bZ h1];rw[bZ (by rw[a4,a5];exact h1)]at e;exact .mk b hi (we b hi (hs _ e) o1 (by show(13:Int)≠0;decide)) w1 w2 rfl ⟨a1,⟨o1,rfl,o3,o4⟩,a3,a4,a5,rfl⟩ (b.zk rfl (by rw[hp];rfl) _ _ _ _ _) (Lg.nt rfl) trivial
theorem RU{bb t x:Int}(hp:s.pc i= .sP bb t x):jE C p sz n M (Am.aC C s i d) (cK S M (i:Int) D):=by
 obtain⟨w1,w2,w3⟩:=b.jX.wk i hi;rw[hp]at w3;obtain⟨a1,⟨o1,o2,o3,o4⟩,a3,a4,a5,a6⟩:=w3;have P:=(b.dt.1 i hi).ph;unfold Am.pT at P;rw[hp]at P;simp only at P;have r1:=b.Ln (i:=i) (x:=t) (by rw[hp];simp[Am.gR]);have hac:=QE b.ar b.z b.cN hi o2 o3 (by rw[a5];exact r1);rw[a5]at hac;have hs:=qD o1 o2 dO dO hac (by rw[bZ dO,aM rfl];exact Z2 o2);have htb:t<=(act S i).bq.b:=by rw[show(act S i).bq.b=bb from a4];omega
 unfold Am.aC;rw[hp];simp only;by_cases h1:s.mem (.top i)=t
 ·rw[aM h1];rw[aM h1,aM h1]at hs;exact .mk b hi (we b hi hs o1 (by show(11:Int)≠0;decide)) w1 w2 rfl ⟨a1,⟨o1,rfl,o3,o4⟩,a3,a5,htb,a6,rfl⟩ (b.Bx (c:=.top i) rfl (by rw[hp];rfl) hi _ _ _ _ _) (by rw[show(s.mem (.top i)==t)=true by rw[h1];simp];exact Lg.nt rfl) trivial
 ·rw[bZ h1];rw[bZ h1,bZ h1]at hs;exact .mk b hi (we b hi hs o1 (by show(11:Int)≠0;decide)) w1 w2 rfl ⟨a1,⟨o1,rfl,o3,o4⟩,a3,a5,htb,a6,rfl⟩ (b.zk rfl (by rw[hp];rfl) _ _ _ _ _) (by rw[show(s.mem (.top i)==t)=false by simpa using h1];exact Lg.nt rfl) trivial
theorem RV{t x:Int}{Al:Bool}(hp:s.pc i= .qa t x Al):jE C p sz n M (Am.aC C s i d) (cK S M (i:Int) D):=by
 obtain⟨w1,w2,w3⟩:=b.jX.wk i hi;rw[hp]at w3;obtain⟨a1,⟨o1,o2,o3,o4⟩,a3,a5,a8,a6,a7⟩:=w3;have P:=(b.dt.1 i hi).ph;unfold Am.pT at P;rw[hp]at P;simp only at P;have r1:=b.Ln (i:=i) (x:=t) (by rw[hp];simp[Am.gR]);have hac:=AJ b.ar b.z b.cN hi o2 o3 (ab9 o1 a3 (by rw[a5];exact a8) (by rw[a5];omega));rw[a5]at hac;have e:=Pe o2 (v:=0);rw[dD a3]at e;have hs:=λo' h=>qD o1 o2 dO dO hac (o':=o') (by rw[bZ dO,aM rfl];exact h);unfold Am.aC;rw[hp];simp only;cases Al with
 | true =>
  rw[aM a7]at e;have hx:=(P.2.2.2 rfl).2;have hn:fi (some x.toNat)=x:=by show((x.toNat:Nat):Int)=x;omega
  exact .mk b hi (QG b hi (hs _ e) o1 rfl rfl) w1 (by show(act S i).bq.x=fi (Am.bJ s.hold i _ i);rw[Am.aF,show(act S i).bq.x=x from a6];exact hn.symm) rfl ⟨rfl,rfl⟩ (b.Bx (c:=.bot i) rfl (by rw[hp];rfl) hi _ _ _ _ _) (Lg.nt rfl) trivial (hh:=λj hj=>Am.aA hj) (RP:=λj hj=>Am.aA hj)
 | false =>
  rw[dD a7]at e;exact .mk b hi (pop_empty b hi (hs _ e) o1 rfl rfl) w1 w2 rfl (EP b hi rfl rfl (Am.aF _ _ _)) (b.Bx (c:=.bot i) rfl (by rw[hp];exact ER b hi rfl) hi _ _ _ _ _) (Lg.nt rfl) trivial (RP:=λj hj=>Am.aA hj)
end
theorem UD{x n:Int}(h1:1<=n)(h2:n<=1000):Cz x n=some (x%n):=by
 have e1:=BK x (b:=n) I;have e2:=C6 x (show 0<n by omega);have e4:x.tmod n=if 0<=x∨n∣x then x%n else x%n-n:=by
  rw[JV];split
  ·omega
  ·rw[show((n.natAbs:Nat):Int)=n by omega]
 unfold Cz;rw[eu,sR,e4];by_cases h:0<=x∨n∣x
 ·rw[aM h,eu]
 ·rw[bZ h,sR,eO I];congr 1;omega
def Z5(C:Am.jt):bQ:=⟨2+10*(C.F:Int),C.N,0,3,3,0,0,0,0,List.replicate 64 ⟨0,0⟩,⟨0,0,0,0,0,0,0,0,0,0,0,0,0,false,0,0⟩⟩
def ES(C:Am.jt)(k a:Int)(v:Nat)(x:Int):bV:=⟨k,a,Am.wW C v,C.most,x,0,0,0,0,0,0,0,0,false,0,0⟩
section
variable {K:Nat}{C:Am.jt}{p:aH}{s:Am.St}{S:af}{M M':ag}{sz n i:Nat}{D:aV}{d:Int}{o':bV}
variable (b:zj C p s S M sz n)(hi:i<C.N)
include b
theorem Cq(k a:Int)(v:Nat)(x:Int):oR k a (Nt C v) x=some (ES C k a v x):=by
 have h1:=b.ok.c1;have h2:=b.ok.cm;have h3:=b.ok.m4;unfold oR Nt;simp only;rw[eu,eu];rfl
theorem W7:xJ (⟨S.fo,S.cH⟩:fc)=some (Z5 C):=by
 have h1:=b.ok.n1;have h2:=b.ok.n64;unfold xJ pD cy bK;rw[b.jX.lb,b.jX.lw];simp only;rw[eu,eu,aq,eO (x:=2+(C.N:Int)) I,eu];rfl
include hi
theorem CB(h1:fu M (act S i).bq=some (o',M'))(h2:o'.kind=3)(h3:o'.J≠0):cC S M (i:Int) D=some (CZ none,gE S i {act S i with bq:=o' },M'):=by
 unfold cC jT an;rw[wc h1 (Nu (by rw[h2];decide) h3),gu,aM rfl];rfl
theorem RW(h1:fu M (act S i).bq=some (o',M'))(h2:o'.kind=3)(h3:o'.J=0)(h4:o'.code=4){v:Nat}(hv:(act S i).fE=v) :
 cC S M (i:Int) D=some (CZ (Am.ev 8 o'.value v 0),gE S i {act S i with bq:=o',ax:=o'.value,from_:=(v:Int),aK:=0},M'):=by
 have hw:=b.wl hi;unfold cC jT an;rw[wc h1 (O5 (by rw[h2];decide) h3),gu,h4,bZ dO,aM rfl,aM (by rw[jW];exact b.BE hi),cL];rw[show J (gE S i {act S i with bq:=o' }).aj i={act S i with bq:=o' }from oa hw];show some ((⟨0,0,8,o'.value,(act S i).fE,0⟩:aB),({S with aj:=(((S.aj.set i _).set i _).set i {act S i with bq:=o',ax:=o'.value,from_:=(act S i).fE}).set i {act S i with bq:=o',ax:=o'.value,from_:=(act S i).fE,aK:=0}}:af),M')=_;rw[iP,iP,iP,hv];rfl
theorem Iy(h1:fu M (act S i).bq=some (o',M'))(h2:o'.kind=3)(h3:o'.J=0)(h4:o'.code=5∨o'.code=6){t:Nat}(ht:(act S i).fW=t/\t<3) :
 cC S M (i:Int) D=some (CZ none,gE S i {act S i with bq:=o',fW:=(t:Int)+1,cF:=Z5 C,aK:=11},M'):=by
 have hw:=b.wl hi;have hpk:=W7 b;unfold cC jT an;have hc:(if o'.code=5 then some (o'.code==5)else some (o'.code==6))=some true:=by
  rcases h4 with h | h
  ·rw[aM h,h];rfl
  ·rw[dD h,h];rfl
 rw[wc h1 (O5 (by rw[h2];decide) h3),gu,bZ (by rcases h4 with h | h<;>rw[h]<;>decide),bZ (by rcases h4 with h | h<;>rw[h]<;>decide),hc,aq,aM rfl,aM (by rw[jW];exact b.BE hi),cL];rw[show J (gE S i {act S i with bq:=o' }).aj i={act S i with bq:=o' }from oa hw];show eA (xJ (⟨S.fo,S.cH⟩:fc)) _=_;rw[hpk,aq];show some (_,({S with aj:=(((S.aj.set i _).set i _).set i _).set i {act S i with bq:=o',fW:=wi ((act S i).fW+1),cF:=Z5 C,aK:=11}}:af),M')=_;rw[iP,iP,iP,ht.1,eO I];rfl
theorem RX{v:Nat}{t:Int}(hp:s.pc i= .vU v t):jE C p sz n M (Am.aC C s i d) (cC S M (i:Int) D):=by
 obtain⟨w1,w2,w3⟩:=b.jX.wk i hi;rw[hp]at w3;obtain⟨a1,a2,a3,⟨o1,o2,o3,o4⟩,a4⟩:=w3;have T:=b.dt.2 i hi;unfold Am.Th at T;rw[hp]at T;simp only at T;have hac:=GS b.ar b.z b.cN T.1 o2 o3;have hs:=λo' h=>qD o1 o2 dO dO hac (o':=o') (by rw[bZ dO,bZ dO,aM rfl];exact h);have e:=aci o2 (v:=s.mem (.bot v));unfold Am.aC;rw[hp];simp only;by_cases h1:s.mem (.bot v)<=t
 ·rw[aM h1];rw[aM (by rw[a4];exact h1)]at e;exact .mk b hi (Iy b hi (hs _ e) o1 rfl (.inl rfl) a2) w1 w2 rfl ⟨rfl,by show(_:Int)=((Am.bJ s.fW i (s.fW i+1) i:Nat):Int);rw[Am.aF];rfl,rfl,rfl,rfl,rfl⟩ (b.zk rfl (by rw[hp];rfl) _ _ _ _ _) (Lg.nt rfl) trivial (RP:=λj hj=>Am.aA hj)
 ·rw[bZ h1];rw[bZ (by rw[a4];exact h1)]at e;exact .mk b hi (CB b hi (hs _ e) o1 (by show(3:Int)≠0;decide)) w1 w2 rfl ⟨a1,a2,a3,⟨o1,rfl,o3,o4⟩,a4⟩ (b.zk rfl (by rw[hp];rfl) _ _ _ _ _) (Lg.nt rfl) trivial
theorem NC{v:Nat}{t:Int}(hp:s.pc i= .rK v t):jE C p sz n M (Am.aC C s i d) (cC S M (i:Int) D):=by
 obtain⟨w1,w2,w3⟩:=b.jX.wk i hi;rw[hp]at w3;obtain⟨a1,a2,a3,⟨o1,o2,o3,o4⟩,a4⟩:=w3;have T:=b.dt.2 i hi;unfold Am.Th at T;rw[hp]at T;simp only at T;have hs:=qD o1 o2 dO dO (Lu b.ar b.z b.cN T.1 o2 o3) (by rw[bZ dO,bZ dO,aM rfl];exact acj o2);unfold Am.aC;rw[hp];simp only;exact .mk b hi (CB b hi hs o1 (by show(4:Int)≠0;decide)) w1 w2 rfl ⟨a1,a2,a3,⟨o1,rfl,o3,o4⟩,a4,(b.dt.1 v T.1).FG⟩ (b.zk rfl (by rw[hp];rfl) _ _ _ _ _) (Lg.nt rfl) trivial
theorem ND{v g:Nat}{t:Int}(hp:s.pc i= .qB v t g):jE C p sz n M (Am.aC C s i d) (cC S M (i:Int) D):=by
 obtain⟨w1,w2,w3⟩:=b.jX.wk i hi;rw[hp]at w3;obtain⟨a1,a2,a3,⟨o1,o2,o3,o4⟩,a4,a5⟩:=w3;have T:=b.dt.2 i hi;unfold Am.Th at T;rw[hp]at T;simp only at T;have hg:=Bi T.2.2.2.1 (Cp s v);have h1:=(b.dt.1 v T.1).AD g T.2.2.2.1;have hs:=qD o1 o2 dO dO (Lv b.ar b.z b.cN T.1 hg o2 a5) (by rw[bZ dO,bZ dO,aM rfl];exact ack o2 h1);unfold Am.aC;rw[hp];simp only;exact .mk b hi (CB b hi hs o1 (by show(12:Int)≠0;decide)) w1 w2 rfl ⟨a1,a2,a3,⟨o1,rfl,o3,o4⟩,a4,a5,rfl⟩ (b.zk rfl (by rw[hp];rfl) _ _ _ _ _) (Lg.nt rfl) trivial
theorem Lz{v g:Nat}{t cc:Int}(hp:s.pc i= .n8 v t g cc):jE C p sz n M (Am.aC C s i d) (cC S M (i:Int) D):=by
 obtain⟨w1,w2,w3⟩:=b.jX.wk i hi;rw[hp]at w3;obtain⟨a1,a2,a3,⟨o1,o2,o3,o4⟩,a4,a5,a6⟩:=w3;have T:=b.dt.2 i hi;unfold Am.Th at T;rw[hp]at T;simp only at T;have hg:=Bi T.2.2.2.1 (Cp s v);have Sm:cc=Am.tG C g:=T.2.2.2.2.1.trans (b.z.cap v T.1 g T.2.2.2.1);have r1:=b.Ln (i:=i) (x:=t) (by rw[hp];simp[Am.gR]);have hac:=Nv (x:=t) b.ar b.z b.ok b.cN T.1 hg o2 a5 (by rw[a6];exact Sm) (by rw[dD o1];exact a4.symm) r1;rw[a6]at hac;have hs:=qD o1 o2 dO dO hac (by rw[bZ dO,bZ dO,aM rfl];exact Z3 o2);unfold Am.aC;rw[hp];simp only;exact .mk b hi (CB b hi hs o1 (by show(13:Int)≠0;decide)) w1 w2 rfl ⟨a1,a2,a3,⟨o1,rfl,o3,o4⟩,a4,rfl⟩ (b.zk rfl (by rw[hp];rfl) _ _ _ _ _) (Lg.nt rfl) trivial
theorem NF{v:Nat}{t x:Int}(hp:s.pc i= .ny v t x):jE C p sz n M (Am.aC C s i d) (cC S M (i:Int) D):=by
 obtain⟨w1,w2,w3⟩:=b.jX.wk i hi;rw[hp]at w3;obtain⟨a1,a2,a3,⟨o1,o2,o3,o4⟩,a4,a5⟩:=w3;have T:=b.dt.2 i hi;unfold Am.Th at T;rw[hp]at T;simp only at T;have r1:=b.Ln (i:=i) (x:=t) (by rw[hp];simp[Am.gR]);have hac:=QE b.ar b.z b.cN T.1 o2 o3 (by rw[a4];exact r1);rw[a4]at hac;have hs:=λo' h=>qD o1 o2 dO dO hac (o':=o') (by rw[bZ dO,bZ dO,aM rfl];exact h);have e:=Z4 o2 (v:=if s.mem (.top v)=t then 1 else 0);unfold Am.aC;rw[hp];simp only;by_cases h1:s.mem (.top v)=t
 ·rw[aM h1]at e hs;rw[aM rfl]at e;rw[aM h1]at hs;rw[aM h1];obtain⟨y,l,hq,hx⟩:=T.2.2.2 h1.symm;have hn:fi (some x.toNat)=x:=by rw[hx];rfl
  have ha:=RW b hi (D:=D) (hs _ e) o1 rfl rfl a3;simp only[a5]at ha;exact .mk b hi ha w1 (by show x=fi (Am.bJ s.hold i _ i);rw[Am.aF];exact hn.symm) rfl ⟨rfl,rfl⟩ (b.Bx (c:=.top v) rfl (by rw[hp];rfl) T.1 _ _ _ _ _) (by rw[show(s.mem (.top v)==t)=true by rw[h1];simp];exact Lg.nt rfl) (by show(8:Nat)≠0;decide) (hh:=λj hj=>Am.aA hj)
 ·rw[bZ h1]at e hs;rw[bZ dO]at e;rw[bZ h1]at hs;rw[bZ h1];exact .mk b hi (Iy b hi (hs _ e) o1 rfl (.inr rfl) a2) w1 w2 rfl ⟨rfl,by show(_:Int)=((Am.bJ s.fW i (s.fW i+1) i:Nat):Int);rw[Am.aF];rfl,rfl,rfl,rfl,rfl⟩ (b.zk rfl (by rw[hp];rfl) _ _ _ _ _) (by rw[show(s.mem (.top v)==t)=false by simpa using h1];exact Lg.nt rfl) trivial (RP:=λj hj=>Am.aA hj)
end
theorem CC{C:Am.jt}{i j k:Nat}(hi:i<C.N)(h:ring C i j k):(k+1=C.N/\Am.Gw C j=i)∨(k+1<C.N/\Am.Gw C j≠i/\ring C i (Am.Gw C j) (k+1)):=by
 obtain⟨h1,h2,rfl⟩:=h;have e:Am.Gw C ((i+k)%C.N)=(i+(k+1))%C.N:=by unfold Am.Gw;rw[Nat.mod_add_mod,Nat.add_assoc]
 rw[e];by_cases hk:k+1=C.N
 ·left;exact⟨hk,by rw[hk,JW,uX hi]⟩
 ·right
  refine⟨I,λh => ?_,I,I,rfl⟩;rcases AV (i+(k+1)) C.N with h' | h'
  ·rw[uX h']at h;omega
  ·rw[Nat.mod_eq_sub_mod h',uX I]at h;omega
theorem DU{C:Am.jt}{i:Nat}(hi:i<C.N):(C.N=1/\Am.Gw C i=i)∨(1<C.N/\Am.Gw C i≠i/\ring C i (Am.Gw C i) 1):=by
 unfold Am.Gw ring;by_cases h:C.N=1
 ·left;refine⟨h,?_⟩;rw[h,Nat.mod_one];omega
 ·right
  refine⟨I,λh' => ?_,I,I,rfl⟩;rcases AV (i+1) C.N with e | e
  ·rw[uX e]at h';omega
  ·rw[Nat.mod_eq_sub_mod e,uX I]at h';omega
theorem ET{C:Am.jt}{i j k:Nat}(h:ring C i j k):j<C.N:=by obtain⟨h1,h2,rfl⟩:=h;exact BF _ I
section
variable {o o':bQ}{M M':ag}{v:Int}
theorem zT{k a:Int}(hk:o.dg=k)(ha:o.ay=a)(Ww:k≠0)(ha0:a≠0)(ha4:a≠4)(hx:ct o M=some (v,0,M'))
 (hn:(if k=1 then gi o v else if k=2 then iX o v else if k=3 then some {o with ay:=0,dX:=if v=1 then 17 else 16,fm:=0}else iB o v)=some o'):eK M o=some (o',M'):=by
 subst hk;subst ha;unfold eK dG;rw[bZ Ww,bZ ha0,fB,bZ ha4,hx,dc,aM rfl];split at hn
 ·rename_i h;rw[aM h,hn,aq]
 ·rename_i h;rw[bZ h];split at hn
  ·rename_i h;rw[aM h,hn,aq]
  ·rename_i h;rw[bZ h];split at hn
   ·rename_i h;rw[aM h,aq];by_cases e:v=1
    ·rw[aM e];rw[aM e]at hn;cases hn;rfl
    ·rw[bZ e];rw[bZ e]at hn;cases hn;rfl
   ·rename_i h;rw[bZ h,hn,aq]
theorem Z6(ha:o.ay=9){k:Int}(hk:wi (o.da+1)=k):iX o v=if v=1 then some {o with ay:=7}else if k=o.cg then some {o with ay:=0,da:=k,dX:=19,fm:=0}else some {o with da:=k}:=by
 unfold iX dG;rw[dD ha,aM ha,hk];rfl
theorem QH(hk:o.dg≠0)(ha:o.ay≠0):qy o=some (0,0):=by
 unfold qy;rw[bZ hk,bZ ha]
theorem NG(hk:o.dg≠0)(ha:o.ay=0):qy o=some (o.dX,o.fm):=by
 unfold qy;rw[bZ hk,aM ha]
end
section
variable {C:Am.jt}{s:Am.St}{M:ag}{sz n i:Nat}{o:bQ}
theorem QI(h:AR C s M sz n)(hz:Am.SZ C s){j:Nat}(hj:j<C.N)(hb:o.bT=2+10*(C.F:Int)):ni o (j:Int)=some (Am.cB C s (.flag j)):=by
 have p:=h.WV hz (a:=.flag j) hj;have e:Am.cB C s (.flag j)=2+10*(C.F:Int)+2+j:=by show(4:Int)+10*C.F+j=_;omega
 rw[e]at p;unfold ni;rw[hb,eO (x:=2+10*(C.F:Int)+2) I,eO I,e]
theorem Z7(h:AR C s M sz n)(hz:Am.SZ C s)(hb:o.bT=2+10*(C.F:Int)):wi (o.bT+0)=Am.cB C s .tW:=by
 refine h.cast hz (a:=.tW) trivial ?_;rw[hb];show _=(2:Int)+10*C.F;omega
theorem acn(h:AR C s M sz n)(hz:Am.SZ C s)(hb:o.bT=2+10*(C.F:Int)):wi (o.bT+1)=Am.cB C s .E5:=by
 refine h.cast hz (a:=.E5) trivial ?_;rw[hb];show _=(3:Int)+10*C.F;omega
theorem LA{j k:Nat}(hi:i<C.N)(hN:C.N<=64)(hw:o.cg=C.N)(hs:o.gz=i)(hk:o.da=k)(hr:ring C i j k):kX o=some (j:Int):=by
 obtain⟨h1,h2,rfl⟩:=hr;unfold kX;rw[hw,hs,hk,sR,eO I]
 congr 1
theorem aez(h:AR C s M sz n)(hz:Am.SZ C s)(hn:n<=2000000000)(hi:i<C.N)(hb:o.bT=2+10*(C.F:Int))(hs:o.gz=i)(ha:o.ay=1):ct o M=some (0,0,nt M (M.cell.set (Am.cB C s (.flag i)).toNat 1) 1 (Am.cB C s (.flag i)) 1 0 true):=by
 unfold ct;rw[aM ha,hs,QI h hz hi hb,aq,v9 h hz hn (a:=.flag i) hi,eF]
theorem aeA(h:AR C s M sz n)(hz:Am.SZ C s)(hn:n<=2000000000)(hb:o.bT=2+10*(C.F:Int))(ha:o.ay=2)(hv:-1000000000000<=s.mem .tW/\s.mem .tW<=1000000000000):ct o M=some (s.mem .tW+1,0,nt M (M.cell.set (Am.cB C s .tW).toNat (s.mem .tW+1)) 3 (Am.cB C s .tW) 1 (s.mem .tW+1) true):=by
 unfold ct;rw[dD ha,aM ha,Z7 h hz hb,Kh h hz hn (a:=.tW) trivial (eO I),dc]
theorem aco(h:AR C s M sz n)(hz:Am.SZ C s)(hn:n<=2000000000)(hb:o.bT=2+10*(C.F:Int))(ha:o.ay=3):ct o M=some (s.mem .E5,0,nt M M.cell 0 (Am.cB C s .E5) (s.mem .E5) 0 true):=by
 unfold ct;rw[dD ha,dD ha,aM ha,acn h hz hb,za h hz hn (a:=.E5) trivial,dc]
theorem aeB(h:AR C s M sz n)(hz:Am.SZ C s)(hn:n<=2000000000)(hi:i<C.N)(hb:o.bT=2+10*(C.F:Int))(hs:o.gz=i)(ha:o.ay=5):ct o M=some (s.mem (.flag i),0,nt M M.cell 0 (Am.cB C s (.flag i)) (s.mem (.flag i)) 0 true):=by
 unfold ct;rw[dD ha,dD ha,dD ha,aM ha,hs,QI h hz hi hb,aq,za h hz hn (a:=.flag i) hi,dc]
theorem aeC(h:AR C s M sz n)(hz:Am.SZ C s)(hn:n<=2000000000)(hi:i<C.N)(hb:o.bT=2+10*(C.F:Int))(hs:o.gz=i)(ha:o.ay=6):ct o M=some (if s.mem (.flag i)=1 then 1 else 0,0,nt M (if s.mem (.flag i)=1 then M.cell.set (Am.cB C s (.flag i)).toNat 0 else M.cell) 2 (Am.cB C s (.flag i)) 1 0 (s.mem (.flag i)==1)):=by
 unfold ct;rw[dD ha,dD ha,dD ha,dD ha,aM ha,hs,QI h hz hi hb,aq,Uv h hz hn (a:=.flag i) hi,dc];by_cases e:s.mem (.flag i)=1
 ·rw[aM (by rw[e];rfl),aM e,aM e]
 ·rw[bZ (by simpa using e),bZ e,bZ e]
theorem Z8(h:AR C s M sz n)(hz:Am.SZ C s)(hn:n<=2000000000)(hb:o.bT=2+10*(C.F:Int))(ha:o.ay=7)(hv:-1000000000000<=s.mem .tW/\s.mem .tW<=1000000000000):ct o M=some (s.mem .tW-1,0,nt M (M.cell.set (Am.cB C s .tW).toNat (s.mem .tW-1)) 3 (Am.cB C s .tW) (-1) (s.mem .tW-1) true):=by
 unfold ct;rw[dD ha,dD ha,dD ha,dD ha,dD ha,aM ha,Z7 h hz hb,Kh h hz hn (a:=.tW) trivial (v:=s.mem .tW-1) (by rw[eO I];omega),dc]
theorem aeD(h:AR C s M sz n)(hz:Am.SZ C s)(hn:n<=2000000000)(hb:o.bT=2+10*(C.F:Int))(ha:o.ay=8):ct o M=some (s.mem .tW,0,nt M M.cell 0 (Am.cB C s .tW) (s.mem .tW) 0 true):=by
 unfold ct;rw[dD ha,dD ha,dD ha,dD ha,dD ha,dD ha,aM ha,Z7 h hz hb,za h hz hn (a:=.tW) trivial,dc]
theorem acp{j:Nat}(h:AR C s M sz n)(hz:Am.SZ C s)(hn:n<=2000000000)(hb:o.bT=2+10*(C.F:Int))(hj:j<C.N)(ho:kX o=some (j:Int))(ha:o.ay=9):ct o M=some (if s.mem (.flag j)=1 then 1 else 0,0,nt M (if s.mem (.flag j)=1 then M.cell.set (Am.cB C s (.flag j)).toNat 0 else M.cell) 2 (Am.cB C s (.flag j)) 1 0 (s.mem (.flag j)==1)):=by
 unfold ct;rw[dD ha,dD ha,dD ha,dD ha,dD ha,dD ha,dD ha,aM ha,ho,aq,QI h hz hj hb,aq,Uv h hz hn (a:=.flag j) hj,dc];by_cases e:s.mem (.flag j)=1
 ·rw[aM (by rw[e];rfl),aM e,aM e]
 ·rw[bZ (by simpa using e),bZ e,bZ e]
theorem acq(h:AR C s M sz n)(hz:Am.SZ C s)(hn:n<=2000000000)(hb:o.bT=2+10*(C.F:Int))(ha:o.ay=10):ct o M=some (0,0,nt M (M.cell.set (Am.cB C s .E5).toNat 1) 1 (Am.cB C s .E5) 1 0 true):=by
 unfold ct;rw[dD ha,dD ha,dD ha,dD ha,dD ha,dD ha,dD ha,dD ha,acn h hz hb,v9 h hz hn (a:=.E5) trivial,eF]
end
section
variable {K:Nat}{C:Am.jt}{p:aH}{s:Am.St}{S:af}{M M':ag}{sz n i:Nat}{D:aV}{d:Int}{o':bQ}
variable (b:zj C p s S M sz n)(hi:i<C.N)
include b hi
theorem Iz(h1:eK M (act S i).cF=some (o',M'))(h2:o'.dg=2)(h3:o'.ay≠0):eG S M (i:Int) D=some (CZ none,gE S i {act S i with cF:=o' },M'):=by
 unfold eG jT an;rw[yG h1 (QH (by rw[h2];decide) h3),gu,aM rfl];rfl
theorem RY(h1:eK M (act S i).cF=some (o',M'))(h2:o'.dg=2)(h3:o'.ay=0)(h4:o'.dX=18){f:Nat}(hf:(act S i).ax=f):eG S M (i:Int) D=some (CZ (Am.ev 3 f o'.fm 0),gE S i {act S i with cF:=o',aK:=1},M'):=by
 have hw:=b.wl hi;unfold eG jT an;rw[yG h1 (NG (by rw[h2];decide) h3),gu,h4,bZ dO,aM rfl,aM (by rw[jW];exact b.BE hi),cL];rw[show J (gE S i {act S i with cF:=o' }).aj i={act S i with cF:=o' }from oa hw];show some ((⟨0,0,3,(act S i).ax,o'.fm,0⟩:aB),({S with aj:=(S.aj.set i _).set i _}:af),M')=_;rw[iP,hf];rfl
theorem Ki(h1:eK M (act S i).cF=some (o',M'))(h2:o'.dg=2)(h3:o'.ay=0)(h4:o'.dX=19):eG S M (i:Int) D=some (CZ none,gE S i {act S i with cF:=o',aK:=1},M'):=by
 have hw:=b.wl hi;unfold eG jT an;rw[yG h1 (NG (by rw[h2];decide) h3),gu,h4,bZ dO,bZ dO,aM rfl,aM (by rw[jW];exact b.BE hi),cL];rw[show J (gE S i {act S i with cF:=o' }).aj i={act S i with cF:=o' }from oa hw];show some (_,({S with aj:=(S.aj.set i _).set i _}:af),M')=_;rw[iP];rfl
theorem W8(hp:s.pc i= .DQ):jE C p sz n M (Am.aC C s i d) (eG S M (i:Int) D):=by
 obtain⟨w1,w2,w3⟩:=b.jX.wk i hi;rw[hp]at w3;obtain⟨a1,⟨l1,l2,l3,l4,l5,l6⟩⟩:=w3;have hs:=λo' h=>zT l4 l5 dO dO dO (aeD b.ar b.z b.cN l1 l5) (o':=o') (by rw[bZ dO,aM rfl];exact h);have hw:∀v,iX (act S i).cF v=if v<=0 then some {(act S i).cF with ay:=0,dX:=19,fm:=0}else if(act S i).cF.cg=1 then some {(act S i).cF with ay:=0,dX:=19,fm:=0}else some {(act S i).cF with ay:=9}:=λv=>by
  unfold iX dG;rw[aM l5];rfl
 have e:=hw (s.mem .tW);unfold Am.aC;rw[hp];simp only;by_cases h0:0<s.mem .tW/\1<C.N
 ·rw[aM h0];rw[eu,bZ (by rw[l2];omega)]at e;have hr:=(DU hi).resolve_left (λh=>I);exact .mk b hi (Iz b hi (hs _ e) l4 (by show(9:Int)≠0;decide)) w1 w2 rfl ⟨a1,1,⟨l1,l2,l3,l4,rfl,l6⟩,hr.2.2⟩ (b.zk rfl (by rw[hp];rfl) _ _ _ _ _) (Lg.nt rfl) trivial
 ·rw[bZ h0];have e:iX (act S i).cF (s.mem .tW)=some {(act S i).cF with ay:=0,dX:=19,fm:=0}:=by
   rw[e];by_cases h1:s.mem .tW<=0
   ·rw[aM h1]
   ·rw[bZ h1,aM (by rw[l2];have:=b.ok.n1;omega)]
  exact .mk b hi (Ki b hi (hs _ e) l4 rfl rfl) w1 w2 rfl rfl (b.zk rfl (by rw[hp];rfl) _ _ _ _ _) (Lg.nt rfl) trivial
theorem Ph{j:Nat}(hp:s.pc i= .sW j):jE C p sz n M (Am.aC C s i d) (eG S M (i:Int) D):=by
 obtain⟨w1,w2,w3⟩:=b.jX.wk i hi;rw[hp]at w3;obtain⟨a1,k,⟨l1,l2,l3,l4,l5,l6⟩,hr⟩:=w3;have hj:=ET hr;have n64:=b.ok.n64;have hk:=hr.2.1;have hac:=acp b.ar b.z b.cN l1 hj (LA hi n64 l2 l3 l6 hr) l5;have hs:=λo' h=>zT l4 l5 dO dO dO hac (o':=o') (by rw[bZ dO,aM rfl];exact h);have hw:=λv=>Z6 (v:=v) l5 (k:=(k:Int)+1) (by rw[l6,eO I]);unfold Am.aC;rw[hp];simp only;by_cases h1:s.mem (.flag j)=1
 ·have e:=hw 1;rw[aM rfl]at e;rw[aM h1,aM h1]at hs;rw[aM h1];exact .mk b hi (Iz b hi (hs _ e) l4 (by show(7:Int)≠0;decide)) w1 w2 rfl ⟨a1,k,⟨l1,l2,l3,l4,rfl,l6⟩,hr⟩ (b.Bx (c:=.flag j) rfl (by rw[hp];rfl) hj _ _ _ _ _) (by rw[show(s.mem (.flag j)==1)=true by rw[h1];rfl];exact Lg.nt rfl) trivial
 ·have e:=hw 0;rw[bZ dO]at e;rw[bZ h1,bZ h1]at hs;rw[bZ h1];have hb:(s.mem (.flag j)==1)=false:=by simpa using h1
  rcases CC hi hr with ⟨e1,e2⟩ | ⟨e1,e2,e3⟩
  ·rw[aM (by rw[l2];omega)]at e;rw[aM e2];exact .mk b hi (Ki b hi (hs _ e) l4 rfl rfl) w1 w2 rfl rfl (b.zk rfl (by rw[hp];rfl) _ _ _ _ _) (by rw[hb];exact Lg.nt rfl) trivial
  ·rw[bZ (by rw[l2];omega)]at e;rw[bZ e2];exact .mk b hi (Iz b hi (hs _ e) l4 (by show(act S i).cF.ay≠0;rw[show(act S i).cF.ay=9 from l5];decide)) w1 w2 rfl ⟨a1,k+1,⟨l1,l2,l3,l4,l5,by show(k:Int)+1=((k+1:Nat):Int);omega⟩,e3⟩ (b.zk rfl (by rw[hp];rfl) _ _ _ _ _) (by rw[hb];exact Lg.nt rfl) trivial
theorem Pj{j:Nat}(hp:s.pc i= .vm j):jE C p sz n M (Am.aC C s i d) (eG S M (i:Int) D):=by
 obtain⟨w1,w2,w3⟩:=b.jX.wk i hi;rw[hp]at w3;obtain⟨a1,k,⟨l1,l2,l3,l4,l5,l6⟩,hr⟩:=w3;have n64:=b.ok.n64;obtain⟨f,hh⟩:=Am.n9 b.fi hi (by rw[hp];rfl);have hac:=Z8 b.ar b.z b.cN l1 l5 (b.Nr rfl);have e:∀v,iX (act S i).cF v=some {(act S i).cF with ay:=0,dX:=18,fm:=(j:Int)}:=λv=>by
  unfold iX dG;rw[dD l5,dD l5,aM l5,LA hi n64 l2 l3 l6 hr];rfl
 have hs:=zT l4 l5 dO dO dO hac (by rw[bZ dO,aM rfl];exact e _);unfold Am.aC;rw[hp];simp only[hh,nQ];exact .mk b hi (RY b hi hs l4 rfl rfl (f:=f) (by rw[show(act S i).ax=fi (s.hold i)from w2,hh];rfl)) w1 w2 rfl rfl (b.Bx (c:=.tW) rfl (by rw[hp];rfl) trivial _ _ _ _ _) (Lg.nt rfl) (by show(3:Nat)≠0;decide)
theorem EU(h1:eK M (act S i).cF=some (o',M'))(h2:o'.dg=4)(h3:o'.ay≠0):fy S M (i:Int) D=some (CZ none,gE S i {act S i with cF:=o' },M'):=by
 unfold fy;rw[yG h1 (QH (by rw[h2];decide) h3),gu,aM rfl];rfl
theorem IA(h1:eK M (act S i).cF=some (o',M'))(h2:o'.dg=4)(h3:o'.ay=0)(h4:o'.dX=20):fy S M (i:Int) D=some (CZ (Am.ev 10 0 0 0),gE S i {act S i with cF:=o',aK:=13},M'):=by
 have hw:=b.wl hi;unfold fy lE;rw[yG h1 (NG (by rw[h2];decide) h3),gu,h4,bZ dO,aM rfl,aM (by rw[jW];exact b.BE hi),cL];rw[show J (gE S i {act S i with cF:=o' }).aj i={act S i with cF:=o' }from oa hw,eF];show some (_,({S with aj:=(S.aj.set i _).set i _}:af),M')=_;rw[iP];rfl
theorem acr{o:bQ}(ha:o.ay=10)(v:Int):iB o v=if o.da>=o.cg then some {o with ay:=0,dX:=20,fm:=0}else some {o with ay:=9}:=by
 unfold iB dG;rw[aM ha,PW];rfl
theorem aeE{o:bQ}(ha:o.ay=9):iB o 1=some {o with ay:=7}:=by
 unfold iB dG;rw[dD ha,aM ha,aq];rfl
theorem acs{o:bQ}{v:Int}(h:(o.ay=9/\v≠1)∨o.ay=7){k:Int}(hk:wi (o.da+1)=k):iB o v=if k>=o.cg then some {o with ay:=0,da:=k,dX:=20,fm:=0}else some {o with ay:=9,da:=k}:=by
 have e:eA (if o.ay=9 then some (v==1)else some false) (λg5=>if g5=true then some (Sum.inr {o with ay:=7})else some (Sum.inl (wi (o.da+1))))=some (.inl k):=by
  rw[<-hk];rcases h with ⟨h1,h2⟩ | h1
  ·rw[aM h1,aq,bZ (by simpa using h2)]
  ·rw[dD h1,aq,bZ dO]
 unfold iB dG;rw[bZ (by rcases h with ⟨h1,_⟩ | h1<;>rw[h1]<;>decide),e,PW];rfl
theorem W9(hp:s.pc i= .done):jE C p sz n M (Am.aC C s i d) (fy S M (i:Int) D):=by
 obtain⟨w1,w2,w3⟩:=b.jX.wk i hi;rw[hp]at w3;obtain⟨a1,⟨l1,l2,l3,l4,l5,l6⟩⟩:=w3;have hac:=acq b.ar b.z b.cN l1 l5;have hs:=λo' h=>zT l4 l5 dO dO dO hac (o':=o') (by rw[bZ dO,bZ dO,bZ dO];exact h);have e:=acr b hi l5 0;unfold Am.aC;rw[hp];simp only[Am.lU];rcases DU hi with ⟨e1,e2⟩ | ⟨e1,e2,e3⟩
 ·rw[aM (by rw[l6,l2];omega)]at e;rw[aM e2];exact .mk b hi (IA b hi (hs _ e) l4 rfl rfl) w1 w2 rfl rfl (b.Bx (c:=.E5) rfl (by rw[hp];rfl) trivial _ _ _ _ _) (Lg.nt rfl) (by show(10:Nat)≠0;decide)
 ·rw[bZ (by rw[l6,l2];omega)]at e;rw[bZ e2];exact .mk b hi (EU b hi (hs _ e) l4 (by show(9:Int)≠0;decide)) w1 w2 rfl ⟨a1,1,⟨l1,l2,l3,l4,rfl,l6⟩,e3⟩ (b.Bx (c:=.E5) rfl (by rw[hp];rfl) trivial _ _ _ _ _) (Lg.nt rfl) trivial
theorem Xa{j:Nat}(hp:s.pc i= .tell j):jE C p sz n M (Am.aC C s i d) (fy S M (i:Int) D):=by
 obtain⟨w1,w2,w3⟩:=b.jX.wk i hi;rw[hp]at w3;obtain⟨a1,k,⟨l1,l2,l3,l4,l5,l6⟩,hr⟩:=w3;have hj:=ET hr;have n64:=b.ok.n64;have hk:=hr.2.1;have hac:=acp b.ar b.z b.cN l1 hj (LA hi n64 l2 l3 l6 hr) l5;have hs:=λo' h=>zT l4 l5 dO dO dO hac (o':=o') (by rw[bZ dO,bZ dO,bZ dO];exact h);unfold Am.aC;rw[hp];simp only[Am.lU];by_cases h1:s.mem (.flag j)=1
 ·have e:=aeE b hi l5;rw[aM h1,aM h1]at hs;rw[aM h1];exact .mk b hi (EU b hi (hs _ e) l4 (by show(7:Int)≠0;decide)) w1 w2 rfl ⟨a1,k,⟨l1,l2,l3,l4,rfl,l6⟩,hr⟩ (b.Bx (c:=.flag j) rfl (by rw[hp];rfl) hj _ _ _ _ _) (by rw[show(s.mem (.flag j)==1)=true by rw[h1];rfl];exact Lg.nt rfl) trivial
 ·have e:=acs b hi (v:=0) (.inl ⟨l5,dO⟩) (k:=(k:Int)+1) (by rw[l6,eO I]);rw[bZ h1,bZ h1]at hs;rw[bZ h1];have hb:(s.mem (.flag j)==1)=false:=by simpa using h1
  rcases CC hi hr with ⟨e1,e2⟩ | ⟨e1,e2,e3⟩
  ·rw[aM (by rw[l2];omega)]at e;rw[aM e2];exact .mk b hi (IA b hi (hs _ e) l4 rfl rfl) w1 w2 rfl rfl (b.zk rfl (by rw[hp];rfl) _ _ _ _ _) (by rw[hb];exact Lg.nt rfl) (by show(10:Nat)≠0;decide)
  ·rw[bZ (by rw[l2];omega)]at e;rw[bZ e2];exact .mk b hi (EU b hi (hs _ e) l4 (by show(9:Int)≠0;decide)) w1 w2 rfl ⟨a1,k+1,⟨l1,l2,l3,l4,rfl,by show(k:Int)+1=((k+1:Nat):Int);omega⟩,e3⟩ (b.zk rfl (by rw[hp];rfl) _ _ _ _ _) (by rw[hb];exact Lg.nt rfl) trivial
theorem Pk{j:Nat}(hp:s.pc i= .xA j):jE C p sz n M (Am.aC C s i d) (fy S M (i:Int) D):=by
 obtain⟨w1,w2,w3⟩:=b.jX.wk i hi;rw[hp]at w3;obtain⟨a1,k,⟨l1,l2,l3,l4,l5,l6⟩,hr⟩:=w3;have n64:=b.ok.n64;have hk:=hr.2.1;have hac:=Z8 b.ar b.z b.cN l1 l5 (b.Nr rfl);have hs:=λo' h=>zT l4 l5 dO dO dO hac (o':=o') (by rw[bZ dO,bZ dO,bZ dO];exact h);have e:=acs b hi (v:=s.mem .tW-1) (.inr l5) (k:=(k:Int)+1) (by rw[l6,eO I]);unfold Am.aC;rw[hp];simp only[Am.lU];rcases CC hi hr with ⟨e1,e2⟩ | ⟨e1,e2,e3⟩
 ·rw[aM (by rw[l2];omega)]at e;rw[aM e2];exact .mk b hi (IA b hi (hs _ e) l4 rfl rfl) w1 w2 rfl rfl (b.Bx (c:=.tW) rfl (by rw[hp];rfl) trivial _ _ _ _ _) (Lg.nt rfl) (by show(10:Nat)≠0;decide)
 ·rw[bZ (by rw[l2];omega)]at e;rw[bZ e2];exact .mk b hi (EU b hi (hs _ e) l4 (by show(9:Int)≠0;decide)) w1 w2 rfl ⟨a1,k+1,⟨l1,l2,l3,l4,rfl,by show(k:Int)+1=((k+1:Nat):Int);omega⟩,e3⟩ (b.Bx (c:=.tW) rfl (by rw[hp];rfl) trivial _ _ _ _ _) (Lg.nt rfl) trivial
end
theorem Pm{α:Type}[Inhabited α]{N j:Nat}{g:Nat->α}(h:j<N):J ((List.range N).map g) j=g j:=by
 unfold J;rw[List.getD_eq_getElem?_getD,List.getElem?_map,List.getElem?_range h];rfl
theorem EV{α:Type}[Inhabited α]{N j k:Nat}{l:List α}{y:α}(h:j<N):J (mB N l k y) j=if j=k then y else J l j:=Pm h
theorem Ym{α:Type}[Inhabited α]{N j:Nat}{ys l:List α}(h:j<N):J (Ej N ys l) j=if j<ys.length then J ys j else J l j:=Pm h
theorem Z9{α:Type}[Inhabited α]{lo m j:Nat}{l:List α}(h:j<m):J (zC l lo m) j=J l (lo+j):=Pm h
def zDq:bV:=⟨0,0,0,0,0,0,0,0,0,0,0,0,0,false,0,0⟩
def RZ(C:Am.jt)(i:Nat)(l:List cw):bQ:=⟨2+10*(C.F:Int),C.N,i,1,1,0,0,0,0,l,zDq⟩
section
variable {K:Nat}{C:Am.jt}{p:aH}{s:Am.St}{S:af}{M M':ag}{sz n i:Nat}{D:aV}{d:Int}{o':bQ}
variable (b:zj C p s S M sz n)(hi:i<C.N)
include b
theorem UE:∀(e k g:Nat) (l:List cw),g+e=C.N->e<k->(∀v,v<g->J l v=Nt C v)->
 ∃l',qz K (⟨S.fo,S.cH⟩:fc) (i:Int) S.dw k l (g:Int)=some (⟨S.fo,S.cH,i,1,1,0,0,0,0,l',zDq⟩:bQ)/\∀v,v<C.N->J l' v=Nt C v
 | e,k,g,l,he,hk,hl=>by
  obtain⟨k,rfl⟩ :∃m,k=m+1:=⟨k-1,I⟩;have n64:=b.ok.n64;have h1:=b.ok.c1;have h2:=b.ok.cm;have h3:=b.ok.m4;rw[qz,b.jX.dl];by_cases hg:g<C.N
  ·obtain⟨e,rfl⟩ :∃m,e=m+1:=⟨e-1,I⟩;have hd:=b.jX.dq g hg;have ih:=UE e k (g+1) (mB 64 l g (Nt C g)) I I (λv hv=>by
    rw[EV I];split
    ·next e=>rw[e]
    ·exact hl v I)
   have hin:bM (g:Int) C.N:=⟨I,I⟩;have UF:bM (g:Int) 64:=⟨I,I⟩;rw[sR,aM hin,cL,hd,D5 I];by_cases eg:(g:Int)=(i:Int)
   ·rw[aM eg,aM UF];exact ih
   ·rw[bZ eg,bZ (by show ¬(C.most:Int)<1;omega),bZ (by show ¬(C.most:Int)>4096;omega),aM UF];exact ih
  ·rw[eu];exact⟨l,rfl,λv hv=>hl v I⟩
include hi
theorem Xb(hK:100<K) :∃l,vT K (⟨S.fo,S.cH⟩:fc) (i:Int) S.dw=some (RZ C i l)/\∀v,v<C.N->J l v=Nt C v:=by
 have h1:=b.ok.n1;have h2:=b.ok.n64;obtain⟨l,e1,e2⟩:=UE (K:=K) (i:=i) b C.N K 0 (List.replicate 64 ⟨0,0⟩) I I (λv hv=>I);refine⟨l,?_,e2⟩;unfold vT nh pD;rw[bZ (by show ¬S.cH<1;rw[b.jX.lw];omega),bZ (by show ¬S.cH>64;rw[b.jX.lw];omega),aq,aM (by show wi (2+S.cH)>0;rw[b.jX.lw,eO I];omega),sR,tJ (by show(i:Int)<S.cH;rw[b.jX.lw];omega),aq,aM rfl,aM (by show((S.dw.length:Nat):Int)=S.cH;rw[b.jX.lw,b.jX.dl]),fB];rw[rj]at e1;rw[e1,b.jX.lb,b.jX.lw];rfl
theorem UG(hK:100<K){S0:af}{a:bE}(h0:S0=gE S i a)(ha:a.bx=i) :∃l,(∀M',oX K S0 M' (i:Int)=some (gE S i {a with cF:=RZ C i l,parked:=false,aK:=12}))/\∀v,v<C.N->J l v=Nt C v:=by
 obtain⟨l,e1,e2⟩:=Xb (K:=K) b hi hK;refine⟨l,λM' => ?_,e2⟩;subst h0;unfold oX jT an;rw[cL,show J (gE S i a).aj i=a from oa (b.wl hi)];show eA (vT K (⟨S.fo,S.cH⟩:fc) a.bx S.dw) _=_;rw[show vT K (⟨S.fo,S.cH⟩:fc) a.bx S.dw=some (RZ C i l) by rw[ha];exact e1,aq];show some ({S with aj:=(((S.aj.set i _).set i _).set i _).set i _}:af)=_;rw[iP,iP,iP];rfl
theorem R0(h1:eK M (act S i).cF=some (o',M'))(h2:o'.dg=3)(h3:o'.ay=0)(h4:o'.dX=17):fz K S M (i:Int) D=some (CZ (Am.ev 10 0 0 0),gE S i {act S i with cF:=o',aK:=13},M'):=by
 have hw:=b.wl hi;unfold fz lE;rw[yG h1 (NG (by rw[h2];decide) h3),gu,h4,aM rfl,aM (by rw[jW];exact b.BE hi),cL];rw[show J (gE S i {act S i with cF:=o' }).aj i={act S i with cF:=o' }from oa hw,eF];show some (_,({S with aj:=(S.aj.set i _).set i _}:af),M')=_;rw[iP];rfl
theorem R3(h1:eK M (act S i).cF=some (o',M'))(h2:o'.dg=3)(h3:o'.ay=0)(h4:o'.dX=16)(ht:(act S i).fW<3):fz K S M (i:Int) D=some (CZ none,gE S i {act S i with cF:=o',aK:=9},M'):=by
 have hw:=b.wl hi;unfold fz;rw[yG h1 (NG (by rw[h2];decide) h3),gu,h4,bZ dO,aM rfl,aM (by rw[jW];exact b.BE hi),cL];rw[show J (gE S i {act S i with cF:=o' }).aj i={act S i with cF:=o' }from oa hw,aM ht];show some (_,({S with aj:=(S.aj.set i _).set i _}:af),M')=_;rw[iP];rfl
theorem UH(hK:100<K)(h1:eK M (act S i).cF=some (o',M'))(h2:o'.dg=3)(h3:o'.ay=0)(h4:o'.dX=16)(ht:¬(act S i).fW<3) :∃l,fz K S M (i:Int) D=some (CZ none,gE S i {act S i with cF:=RZ C i l,parked:=false,aK:=12},M')/\∀v,v<C.N->J l v=Nt C v:=by
 have hw:=b.wl hi;obtain⟨l,e1,e2⟩:=UG (K:=K) b hi hK (S0:=gE S i {act S i with cF:=o' }) rfl (b.jX.wk i hi).self;refine⟨l,?_,e2⟩;unfold fz;rw[yG h1 (NG (by rw[h2];decide) h3),gu,h4,bZ dO,aM rfl,aM (by rw[jW];exact b.BE hi),cL];rw[show J (gE S i {act S i with cF:=o' }).aj i={act S i with cF:=o' }from oa hw,bZ ht,e1,aq];rfl
theorem Xc(hK:100<K)(hp:s.pc i= .EL):jE C p sz n M (Am.aC C s i d) (fz K S M (i:Int) D):=by
 obtain⟨w1,w2,w3⟩:=b.jX.wk i hi;rw[hp]at w3;obtain⟨a1,a2,l4,l5,l1,l2⟩:=w3;have T:=b.dt.2 i hi;unfold Am.Th at T;rw[hp]at T;simp only at T;have hac:=aco b.ar b.z b.cN l1 l5;have hs:=zT l4 l5 dO dO dO hac (by rw[bZ dO,bZ dO,aM rfl]);unfold Am.aC;rw[hp];simp only;by_cases h1:s.mem .E5=1
 ·rw[aM h1];rw[aM h1]at hs;exact .mk b hi (R0 b hi hs l4 rfl rfl) w1 w2 rfl rfl (b.zk rfl (by rw[hp];rfl) _ _ _ _ _) (Lg.nt rfl) (by show(10:Nat)≠0;decide)
 ·rw[bZ h1];rw[bZ h1]at hs;by_cases h2:s.fW i<3
  ·rw[aM h2];exact .mk b hi (R3 b hi hs l4 rfl rfl (by rw[show(act S i).fW=s.fW i from a2];omega)) w1 w2 rfl ⟨rfl,a2,h2⟩ (b.zk rfl (by rw[hp];rfl) _ _ _ _ _) (Lg.nt rfl) trivial
  ·rw[bZ h2];obtain⟨l,e1,e2⟩:=UH (D:=D) b hi hK hs l4 rfl rfl (by rw[show(act S i).fW=s.fW i from a2];omega);exact .mk b hi e1 w1 w2 rfl (.inr ⟨⟨rfl,⟨rfl,rfl,rfl,rfl,rfl,rfl⟩,e2⟩,rfl⟩) (b.zk rfl (by rw[hp];rfl) _ _ _ _ _) (Lg.nt rfl) trivial
section
variable {a:bE}
theorem AK:J (gE S i a).aj (i:Int).toNat=a:=by rw[cL];exact oa (b.wl hi)
theorem EW{c v:Int}(h1:eK M a.cF=some (o',M'))(h2:qy o'=some (c,v)):jD (gE S i a) M (i:Int)=some (c,v,gE S i {a with cF:=o' },M'):=by
 unfold jD jT an;rw[AK b hi,h1,eF];simp only;rw[h2,eF];show some (_,_,({S with aj:=(S.aj.set i a).set i {a with cF:=o' }}:af),M')=_;rw[iP];rfl
theorem vp(h1:eK M a.cF=some (o',M'))(h2:o'.dg=1)(h3:o'.ay≠0)(h4:o'.ay≠5∨a.parked=true):bY (gE S i a) M (i:Int) D=some (CZ none,gE S i {a with cF:=o' },M'):=by
 unfold bY wJ jT an;rw[EW b hi h1 (QH (by rw[h2];decide) h3),gu,aM rfl,aM (by rw[jW];exact b.BE hi),AK b hi];simp only;rw[aM h2,aq];by_cases e:o'.ay=5
 ·rw[aM (by rw[e];rfl),aM (h4.resolve_left (λh=>h e))];rfl
 ·rw[bZ (by simpa using e)];rfl
theorem Kj(h1:eK M a.cF=some (o',M'))(h2:o'.dg=1)(h3:o'.ay=5)(h4:a.parked=false):bY (gE S i a) M (i:Int) D=some (CZ (Am.ev 9 0 0 0),gE S i {a with cF:=o',parked:=true},M'):=by
 unfold bY wJ jT an;rw[EW b hi h1 (QH (by rw[h2];decide) (by rw[h3];decide)),gu,aM rfl,aM (by rw[jW];exact b.BE hi),AK b hi];simp only;rw[aM h2,aq,aM (by rw[h3];rfl),dD h4,cL];show some (_,({S with aj:=(S.aj.set i _).set i _}:af),M')=_;rw[iP];rfl
theorem DV(h1:eK M a.cF=some (o',M'))(h2:o'.dg=1)(h3:o'.ay=0)(h4:o'.dX=16):bY (gE S i a) M (i:Int) D=some (CZ none,gE S i {a with cF:=o',fW:=0,aK:=9},M'):=by
 unfold bY jT an;rw[EW b hi h1 (NG (by rw[h2];decide) h3),gu,h4,bZ dO,aM rfl,aM (by rw[jW];exact b.BE hi),AK b hi,cL];show some (_,({S with aj:=((S.aj.set i _).set i _).set i _}:af),M')=_;rw[iP,iP];rfl
theorem Kk(h1:eK M a.cF=some (o',M'))(h2:o'.dg=1)(h3:o'.ay=0)(h4:o'.dX=17):bY (gE S i a) M (i:Int) D=some (CZ (Am.ev 10 0 0 0),gE S i {a with cF:=o',aK:=13},M'):=by
 unfold bY lE jT an;rw[EW b hi h1 (NG (by rw[h2];decide) h3),gu,h4,bZ dO,bZ dO,aM rfl,aM (by rw[jW];exact b.BE hi),AK b hi,eF,cL];show some (_,({S with aj:=(S.aj.set i _).set i _}:af),M')=_;rw[iP];rfl
end
theorem kr:gE S i (act S i)=S:=by
 have e:S.aj.set i (act S i)=S.aj:=by
  refine zm λk => ?_;rw[List.getElem?_set];have hw:=b.wl hi;by_cases h:i=k
  ·subst h;rw[aM rfl,aM hw];show _=_;rw[List.getElem?_eq_getElem hw];show some (J S.aj i)=_;unfold J;rw[List.getD_eq_getElem?_getD,List.getElem?_eq_getElem hw];rfl
  ·rw[bZ h]
 show({S with aj:=S.aj.set i (act S i)}:af)=S;rw[e]
end
section
variable {o o':bQ}{M M':ag}{v:Int}
theorem aeF(ha:o.ay=1):gi o v=some {o with ay:=2}:=by unfold gi;rw[aM ha]
theorem aeG(ha:o.ay=2):gi o v=some {o with ay:=3}:=by unfold gi;rw[dD ha,aM ha]
theorem aeH(ha:o.ay=3):gi o v=if v=1 then some {o with ay:=6,jM:=17}else jw o:=by
 unfold gi qf;rw[dD ha,dD ha,aM ha];split
 ·rfl
 ·cases jw o<;>rfl
theorem aeI(ha:o.ay=5):gi o v=if v=1 then some o else some {o with ay:=0,dX:=16,fm:=0}:=by
 unfold gi dG;rw[dD ha,dD ha,dD ha,aM ha];rfl
theorem acu(ha:o.ay=6):gi o v=if v=1 then some {o with ay:=7}else some {o with ay:=0,dX:=o.jM,fm:=0}:=by
 unfold gi dG;rw[dD ha,dD ha,dD ha,dD ha,aM ha];rfl
theorem aeJ(ha:o.ay=7):gi o v=some {o with ay:=0,dX:=o.jM,fm:=0}:=by
 unfold gi dG;rw[dD ha,dD ha,dD ha,dD ha,dD ha,aM ha];rfl
theorem LB(hk:o.dg=1)(ha:o.ay=4)(hx:lO o M=some (o',M')):eK M o=some (o',M'):=by
 unfold eK;rw[dD hk,dD ha,fB,aM ha,hx,eF]
theorem UI{l':bV}(h:fu M o.look=some (l',M'))(hk:l'.kind=4):lO o M=if l'.J=0 then(if l'.code=0 then some ({o with look:=l' },M')else if l'.code=7 then some ({o with look:=l',ay:=6,jM:=16},M')else if l'.code=8 then eA (jw {o with look:=l' }) (λr=>some (r,M'))else some ({o with look:=l',ay:=0,dX:=1,fm:=0},M'))else some ({o with look:=l' },M'):=by
 unfold lO qf dG;rw[h,eF];by_cases e:l'.J=0
 ·rw[O5 (by rw[hk];decide) e,aM e,eF];rfl
 ·rw[Nu (by rw[hk];decide) e,bZ e,eF,aM rfl]
theorem aeK{l:bV}(ha:l.J=2):mw l v=some {l with J:=1,t:=v}:=by unfold mw;rw[aM ha]
theorem aeL{l:bV}(ha:l.J=1):mw l v=if l.t<v then some {l with J:=0,code:=7,value:=0}else some {l with J:=0,code:=8,value:=0}:=by
 unfold mw eJ;rw[dD ha];rfl
end
section
variable {K:Nat}{C:Am.jt}{p:aH}{s:Am.St}{S:af}{M M':ag}{sz n i:Nat}{D:aV}{d:Int}{o:bQ}
variable (b:zj C p s S M sz n)(hi:i<C.N)
include b hi
theorem QJ{k:Nat}(hw:o.cg=C.N)(hk:o.da=k)(h:k+1=C.N):jw o=some {o with ay:=5,da:=(k:Int)+1}:=by
 have n64:=b.ok.n64;have e:wi (o.da+1)=(k:Int)+1:=by rw[hk,eO I]
 unfold jw;rw[e,aM (by rw[hw];omega)]
theorem QK{k j:Nat}(hw:o.cg=C.N)(hs:o.gz=i)(hk:o.da=k)(hd:∀v,v<C.N->J o.dw v=Nt C v)(h:ring C i j (k+1)):jw o=some {o with ay:=4,da:=(k:Int)+1,look:=ES C 4 2 j 0}:=by
 have n64:=b.ok.n64;have hj:=ET h;have hlt:=h.2.1;have e:wi (o.da+1)=(k:Int)+1:=by rw[hk,eO I]
 have ho:kX {o with ay:=4,da:=(k:Int)+1}=some (j:Int):=LA (k:=k+1) hi n64 hw hs (by show(k:Int)+1=((k+1:Nat):Int);omega) h;unfold jw Ay;rw[e,bZ (by rw[hw];omega),ho,aq,aM ⟨I,I⟩,cL,hd j hj,Cq b,aq];rfl
theorem Kl{a:bE}(hr:RO C i 1 0 a)(hpk:a.parked=false):bY (gE S i a) M (i:Int) D=some (CZ none,gE S i {a with cF:={a.cF with ay:=2}},nt M (M.cell.set (Am.cB C s (.flag i)).toNat 1) 1 (Am.cB C s (.flag i)) 1 0 true):=by
 obtain⟨a1,⟨l1,l2,l3,l4,l5,l6⟩,a2⟩:=hr;exact vp b hi (zT l4 l5 dO dO dO (aez b.ar b.z b.cN hi l1 l3 l5) (by rw[aM rfl];exact aeF l5)) l4 (by show(2:Int)≠0;decide) (.inl (by show(2:Int)≠5;decide))
theorem Xd(hp:s.pc i= .flag)(hr:RO C i 1 0 (act S i)/\(act S i).parked=false):jE C p sz n M (Am.aC C s i d) (bY S M (i:Int) D):=by
 obtain⟨w1,w2,w3⟩:=b.jX.wk i hi;have h:=Kl (D:=D) b hi hr.1 hr.2;rw[kr b hi]at h;obtain⟨⟨a1,⟨l1,l2,l3,l4,l5,l6⟩,a2⟩,a3⟩:=hr;unfold Am.aC;rw[hp];simp only;exact .mk b hi h w1 w2 rfl ⟨⟨a1,⟨l1,l2,l3,l4,rfl,l6⟩,a2⟩,a3⟩ (b.Bx (c:=.flag i) rfl (by rw[hp];rfl) hi _ _ _ _ _) (Lg.nt rfl) trivial
theorem UJ(hp:s.pc i= .sleep):jE C p sz n M (Am.aC C s i d) (bY S M (i:Int) D):=by
 obtain⟨w1,w2,w3⟩:=b.jX.wk i hi;rw[hp]at w3;obtain⟨⟨a1,⟨l1,l2,l3,l4,l5,l6⟩,a2⟩,a3⟩:=w3;have hs:=λo' h=>zT l4 l5 dO dO dO (aeA b.ar b.z b.cN l1 l5 (b.Nr rfl)) (o':=o') (by rw[aM rfl];exact h);have h:=vp (D:=D) b hi (a:=act S i) (hs _ (aeG l5)) l4 (by show(3:Int)≠0;decide) (.inl (by show(3:Int)≠5;decide));rw[kr b hi]at h;unfold Am.aC;rw[hp];simp only;exact .mk b hi h w1 w2 rfl ⟨⟨a1,⟨l1,l2,l3,l4,rfl,l6⟩,a2⟩,a3⟩ (b.Bx (c:=.tW) rfl (by rw[hp];rfl) trivial _ _ _ _ _) (Lg.nt rfl) trivial
theorem NH(hp:s.pc i= .vn):jE C p sz n M (Am.aC C s i d) (bY S M (i:Int) D):=by
 obtain⟨w1,w2,w3⟩:=b.jX.wk i hi;rw[hp]at w3;obtain⟨⟨a1,⟨l1,l2,l3,l4,l5,l6⟩,a2⟩,a3⟩:=w3;have hs:=λo' h=>zT l4 l5 dO dO dO (aco b.ar b.z b.cN l1 l5) (o':=o') (by rw[aM rfl];exact h);have e:=aeH l5 (v:=s.mem .E5);unfold Am.aC;rw[hp];simp only[Am.looking];by_cases h1:s.mem .E5=1
 ·rw[aM h1]at e;rw[aM h1];have h:=vp (D:=D) b hi (a:=act S i) (hs _ e) l4 (by show(6:Int)≠0;decide) (.inl (by show(6:Int)≠5;decide));rw[kr b hi]at h;exact .mk b hi h w1 w2 rfl ⟨a3,0,⟨a1,⟨l1,l2,l3,l4,rfl,l6⟩,a2⟩,rfl⟩ (b.zk rfl (by rw[hp];rfl) _ _ _ _ _) (Lg.nt rfl) trivial
 ·rw[bZ h1]at e;rw[bZ h1];rcases DU hi with ⟨e1,e2⟩ | ⟨e1,e2,e3⟩
  ·rw[QJ b hi l2 (k:=0) l6 I]at e;rw[aM e2];have h:=Kj (D:=D) b hi (a:=act S i) (hs _ e) l4 rfl a3;rw[kr b hi]at h;exact .mk b hi h w1 w2 rfl ⟨rfl,_,a1,⟨l1,l2,l3,l4,rfl,rfl⟩,a2⟩ (b.zk rfl (by rw[hp];rfl) _ _ _ _ _) (Lg.nt rfl) (by show(9:Nat)≠0;decide)
  ·rw[QK b hi l2 l3 (k:=0) l6 a2 e3]at e;rw[bZ e2];have h:=vp (D:=D) b hi (a:=act S i) (hs _ e) l4 (by show(4:Int)≠0;decide) (.inl (by show(4:Int)≠5;decide));rw[kr b hi]at h;exact .mk b hi h w1 w2 rfl ⟨a3,1,⟨a1,⟨l1,l2,l3,l4,rfl,rfl⟩,a2⟩,e3,rfl,rfl,rfl,rfl⟩ (b.zk rfl (by rw[hp];rfl) _ _ _ _ _) (Lg.nt rfl) trivial
theorem UK{j:Nat}(hp:s.pc i= .Dp j):jE C p sz n M (Am.aC C s i d) (bY S M (i:Int) D):=by
 obtain⟨w1,w2,w3⟩:=b.jX.wk i hi;rw[hp]at w3;obtain⟨a3,k,⟨a1,⟨l1,l2,l3,l4,l5,l6⟩,a2⟩,hr,o1,o2,o3,o4⟩:=w3;have hj:=ET hr;have hd:=qD o1 o2 dO dO (GU b.ar b.z b.cN hj o2 o3) (by rw[bZ dO,bZ dO,bZ dO];exact aeK o2);have hl:=UI hd o1;rw[bZ (by show ¬(1:Int)=0;decide)]at hl;have h:=vp (D:=D) b hi (a:=act S i) (LB l4 l5 hl) l4 (by show(act S i).cF.ay≠0;rw[show(act S i).cF.ay=4 from l5];decide) (.inl (by show(act S i).cF.ay≠5;rw[show(act S i).cF.ay=4 from l5];decide));rw[kr b hi]at h;unfold Am.aC;rw[hp];simp only;exact .mk b hi h w1 w2 rfl ⟨a3,k,⟨a1,⟨l1,l2,l3,l4,l5,l6⟩,a2⟩,hr,⟨o1,rfl,o3,o4⟩,rfl⟩ (b.zk rfl (by rw[hp];rfl) _ _ _ _ _) (Lg.nt rfl) trivial
theorem UL{j:Nat}{t:Int}(hp:s.pc i= .Dq j t):jE C p sz n M (Am.aC C s i d) (bY S M (i:Int) D):=by
 obtain⟨w1,w2,w3⟩:=b.jX.wk i hi;rw[hp]at w3;obtain⟨a3,k,⟨a1,⟨l1,l2,l3,l4,l5,l6⟩,a2⟩,hr,⟨o1,o2,o3,o4⟩,o5⟩:=w3;have hj:=ET hr;have e:=aeL o2 (v:=s.mem (.bot j));have hd:=λl' h=>qD o1 o2 dO dO (GS b.ar b.z b.cN hj o2 o3) (o':=l') (by rw[bZ dO,bZ dO,bZ dO];exact h);unfold Am.aC;rw[hp];simp only[Am.looking];by_cases h1:t<s.mem (.bot j)
 ·rw[aM (by rw[o5];exact h1)]at e;rw[aM h1];have hl:=UI (hd _ e) o1;rw[aM rfl,bZ (by show ¬(7:Int)=0;decide),aM rfl]at hl;have h:=vp (D:=D) b hi (a:=act S i) (LB l4 l5 hl) l4 (by show(6:Int)≠0;decide) (.inl (by show(6:Int)≠5;decide));rw[kr b hi]at h;exact .mk b hi h w1 w2 rfl ⟨a3,k,⟨a1,⟨l1,l2,l3,l4,rfl,l6⟩,a2⟩,rfl⟩ (b.zk rfl (by rw[hp];rfl) _ _ _ _ _) (Lg.nt rfl) trivial
 ·rw[bZ (by rw[o5];exact h1)]at e;rw[bZ h1];have hl:=UI (hd _ e) o1;rw[aM rfl,bZ (by show ¬(8:Int)=0;decide),bZ (by show ¬(8:Int)=7;decide),aM rfl]at hl;rcases CC hi hr with ⟨e1,e2⟩ | ⟨e1,e2,e3⟩
  ·rw[QJ b hi (o:={(act S i).cF with look:={(act S i).cF.look with J:=0,code:=8,value:=0}}) l2 (k:=k) l6 e1,aq]at hl;rw[aM e2];have h:=Kj (D:=D) b hi (a:=act S i) (LB l4 l5 hl) l4 rfl a3;rw[kr b hi]at h;exact .mk b hi h w1 w2 rfl ⟨rfl,_,a1,⟨l1,l2,l3,l4,rfl,rfl⟩,a2⟩ (b.zk rfl (by rw[hp];rfl) _ _ _ _ _) (Lg.nt rfl) (by show(9:Nat)≠0;decide)
  ·rw[QK b hi (o:={(act S i).cF with look:={(act S i).cF.look with J:=0,code:=8,value:=0}}) l2 l3 (k:=k) l6 a2 e3,aq]at hl;rw[bZ e2];have h:=vp (D:=D) b hi (a:=act S i) (LB l4 l5 hl) l4 (by show(4:Int)≠0;decide) (.inl (by show(4:Int)≠5;decide));rw[kr b hi]at h;exact .mk b hi h w1 w2 rfl ⟨a3,k+1,⟨a1,⟨l1,l2,l3,l4,rfl,by show(k:Int)+1=((k+1:Nat):Int);omega⟩,a2⟩,e3,rfl,rfl,rfl,rfl⟩ (b.zk rfl (by rw[hp];rfl) _ _ _ _ _) (Lg.nt rfl) trivial
theorem R4(hp:s.pc i= .parked):jE C p sz n M (Am.aC C s i d) (bY S M (i:Int) D):=by
 obtain⟨w1,w2,w3⟩:=b.jX.wk i hi;rw[hp]at w3;obtain⟨a3,k,a1,⟨l1,l2,l3,l4,l5,l6⟩,a2⟩:=w3;have hs:=λo' h=>zT l4 l5 dO dO dO (aeB b.ar b.z b.cN hi l1 l3 l5) (o':=o') (by rw[aM rfl];exact h);have e:=aeI l5 (v:=s.mem (.flag i));unfold Am.aC;rw[hp];simp only;by_cases h1:s.mem (.flag i)=1
 ·rw[aM h1]at e;rw[aM h1];have h:=vp (D:=D) b hi (a:=act S i) (hs _ e) l4 (by rw[show(act S i).cF.ay=5 from l5];decide) (.inr a3);rw[kr b hi]at h;exact .mk (a:=act S i) b hi (by rw[kr b hi];exact h) w1 w2 (q:=.parked) (by show s.pc=_;rw[<-hp,Am.rL]) ⟨a3,k,a1,⟨l1,l2,l3,l4,l5,l6⟩,a2⟩ (b.ar.same rfl rfl rfl rfl _ _ _ _ _) (Lg.nt rfl) trivial
 ·rw[bZ h1]at e;rw[bZ h1];have h:=DV (D:=D) b hi (a:=act S i) (hs _ e) l4 rfl rfl;rw[kr b hi]at h;exact .mk b hi h w1 w2 rfl (EP b hi rfl rfl (Am.aF _ _ _)) (b.zk rfl (by rw[hp];exact ER b hi rfl) _ _ _ _ _) (Lg.nt rfl) trivial (RP:=λj hj=>Am.aA hj)
theorem Xe{w:Bool}(hp:s.pc i= .back w):jE C p sz n M (Am.aC C s i d) (bY S M (i:Int) D):=by
 obtain⟨w1,w2,w3⟩:=b.jX.wk i hi;rw[hp]at w3;obtain⟨a3,k,⟨a1,⟨l1,l2,l3,l4,l5,l6⟩,a2⟩,a4⟩:=w3;have hs:=λo' h=>zT l4 l5 dO dO dO (aeC b.ar b.z b.cN hi l1 l3 l5) (o':=o') (by rw[aM rfl];exact h);unfold Am.aC;rw[hp];simp only[Am.yp];by_cases h1:s.mem (.flag i)=1
 ·have e:=acu l5 (v:=1);rw[aM rfl]at e;rw[aM h1,aM h1]at hs;rw[aM h1];have h:=vp (D:=D) b hi (a:=act S i) (hs _ e) l4 (by show(7:Int)≠0;decide) (.inl (by show(7:Int)≠5;decide));rw[kr b hi]at h;exact .mk b hi h w1 w2 rfl ⟨a3,k,⟨a1,⟨l1,l2,l3,l4,rfl,l6⟩,a2⟩,a4⟩ (b.Bx (c:=.flag i) rfl (by rw[hp];rfl) hi _ _ _ _ _) (by rw[show(s.mem (.flag i)==1)=true by rw[h1];rfl];exact Lg.nt rfl) trivial
 ·have e:=acu l5 (v:=0);rw[bZ dO]at e;rw[bZ h1,bZ h1]at hs;rw[bZ h1];have hb:(s.mem (.flag i)==1)=false:=by simpa using h1
  cases w with
  | true =>
   have h:=Kk (D:=D) b hi (a:=act S i) (hs _ e) l4 rfl a4;rw[kr b hi]at h;exact .mk b hi h w1 w2 rfl rfl (b.zk rfl (by rw[hp];rfl) _ _ _ _ _) (by rw[hb];exact Lg.nt rfl) (by show(10:Nat)≠0;decide)
  | false =>
   have h:=DV (D:=D) b hi (a:=act S i) (hs _ e) l4 rfl a4;rw[kr b hi]at h;exact .mk b hi h w1 w2 rfl (EP b hi rfl rfl (Am.aF _ _ _)) (b.zk rfl (by rw[hp];exact ER b hi rfl) _ _ _ _ _) (by rw[hb];exact Lg.nt rfl) trivial (RP:=λj hj=>Am.aA hj)
theorem Pn{w:Bool}(hp:s.pc i= .v8 w):jE C p sz n M (Am.aC C s i d) (bY S M (i:Int) D):=by
 obtain⟨w1,w2,w3⟩:=b.jX.wk i hi;rw[hp]at w3;obtain⟨a3,k,⟨a1,⟨l1,l2,l3,l4,l5,l6⟩,a2⟩,a4⟩:=w3;have hs:=zT l4 l5 dO dO dO (Z8 b.ar b.z b.cN l1 l5 (b.Nr rfl)) (by rw[aM rfl];exact aeJ l5);unfold Am.aC;rw[hp];simp only[Am.yp];cases w with
 | true =>
  have h:=Kk (D:=D) b hi (a:=act S i) hs l4 rfl a4;rw[kr b hi]at h;exact .mk b hi h w1 w2 rfl rfl (b.Bx (c:=.tW) rfl (by rw[hp];rfl) trivial _ _ _ _ _) (Lg.nt rfl) (by show(10:Nat)≠0;decide)
 | false =>
  have h:=DV (D:=D) b hi (a:=act S i) hs l4 rfl a4;rw[kr b hi]at h;exact .mk b hi h w1 w2 rfl (EP b hi rfl rfl (Am.aF _ _ _)) (b.Bx (c:=.tW) rfl (by rw[hp];exact ER b hi rfl) trivial _ _ _ _ _) (Lg.nt rfl) trivial (RP:=λj hj=>Am.aA hj)
def NI(C:Am.jt)(p:aH)(sz n:Nat)(M:ag)(D':aV)(o:Am.Out)(r:Option (aB×af×ag×aV)):Prop:=
 ∃S' M',r=some (CZ o.ev,S',M',D')/\WW C p o.s S'/\AR C o.s M' sz (n+1)/\Lg C o.s M M' o.acc/\Uy o.ev
theorem jE.draw{o:Am.Out}{r:Option (aB×af×ag)}{r':Option (aB×af×ag×aV)}(h:jE C p sz n M o r)(hr:r'=ql r (λa b c=>some (a,b,c,D))):NI C p sz n M D o r':=by
 obtain⟨S',M',rfl,h⟩:=h;exact⟨S',M',by rw[hr,dc],h⟩
theorem UM(hK:100<K)(hp:s.pc i= .flag)(h9:(act S i).aK=9/\C.N=1):NI C p sz n M D (Am.aC C s i d) (fV K S M (i:Int) D):=by
 obtain⟨w1,w2,w3⟩:=b.jX.wk i hi;obtain⟨l,e1,e2⟩:=UG (K:=K) b hi hK (S0:=S) (a:=act S i) (kr b hi).symm w1;have hr:RO C i 1 0 {act S i with cF:=RZ C i l,parked:=false,aK:=12}:=⟨rfl,⟨rfl,rfl,rfl,rfl,rfl,rfl⟩,e2⟩;have h:=Kl (D:=D) b hi hr rfl;have hg:fV K S M (i:Int) D=ql (bY (gE S i {act S i with cF:=RZ C i l,parked:=false,aK:=12}) M (i:Int) D) (λa b c=>some (a,b,c,D)):=by
  unfold fV mc jT an;rw[aq,aM (by rw[b.jX.wl];omega),e1 M,aq,aM (by rw[jW];exact b.BE hi)]
 refine jE.draw b hi ?_ hg;unfold Am.aC;rw[hp];simp only;exact .mk b hi h w1 w2 rfl ⟨⟨rfl,⟨rfl,rfl,rfl,rfl,rfl,rfl⟩,e2⟩,rfl⟩ (b.Bx (c:=.flag i) rfl (by rw[hp];rfl) hi _ _ _ _ _) (Lg.nt rfl) trivial
theorem R5(hp:s.pc i= .jQ):NI C p sz n M (I3 D) (Am.aC C s i (BU D)) (fV K S M (i:Int) D):=by
 obtain⟨w1,w2,w3⟩:=b.jX.wk i hi;rw[hp]at w3;obtain⟨a1,a2,a3⟩:=w3;have T:=b.dt.2 i hi;unfold Am.Th at T;rw[hp]at T;simp only at T;have n1:=b.ok.n1;have n64:=b.ok.n64;obtain⟨v,hv⟩ :∃v,v=(i+1+(BU D%((C.N:Int)-1)).toNat)%C.N:=⟨_,rfl⟩;have hvN:v<C.N:=by rw[hv];exact BF _ I
 have m0:=BK (BU D) (b:=(C.N:Int)-1) I;have m1:=C6 (BU D) (show 0<(C.N:Int)-1 by omega);have aeM:((i:Int)+1+BU D%((C.N:Int)-1))%(C.N:Int)=(v:Int):=by
  rw[hv];have:(i:Int)+1+BU D%((C.N:Int)-1)=((i+1+(BU D%((C.N:Int)-1)).toNat:Nat):Int):=by omega
  rw[this];rfl
 have hlen:=b.jX.wl;have hs:=qD (o:=ES C 3 2 v 0) (M:=M) (k:=3) (a:=2) rfl rfl dO dO (GU b.ar b.z b.cN hvN rfl rfl) (by rw[bZ dO,bZ dO,aM rfl];exact ach rfl);have hact:act (gE S i {act S i with fE:=(v:Int),bq:=ES C 3 2 v 0,aK:=10}) i={act S i with fE:=(v:Int),bq:=ES C 3 2 v 0,aK:=10}:=oa (b.wl hi);have hst:cC (gE S i {act S i with fE:=(v:Int),bq:=ES C 3 2 v 0,aK:=10}) M (i:Int) (I3 D)=some (CZ none,gE S i {act S i with fE:=(v:Int),bq:={ES C 3 2 v 0 with J:=1,t:=s.mem (.top v)},aK:=10},nt M M.cell 0 (Am.cB C s (.top v)) (s.mem (.top v)) 0 true):=by
  unfold cC jT an;rw[wc (by rw[hact];exact hs) (Nu (by show(3:Int)≠0;decide) (by show(1:Int)≠0;decide)),gu,aM rfl,hact,Nw];rfl
 have hg:fV K S M (i:Int) D=ql (cC (gE S i {act S i with fE:=(v:Int),bq:=ES C 3 2 v 0,aK:=10}) M (i:Int) (I3 D)) (λa b c=>some (a,b,c,I3 D)):=by
  unfold fV mc jT an;rw[aq,bZ (by rw[hlen];omega),aq,hlen,eO (x:=(C.N:Int)-1) I,UD I I,aq,aq,cL,show(J S.aj i).bx=i from w1,eO (x:=(i:Int)+1) I,eO (x:=(i:Int)+1+_) I,UD I I,aq,aeM];rw[aM (by show bM (v:Int) S.dw.length;exact⟨I,by rw[b.jX.dl];omega⟩)];unfold yF;rw[show J S.dw (v:Int).toNat=Nt C v by rw[cL];exact b.jX.dq v hvN,Cq b,aq,aq,iP,iP];rfl
 refine jE.draw b hi ?_ hg;unfold Am.aC;rw[hp];simp only;rw[<-hv];exact .mk b hi hst w1 w2 rfl ⟨rfl,⟨a2,a3⟩,rfl,⟨rfl,rfl,rfl,rfl⟩,rfl⟩ (b.zk rfl (by rw[hp];rfl) _ _ _ _ _) (Lg.nt rfl) trivial
end
def jZ(C:Am.jt)(k:Int)(f:Nat)(sl:Nat)(v:Int):bL:=⟨1,C.F,f,1,0,0,k,sl,v⟩
section
variable {C:Am.jt}{s:Am.St}{M M':ag}{sz n:Nat}{o o':bL}{f:Nat}
theorem NJ(h:AR C s M sz n)(hz:Am.SZ C s)(hf:f<C.F){t:bj}(hb:t.lj=1):gK t (f:Int)=some (Am.cB C s (.join f)):=by
 have p:=h.WV hz (a:=.join f) hf;have e:Am.cB C s (.join f)=2+10*(f:Int):=rfl;rw[e]at p;unfold gK;rw[hb,eO (x:=(1:Int)+1) I,eO (x:=(f:Int)*10) I,eO I,e];congr 1;omega
theorem Yn(h:AR C s M sz n)(hz:Am.SZ C s)(hf:f<C.F){k:Nat}(hk:k<8){t:bj}(hb:t.lj=1):kK t (f:Int) (k:Int)=some (Am.cB C s (.slot f k)):=by
 have p:=h.WV hz (a:=.slot f k) ⟨hf,hk⟩;have e:Am.cB C s (.slot f k)=4+10*(f:Int)+k:=rfl;have e1:Am.cB C s (.join f)=2+10*(f:Int):=rfl;rw[e]at p;unfold kK;rw[NJ h hz hf hb,aq,e1,eO (x:=2+10*(f:Int)+2) I,eO I,e];congr 1;omega
theorem acv(h:AR C s M sz n)(hz:Am.SZ C s)(hf:f<C.F){t:bj}(hb:t.lj=1):nE t (f:Int)=some (Am.cB C s (.mark f)):=by
 have p:=h.WV hz (a:=.mark f) hf;have e:Am.cB C s (.mark f)=3+10*(f:Int):=rfl;have e1:Am.cB C s (.join f)=2+10*(f:Int):=rfl;rw[e]at p;unfold nE;rw[NJ h hz hf hb,aq,e1,eO I,e];congr 1;omega
theorem Po(hC:C.OK)(hf:f<C.F){k:Int}{sl:Nat}(hs:sl<8){v:Int}:kU k (⟨1,C.F⟩:bj) (f:Int) (sl:Int) v=some (jZ C k f sl v):=by
 have h1:=hC.f1;have h2:=hC.f4;unfold kU qw;simp only;rw[sR,sR,sR,sR,tJ I,aq,aM rfl,eu,eu];rfl
theorem GV(hC:C.OK)(hf:f<C.F){k v:Int}:kU k (⟨1,C.F⟩:bj) (f:Int) 0 v=some (jZ C k f 0 v):=Po (sl:=0) hC hf I
theorem LC{o:bL}(hb:o.ez=1)(hs:o.az=0):jd o=some (o.fh,o.mC):=by
 unfold jd;rw[bZ (λe=>by rw[e]at hb;exact absurd hb dO),eu]
theorem UN{o:bL}(hb:o.ez=1)(hs:o.az>0):jd o=some (0,0):=by
 unfold jd;rw[bZ (λe=>by rw[e]at hb;exact absurd hb dO),aM hs]
theorem EX(hs:o.az≠0){r:Option (Int×bL×ag)}(hr:r=some (0,o',M'))
 (hk:r=(if o.kind=0 then jN o M else if o.kind=1 then mm o M else if o.kind=2 then gj o M else if o.kind=3 then jr o M else if o.kind=4 then lM o M else lN o M)) :
 cT M o=some (if o'.az>0 then({o' with az:=wi (o'.az+1)},M')else(o',M')):=by
 have fin:(if(0:Int)=0 then(if o'.az>0 then some ({o' with az:=wi (o'.az+1)},M')else some (o',M'))else eA (ei o' 1 0) (λS=>some (S,M')))=some (if o'.az>0 then({o' with az:=wi (o'.az+1)},M')else(o',M')):=by
  rw[aM rfl];split<;>rfl
 rw[hr]at hk;unfold cT;rw[bZ hs];split at hk
 ·rename_i h;rw[aM h,<-hk,dc];exact fin
 ·rename_i h;rw[bZ h];split at hk
  ·rename_i h;rw[aM h,<-hk,dc];exact fin
  ·rename_i h;rw[bZ h];split at hk
   ·rename_i h;rw[aM h,<-hk,dc];exact fin
   ·rename_i h;rw[bZ h];split at hk
    ·rename_i h;rw[aM h,<-hk,dc];exact fin
    ·rename_i h;rw[bZ h];split at hk
     ·rename_i h;rw[aM h,<-hk,dc];exact fin
     ·rename_i h;rw[bZ h,<-hk,dc];exact fin
theorem Xf(h:AR C s M sz n)(hz:Am.SZ C s)(hn:n<=2000000000)(hf:f<C.F)(hv:-1000000000000<=s.mem (.mark f)/\s.mem (.mark f)<=1000000000000) :
 cT M (jZ C 4 f 0 0)=some ({jZ C 4 f 0 0 with az:=0,fh:=14,mC:=s.mem (.mark f)+1},nt M (M.cell.set (Am.cB C s (.mark f)).toNat (s.mem (.mark f)+1)) 3 (Am.cB C s (.mark f)) 1 (s.mem (.mark f)+1) true):=by
 refine EX (o':={jZ C 4 f 0 0 with az:=0,fh:=14,mC:=s.mem (.mark f)+1}) (M':=nt M (M.cell.set (Am.cB C s (.mark f)).toNat (s.mem (.mark f)+1)) 3 (Am.cB C s (.mark f)) 1 (s.mem (.mark f)+1) true) (by show(1:Int)≠0;decide) rfl ?_;show _=lM _ _;unfold lM ei;rw[show nE _ (jZ C 4 f 0 0).gy=some (Am.cB C s (.mark f))from acv h hz hf rfl,aq,Kh h hz hn (a:=.mark f) hf (eO I),dc];rfl
theorem aaa(h:AR C s M sz n)(hz:Am.SZ C s)(hn:n<=2000000000)(hf:f<C.F)(hv:-1000000000000<=s.mem (.join f)/\s.mem (.join f)<=1000000000000) :
 cT M (jZ C 1 f 0 0)=some ({jZ C 1 f 0 0 with az:=0,fh:=9,mC:=s.mem (.join f)+1},nt M (M.cell.set (Am.cB C s (.join f)).toNat (s.mem (.join f)+1)) 3 (Am.cB C s (.join f)) 1 (s.mem (.join f)+1) true):=by
 refine EX (o':={jZ C 1 f 0 0 with az:=0,fh:=9,mC:=s.mem (.join f)+1}) (M':=nt M (M.cell.set (Am.cB C s (.join f)).toNat (s.mem (.join f)+1)) 3 (Am.cB C s (.join f)) 1 (s.mem (.join f)+1) true) (by show(1:Int)≠0;decide) rfl ?_;show _=mm _ _;unfold mm ei;rw[show gK _ (jZ C 1 f 0 0).gy=some (Am.cB C s (.join f))from NJ h hz hf rfl,aq,Kh h hz hn (a:=.join f) hf (eO I),dc];rfl
theorem UO(h:AR C s M sz n)(hz:Am.SZ C s)(hn:n<=2000000000)(hf:f<C.F)(hb:o.ez=1)(hh:o.gy=f)(hv:-1000000000000<=s.mem (.join f)/\s.mem (.join f)<=1000000000000)(c:Int) :
 jq o M c=some (0,(if s.mem (.join f)-1=0 then o else {o with az:=0,fh:=c,mC:=s.mem (.join f)-1}),nt M (M.cell.set (Am.cB C s (.join f)).toNat (s.mem (.join f)-1)) 3 (Am.cB C s (.join f)) (-1) (s.mem (.join f)-1) true):=by
 unfold jq ei;rw[hh,NJ (t:=⟨o.ez,o.dV⟩) h hz hf hb,aq,Kh h hz hn (a:=.join f) hf (v:=s.mem (.join f)-1) (by rw[eO I];omega),dc,aM rfl];by_cases e:s.mem (.join f)-1=0
 ·rw[aM e,aM e]
 ·rw[bZ e,bZ e,aq]
theorem QL(h:AR C s M sz n)(hz:Am.SZ C s)(hn:n<=2000000000)(hf:f<C.F)(hb:o.ez=1)(hh:o.gy=f)(c:Int) :
 iR o M c=some (0,{o with az:=0,fh:=c,mC:=0},nt M (M.cell.set (Am.cB C s (.join f)).toNat 1) 1 (Am.cB C s (.join f)) 1 0 true):=by
 unfold iR ei;rw[hh,NJ (t:=⟨o.ez,o.dV⟩) h hz hf hb,aq,v9 h hz hn (a:=.join f) hf,eF,aM rfl,aq]
theorem Xg(h:AR C s M sz n)(hz:Am.SZ C s)(hn:n<=2000000000)(hf:f<C.F)(hv:-1000000000000<=s.mem (.join f)/\s.mem (.join f)<=1000000000000) :
 cT M (jZ C 3 f 0 0)=some ((if s.mem (.join f)-1=0 then {jZ C 3 f 0 0 with az:=2}else {jZ C 3 f 0 0 with az:=0,fh:=12,mC:=s.mem (.join f)-1}),nt M (M.cell.set (Am.cB C s (.join f)).toNat (s.mem (.join f)-1)) 3 (Am.cB C s (.join f)) (-1) (s.mem (.join f)-1) true):=by
 have e:=UO (o:=jZ C 3 f 0 0) h hz hn hf rfl rfl hv 12;have e2:jr (jZ C 3 f 0 0) M=jq (jZ C 3 f 0 0) M 12:=by unfold jr;rw[aM (show(jZ C 3 f 0 0).az=1 from rfl),e,dc]
 have:=EX (o:=jZ C 3 f 0 0) (M:=M) (by show(1:Int)≠0;decide) (e2.trans e) rfl;rw[this];by_cases e:s.mem (.join f)-1=0
 ·rw[aM e,aM e,aM (by show(1:Int)>0;decide)];rfl
 ·rw[bZ e,bZ e,bZ (by show ¬(0:Int)>0;decide)]
theorem aab(h:AR C s M sz n)(hz:Am.SZ C s)(hn:n<=2000000000)(hf:f<C.F){k:Nat}(hk:k<8)(v:Int) :
 cT M (jZ C 2 f k v)=some ({jZ C 2 f k v with az:=2},nt M (M.cell.set (Am.cB C s (.slot f k)).toNat v) 1 (Am.cB C s (.slot f k)) v 0 true):=by
 have e:gj (jZ C 2 f k v) M=some (0,jZ C 2 f k v,nt M (M.cell.set (Am.cB C s (.slot f k)).toNat v) 1 (Am.cB C s (.slot f k)) v 0 true):=by
  unfold gj;rw[aM (show(jZ C 2 f k v).az=1 from rfl),show kK _ (jZ C 2 f k v).gy (jZ C 2 f k v).slot=some (Am.cB C s (.slot f k))from Yn h hz hf hk rfl,aq,show(jZ C 2 f k v).ML=v from rfl,v9 h hz hn (a:=.slot f k) ⟨hf,hk⟩,eF]
 have:=EX (o:=jZ C 2 f k v) (M:=M) (by show(1:Int)≠0;decide) e rfl;rw[this,aM (by show(1:Int)>0;decide)];rfl
theorem Xh(h:AR C s M sz n)(hz:Am.SZ C s)(hn:n<=2000000000)(hf:f<C.F){k:Nat}(hk:k<8) :
 cT M (jZ C 5 f k 0)=some ({jZ C 5 f k 0 with az:=0,fh:=15,mC:=s.mem (.slot f k)},nt M M.cell 0 (Am.cB C s (.slot f k)) (s.mem (.slot f k)) 0 true):=by
 have e:lN (jZ C 5 f k 0) M=some (0,{jZ C 5 f k 0 with az:=0,fh:=15,mC:=s.mem (.slot f k)},nt M M.cell 0 (Am.cB C s (.slot f k)) (s.mem (.slot f k)) 0 true):=by
  unfold lN ei;rw[show kK _ (jZ C 5 f k 0).gy (jZ C 5 f k 0).slot=some (Am.cB C s (.slot f k))from Yn h hz hf hk rfl,aq,za h hz hn (a:=.slot f k) ⟨hf,hk⟩,dc];rfl
 have:=EX (o:=jZ C 5 f k 0) (M:=M) (by show(1:Int)≠0;decide) e rfl;rw[this,bZ (by show ¬(0:Int)>0;decide)]
theorem Xi(h:AR C s M sz n)(hz:Am.SZ C s)(hn:n<=2000000000)(hv:0<=s.mem .next/\s.mem .next<=1000000000000) :
 cT M (jZ C 0 0 0 0)=some ((if s.mem .next+1<=C.F then {jZ C 0 0 0 0 with az:=0,fh:=4,mC:=s.mem .next}else {jZ C 0 0 0 0 with az:=0,fh:=3,mC:=0}),nt M (M.cell.set (Am.cB C s .next).toNat (s.mem .next+1)) 3 (Am.cB C s .next) 1 (s.mem .next+1) true):=by
 have e:jN (jZ C 0 0 0 0) M=some (0,(if s.mem .next+1<=C.F then {jZ C 0 0 0 0 with az:=0,fh:=4,mC:=s.mem .next}else {jZ C 0 0 0 0 with az:=0,fh:=3,mC:=0}),nt M (M.cell.set (Am.cB C s .next).toNat (s.mem .next+1)) 3 (Am.cB C s .next) 1 (s.mem .next+1) true):=by
  unfold jN pE ei;rw[aq,show(⟨(jZ C 0 0 0 0).ez,(jZ C 0 0 0 0).dV⟩:bj).lj=Am.cB C s .next from rfl,Kh h hz hn (a:=.next) trivial (eO I),dc,aM rfl,sR,aq];by_cases e:s.mem .next+1<=C.F
  ·rw[aM e,aM (by show decide (s.mem .next+1<=(C.F:Int))=true;exact tJ e),eO I,show s.mem .next+1-1=s.mem .next by omega];rfl
  ·rw[bZ e,bZ (by show ¬decide (s.mem .next+1<=(C.F:Int))=true;simpa using e)];rfl
 have:=EX (o:=jZ C 0 0 0 0) (M:=M) (by show(1:Int)≠0;decide) e rfl;rw[this];by_cases e:s.mem .next+1<=C.F
 ·rw[aM e,bZ (by show ¬(0:Int)>0;decide)]
 ·rw[bZ e,bZ (by show ¬(0:Int)>0;decide)]
end
section
variable {K:Nat}{C:Am.jt}{p:aH}{s:Am.St}{S:af}{M M':ag}{sz n i f:Nat}{D:aV}{d:Int}{o':bL}
variable (b:zj C p s S M sz n)(hi:i<C.N)
include b hi
theorem GW(hb:Am.busy (Am.sig (s.pc i))=true) :∃f,s.hold i=some f/\f<s.nf/\f<C.F/\(act S i).ax=f:=by
 obtain⟨f,hh⟩:=Am.n9 b.fi hi hb;have h:=(Am.nA b.fi hi hh).2;exact⟨f,hh,h,Nat.lt_of_lt_of_le h b.fi.xC,by rw[show(act S i).ax=fi (s.hold i)from(b.jX.wk i hi).ax,hh];rfl⟩
theorem R6:(⟨S.dx,S.cJ⟩:bj)=⟨1,C.F⟩:=by rw[b.jX.tb,b.jX.tf]
theorem NK{a:bE}{c v:Int}(h1:cT M a.dB=some (o',M'))(h2:jd o'=some (c,v)):eW (gE S i a) M (i:Int)=some (c,v,gE S i {a with dB:=o' },M'):=by
 unfold eW jT an;rw[AK b hi,h1,eF];simp only;rw[h2,eF,cL];show some (_,_,({S with aj:=(S.aj.set i a).set i {a with dB:=o' }}:af),M')=_;rw[iP];rfl
theorem UP{x:Int}(hp:s.pc i= .start x):jE C p sz n M (Am.aC C s i d) (jB S M (i:Int) D):=by
 obtain⟨w1,w2,w3⟩:=b.jX.wk i hi;obtain⟨f,hh,hn,hF,hfr⟩:=GW b hi (by rw[hp];rfl);rw[hp]at w3;obtain⟨a1,a2⟩:=w3;have hs:=Xf b.ar b.z b.cN hF (b.Nr rfl);have h:=NK b hi (a:={act S i with dB:=jZ C 4 f 0 0}) hs (LC rfl rfl);unfold Am.aC;rw[hp];simp only[hh,nQ];refine .mk (a:={act S i with dB:={jZ C 4 f 0 0 with az:=0,fh:=14,mC:=s.mem (.mark f)+1},aK:=1}) b hi ?_ w1 w2 rfl rfl (b.Bx (c:=.mark f) rfl (by rw[hp];rfl) hF _ _ _ _ _) (Lg.nt rfl) (by show(1:Nat)≠0;decide);unfold jB xy jT an;rw[R6 b hi,cL,hfr,GV b.ok hF,aq,aq];rw[show({S with aj:=S.aj.set i {J S.aj i with dB:=jZ C 4 f 0 0}}:af)=gE S i {act S i with dB:=jZ C 4 f 0 0}from rfl,h,gu,aM rfl,aM (by rw[jW];exact b.BE hi),show J (gE S i _).aj i=_ from oa (b.wl hi)];show some ((⟨0,0,1,(act S i).ax,(act S i).from_,s.mem (.mark f)+1⟩:aB),({S with aj:=(S.aj.set i _).set i _}:af),_)=_;rw[iP];refine nu some (BJ ?_ rfl);show(⟨0,0,1,(act S i).ax,(act S i).from_,s.mem (.mark f)+1⟩:aB)=_;rw[hfr,show(act S i).from_=x from a2];rfl
theorem Xj{c:Nat}(hp:s.pc i= .fork c):jE C p sz n M (Am.aC C s i d) (j7 S M (i:Int) D):=by
 obtain⟨w1,w2,w3⟩:=b.jX.wk i hi;obtain⟨f,hh,hn,hF,hfr⟩:=GW b hi (by rw[hp];rfl);rw[hp]at w3;obtain⟨a1,a2⟩:=w3;have hs:=aaa b.ar b.z b.cN hF (b.Nr rfl);have h:=NK b hi (a:={act S i with dB:=jZ C 1 f 0 0}) hs (LC rfl rfl);unfold Am.aC;rw[hp];simp only[hh,nQ];refine .mk (a:={act S i with dB:={jZ C 1 f 0 0 with az:=0,fh:=9,mC:=s.mem (.join f)+1},bq:=ES C 1 1 i c,aK:=3}) b hi ?_ w1 w2 rfl ⟨rfl,a2,⟨rfl,rfl,rfl,rfl⟩,rfl⟩ (b.Bx (c:=.join f) rfl (by rw[hp];rfl) hF _ _ _ _ _) (Lg.nt rfl) trivial;unfold j7 yE jT an;rw[R6 b hi,cL,hfr,GV b.ok hF,aq,aq];rw[show({S with aj:=S.aj.set i {J S.aj i with dB:=jZ C 1 f 0 0}}:af)=gE S i {act S i with dB:=jZ C 1 f 0 0}from rfl,h,gu,aM rfl,aM (by rw[jW];exact b.BE hi),show J (gE S i _).aj i=_ from oa (b.wl hi)];unfold mO Aw;rw[aM (by show bM (act S i).bx S.dw.length;rw[show(act S i).bx=i from w1];exact⟨I,by rw[b.jX.dl];omega⟩),aq];rw[show J (gE S i _).dw (Int.toNat _)=Nt C i from(by show J S.dw (act S i).bx.toNat=_;rw[show(act S i).bx=i from w1,cL];exact b.jX.dq i hi)];show eA (eA (oR 1 1 (Nt C i) (act S i).bW) _) _=_;rw[show oR 1 1 (Nt C i) (act S i).bW=some (ES C 1 1 i c) by rw[show(act S i).bW=c from a2];exact Cq b _ _ _ _,aq,aq];show some (_,({S with aj:=((S.aj.set i _).set i _).set i _}:af),_)=_;rw[iP,iP];rfl
theorem R7{S0:af}{a:bE}(h0:S0=gE S i a)(ha:a.bx=i)(M':ag):jK S0 M' (i:Int)=some (gE S i {a with bq:=ES C 2 1 i 0,aK:=8}):=by
 subst h0;unfold jK mO zO jT an;rw[AK b hi,ha,aM (by show bM (i:Int) S.dw.length;exact⟨I,by rw[b.jX.dl];omega⟩),aq,cL,show J (gE S i a).dw i=Nt C i from b.jX.dq i hi,Cq b,aq,aq];show some ({S with aj:=((S.aj.set i _).set i _).set i _}:af)=_;rw[iP,iP,<-ha];rfl
end
def lp(S:af)(T:List aU):af:={S with aJ:=T}
section
variable {K:Nat}{C:Am.jt}{p:aH}{s:Am.St}{S:af}{M M':ag}{sz n i f:Nat}{D:aV}{d:Int}{o':bL}{T:List aU}{a:bE}
variable (b:zj C p s S M sz n)(hi:i<C.N)
include b hi
theorem wM:J (gE (lp S T) i a).aj (i:Int).toNat=a:=by rw[cL];exact oa (b.wl hi)
theorem UQ:bM (i:Int) (gE (lp S T) i a).aj.length:=by rw[jW];exact b.BE hi
theorem yd{c v:Int}(h1:cT M a.dB=some (o',M'))(h2:jd o'=some (c,v)):eW (gE (lp S T) i a) M (i:Int)=some (c,v,gE (lp S T) i {a with dB:=o' },M'):=by
 unfold eW jT an;rw[wM b hi,h1,eF];simp only;rw[h2,eF,cL];show some (_,_,({S with aJ:=T,aj:=(S.aj.set i a).set i {a with dB:=o' }}:af),M')=_;rw[iP];rfl
theorem Xk(ha:a.bx=i)(M':ag):jK (gE (lp S T) i a) M' (i:Int)=some (gE (lp S T) i {a with bq:=ES C 2 1 i 0,aK:=8}):=by
 unfold jK mO zO jT an;rw[wM b hi,aM (by rw[ha];show bM (i:Int) S.dw.length;exact⟨I,by rw[b.jX.dl];omega⟩),aq];rw[show J (gE (lp S T) i a).dw a.bx.toNat=Nt C i from(by rw[ha,cL];exact b.jX.dq i hi),Cq b,aq,aq,cL];show some ({S with aJ:=T,aj:=((S.aj.set i _).set i _).set i _}:af)=_;rw[iP,iP];rfl
theorem UR(h1:cT M a.dB=some (o',M'))(h2:o'.ez=1)(h3:o'.az>0):cY (gE (lp S T) i a) M (i:Int) D=some (CZ none,gE (lp S T) i {a with dB:=o' },M'):=by
 unfold cY jT an;rw[yd b hi h1 (UN h2 h3),gu,aM rfl];rfl
theorem R8(h1:cT M a.dB=some (o',M'))(h2:o'.ez=1)(h3:o'.az=0)(h4:o'.fh=13)(hf:a.ax=f):cY (gE (lp S T) i a) M (i:Int) D=some (CZ (Am.ev 5 f 0 0),gE (lp S T) i {a with dB:=o',aK:=1},M'):=by
 unfold cY jT an;rw[yd b hi h1 (LC h2 h3),gu,h4,bZ dO,aM rfl,aM (UQ b hi),wM b hi,wM b hi,cL];show some ((⟨0,0,5,a.ax,0,0⟩:aB),({S with aJ:=T,aj:=(S.aj.set i _).set i _}:af),M')=_;rw[iP];refine nu some (BJ ?_ rfl);show(⟨0,0,5,a.ax,0,0⟩:aB)=_;rw[hf];rfl
theorem R9(ha:a.bx=i)(h1:cT M a.dB=some (o',M'))(h2:o'.ez=1)(h3:o'.az=0)(h4:o'.fh=12)(hf:a.ax=f):cY (gE (lp S T) i a) M (i:Int) D=some (CZ (Am.ev 4 f 0 0),gE (lp S T) i {a with dB:=o',ax:=-1,bq:=ES C 2 1 i 0,aK:=8},M'):=by
 unfold cY jT an;rw[yd b hi h1 (LC h2 h3),gu,h4,bZ dO,bZ dO,aM rfl,aM (UQ b hi),wM b hi,wM b hi,cL];have e:({gE (lp S T) i {a with dB:=o' }with aj:=(gE (lp S T) i {a with dB:=o' }).aj.set i {({a with dB:=o' }:bE)with ax:=-1}}:af)=gE (lp S T) i {a with dB:=o',ax:=-1}:=by
  show({S with aJ:=T,aj:=(S.aj.set i _).set i _}:af)=_;rw[iP];rfl
 rw[e,Xk b hi (a:={a with dB:=o',ax:=-1}) ha,aq];refine nu some (BJ ?_ rfl);show(⟨0,0,4,a.ax,0,0⟩:aB)=_;rw[hf];rfl
theorem Pp:gE (lp S S.aJ) i (act S i)=S:=kr b hi
theorem Pq(hp:s.pc i= .nP):jE C p sz n M (Am.aC C s i d) (cY S M (i:Int) D):=by
 obtain⟨w1,w2,w3⟩:=b.jX.wk i hi;obtain⟨f,hh,hn,hF,hfr⟩:=GW b hi (by rw[hp];rfl);rw[hp]at w3;obtain⟨a1,t1,t2,t3,t4,t5⟩:=w3;have t3:(act S i).dB.gy=f:=by rw[show(act S i).dB.gy=((act S i).ax.toNat:Int)from t3,hfr];rfl
 have e:=QL (o:=(act S i).dB) b.ar b.z b.cN hF t1 t3 13;have e2:jr (act S i).dB M=iR (act S i).dB M 13:=by
  unfold jr;rw[dD t4,e,dc]
 have hs:=EX (o:=(act S i).dB) (M:=M) (by rw[t4];decide) (e2.trans e) (by rw[t5];rfl);rw[bZ (by show ¬(0:Int)>0;decide)]at hs;have h:=R8 (D:=D) (T:=S.aJ) (a:=act S i) b hi hs t1 rfl rfl hfr;rw[Pp b hi]at h;unfold Am.aC;rw[hp];simp only[hh,nQ];exact .mk b hi h w1 w2 rfl rfl (b.Bx (c:=.join f) rfl (by rw[hp];rfl) hF _ _ _ _ _) (Lg.nt rfl) (by show(5:Nat)≠0;decide)
theorem US(h1:cT M (act S i).dB=some (o',M'))(h2:o'.ez=1)(h3:o'.az=0)(h4:o'.fh=10):eU S M (i:Int) D=some (CZ none,gE S i {act S i with dB:=o',bq:=ES C 2 1 i 0,aK:=8},M'):=by
 have w1:=(b.jX.wk i hi).self;unfold eU jT an;rw[Lw h1 (LC h2 h3),gu,h4,bZ dO,aM rfl,aM (by rw[jW];exact b.BE hi),R7 b hi (a:={act S i with dB:=o' }) rfl w1,aq];rfl
theorem UT(h1:cT M (act S i).dB=some (o',M'))(h2:o'.ez=1)(h3:o'.az=0)(h4:o'.fh=11)(hin:bM (act S i).done S.aJ.length):eU S M (i:Int) D=some ((⟨0,0,7,(J S.aJ (act S i).done.toNat).parent,(act S i).done,0⟩:aB),gE S i {act S i with dB:=o',ax:=(J S.aJ (act S i).done.toNat).parent,aK:=1},M'):=by
 unfold eU dY jT an;rw[Lw h1 (LC h2 h3),gu,h4,bZ dO,bZ dO,aM rfl,aM (by rw[jW];exact b.BE hi),cL,show J (gE S i {act S i with dB:=o' }).aj i={act S i with dB:=o' }from oa (b.wl hi)];rw[aM (by exact hin),ju,aM (by exact hin)];show some ((⟨0,0,7,(J S.aJ (act S i).done.toNat).parent,(act S i).done,0⟩:aB),({S with aj:=((S.aj.set i _).set i _).set i _}:af),_)=_;rw[iP,iP];rfl
theorem aac{pp c:Nat}(hp:s.pc i= .out pp c):jE C p sz n M (Am.aC C s i d) (eU S M (i:Int) D):=by
 obtain⟨w1,w2,w3⟩:=b.jX.wk i hi;have hg:(Am.view s).g i= .out pp c:=by show Am.sig (s.pc i)=_;rw[hp];rfl
 obtain⟨q1,q2,q3,q4,q5,q6⟩:=b.fi.gU hi hg;have hF:pp<C.F:=Nat.lt_of_lt_of_le q3 b.fi.xC;rw[hp]at w3;obtain⟨a1,a2,t1,t2,t3,t4,t5⟩:=w3;have e:=UO (o:=(act S i).dB) b.ar b.z b.cN hF t1 t3 (b.Nr rfl) 10;have e2:gj (act S i).dB M=jq (act S i).dB M 10:=by
  unfold gj;rw[dD t4,aM t4,e,dc]
 have hs:=EX (o:=(act S i).dB) (M:=M) (by rw[t4];decide) (e2.trans e) (by rw[t5];rfl);unfold Am.aC;rw[hp];simp only;by_cases h0:s.mem (.join pp)-1=0
 ·rw[aM h0];rw[aM h0,aM (by rw[t4];decide)]at hs;have hst:wi ((act S i).dB.az+1)=3:=by rw[t4];rfl
  refine .mk (a:={act S i with dB:={(act S i).dB with az:=wi ((act S i).dB.az+1)}}) b hi ?_ w1 w2 rfl ⟨a1,a2,t1,t2,t3,hst,t5⟩ (b.Bx (c:=.join pp) rfl (by rw[hp];rfl) hF _ _ _ _ _) (Lg.nt rfl) trivial;unfold eU jT an;rw[Lw hs (UN t1 (by show wi ((act S i).dB.az+1)>0;rw[hst];decide)),gu,aM rfl];rfl
 ·rw[bZ h0];rw[bZ h0,bZ (by show ¬(0:Int)>0;decide)]at hs;exact .mk b hi (US b hi hs t1 rfl rfl) w1 w2 rfl ⟨rfl,⟨rfl,rfl,rfl,rfl⟩,rfl,rfl⟩ (b.Bx (c:=.join pp) rfl (by rw[hp];rfl) hF _ _ _ _ _) (Lg.nt rfl) trivial
theorem Xl{pp c:Nat}(hp:s.pc i= .take pp c):jE C p sz n M (Am.aC C s i d) (eU S M (i:Int) D):=by
 obtain⟨w1,w2,w3⟩:=b.jX.wk i hi;have hg:(Am.view s).g i= .take pp c:=by show Am.sig (s.pc i)=_;rw[hp];rfl
 obtain⟨q6,q2,q4⟩:=b.fi.tp i pp c hi hg;have q3:pp<s.nf:=q4▸ b.fi.pr c q2;have hF:pp<C.F:=Nat.lt_of_lt_of_le q3 b.fi.xC;rw[hp]at w3;obtain⟨a1,a2,t1,t2,t3,t4,t5⟩:=w3;have e:=QL (o:=(act S i).dB) b.ar b.z b.cN hF t1 t3 11;have e2:gj (act S i).dB M=iR (act S i).dB M 11:=by
  unfold gj;rw[dD t4,dD t4,e,dc]
 have hs:=EX (o:=(act S i).dB) (M:=M) (by rw[t4];decide) (e2.trans e) (by rw[t5];rfl);rw[bZ (by show ¬(0:Int)>0;decide)]at hs;have LD:(J S.aJ (act S i).done.toNat).parent=pp:=by
  rw[show(act S i).done=c from a2,cL,(b.jX.tk c q2).par,bZ q6];rw[show pp=(s.fr c).par from q4]
 have hin:bM (act S i).done S.aJ.length:=by rw[show(act S i).done=c from a2];exact b.task q2
 unfold Am.aC;rw[hp];simp only;refine .mk b hi ((UT b hi hs t1 rfl rfl hin).trans (nu some (BJ ?_ rfl))) w1 (by show(J S.aJ (act S i).done.toNat).parent=fi (Am.bJ s.hold i (some pp) i);rw[LD,Am.aF];rfl) rfl rfl (b.Bx (c:=.join pp) rfl (by rw[hp];rfl) hF _ _ _ _ _) (Lg.nt rfl) (by show(7:Nat)≠0;decide) (hh:=λj hj=>Am.aA hj);show(⟨0,0,7,(J S.aJ (act S i).done.toNat).parent,(act S i).done,0⟩:aB)=_;rw[LD,show(act S i).done=c from a2];rfl
end
end Mo
end
end Go.Proofs.YtaiffafelihaaaaGreatDoor

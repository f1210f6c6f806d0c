/- plunderlaw11.WorkerJoins answers true for every input of the bulk that the statement names, and leaves its input alone. Conditions: none. -/
import Derived.Test.YtpikpffbcjpmcaaGreatDoorV2
set_option linter.unusedVariables false
set_option linter.unusedSimpArgs false
set_option linter.unusedSectionVars false
set_option maxRecDepth 100000
set_option maxHeartbeats 4000000
set_option autoImplicit true
set_option relaxedAutoImplicit true
namespace Go.Proofs.YtpikpffbcjpmcaaGreatDoor
open Proofs.Tryz
section
namespace Mo
open Go SL GX
section
variable {K:Nat}
abbrev ar(sz:Int)(c:List Int)(l:List aN)(a:Int)(w:Bool):ae:=⟨sz,(c.length:Nat),c,l,a,w⟩
def w7(w:Bool)(l xs:List aN):List aN:=if w then l++xs else l
theorem zQ(w:Bool)(l xs ys:List aN):w7 w (w7 w l xs) ys=w7 w l (xs++ys):=by cases w<;>simp[w7]
theorem JM(w:Bool)(l:List aN):w7 w l []=l:=by cases w<;>simp[w7]
theorem xW(w:Bool)(l xs:List aN):(w7 w l xs).length<=l.length+xs.length:=by cases w<;>simp[w7]
theorem JN{sz:Int}{m:Int}{c:List Int}{l:List aN}{a:Int}{w:Bool}(hl:l.length<=2000000000)(k d x y:Int)(ok:Bool) :
 fZ ⟨sz,m,c,l,a,w⟩ k d x y ok=some ⟨sz,m,c,w7 w l [⟨a,k,d,x,y,ok⟩],a,w⟩:=by
 unfold fZ w7;cases w
 ·rfl
 ·rw[aP rfl,aP (by show(l.length+1)*48<=_;omega)];rfl
theorem JO{sz:Int}{c:List Int}{l:List aN}{a:Int}{w:Bool}(hl:l.length<=2000000000)(hs:sz<=2000000000){n:Int}(h1:1<=n)(hn:(c.length:Int)+n<=sz) :
 fL (ar sz c l a w) n=some (((c.length:Nat):Int),0,ar sz (c++List.replicate n.toNat 0) (w7 w l [⟨a,4,(c.length:Nat),n,0,true⟩]) a w):=by
 unfold fL mh pq;rw[je,ez,eI (by show -9223372036854775808<=sz-(c.length:Nat)/\sz-(c.length:Nat)<=9223372036854775807;omega),ct (by show ¬n>sz-(c.length:Nat);omega),ax,aP rfl,fc,
  aP ⟨I,by show(c.length+n.toNat)*8<=_;omega⟩,JN hl,ax,eI (by show -9223372036854775808<=((c.length:Nat):Int)+n/\((c.length:Nat):Int)+n<=9223372036854775807;omega)]
 simp only[ar,jM,mo];rw[show((c.length+n.toNat:Nat):Int)=((c.length:Nat):Int)+n by omega]
theorem JP{sz:Int}{c:List Int}{l:List aN}{a:Int}{w:Bool}(hs:sz<=2000000000)(hs0:0<=sz)(hc:c.length<=2000000000){n:Int}(h1:1<=n)(hn:¬(c.length:Int)+n<=sz) :
 fL (ar sz c l a w) n=some (0,22,ar sz c l a w):=by
 unfold fL mh;rw[je,ez,eI (by show -9223372036854775808<=sz-(c.length:Nat)/\sz-(c.length:Nat)<=9223372036854775807;omega),aP (by show n>sz-(c.length:Nat);omega),ax,ct eF]
theorem SO{sz:Int}{c:List Int}{l:List aN}{a:Int}{w:Bool}{d:Int}(h0:0<=d)(h1:d<(c.length:Nat)):hH (ar sz c l a w) d=some false:=by
 unfold hH ql;rw[aP h0,ax];simp[h1]
theorem Nl{sz:Int}{c:List Int}{l:List aN}{a:Int}{w:Bool}(hl:l.length<=2000000000){d v:Int}(h0:0<=d)(h1:d<(c.length:Nat)) :
 dU (ar sz c l a w) d v=some (0,ar sz (c.set d.toNat v) (w7 w l [⟨a,1,d,v,0,true⟩]) a w):=by
 unfold dU;rw[SO h0 h1,ax,ct eF,aP ⟨h0,h1⟩,JN hl,ax];simp only[ar,gY]
theorem Yq{sz:Int}{c:List Int}{l:List aN}{a:Int}{w:Bool}(hl:l.length<=2000000000){d v:Int}(h0:0<=d)(h1:d<(c.length:Nat)) :
 iH (ar sz c l a w) d v=some (wi (J c d.toNat+v),0,ar sz (c.set d.toNat (wi (J c d.toNat+v))) (w7 w l [⟨a,3,d,v,wi (J c d.toNat+v),true⟩]) a w):=by
 unfold iH;have h2:d.toNat<c.length:=by omega
 rw[SO h0 h1,ax,ct eF,aP ⟨h0,h1⟩,aP ⟨h0,by rw[gY];exact h1⟩,JN hl,ax,aP ⟨h0,by show d<(((c.set d.toNat _).length:Nat):Int);rw[gY];exact h1⟩];simp only[ar,gY];rw[tB h2]
def pQ(sz:Int):List aN->List aN
 | []=>[]
 | x::xs=>if x.aE=4/\x.Addr+x.A>sz then []else x::pQ sz xs
theorem EF{sz:Int}:∀(xs ys:List aN),(∀x∈xs,x.aE≠4)->pQ sz (xs++ys)=xs++pQ sz ys
 | [],ys,_=>rfl
 | x::xs,ys,h=>by
  rw[sP,pQ,ct (λe=>h x (by simp) e.1),EF xs ys (λy hy=>h y (Ik _ hy))];rfl
theorem LM{sz:Int}:∀(xs ys:List aN),pQ sz xs=xs->pQ sz (xs++ys)=xs++pQ sz ys
 | [],ys,_=>rfl
 | x::xs,ys,h=>by
  rw[pQ]at h;by_cases e:x.aE=4/\x.Addr+x.A>sz
  ·rw[aP e]at h;exact absurd h (by simp)
  ·rw[ct e]at h;rw[sP,pQ,ct e,LM xs ys (List.cons.inj h).2];rfl
def JQ(a:Int)(i:Nat):Nat->List aN
 | 0=>[]
 | d+1=>⟨a,1,2+10*(i:Int),1,0,true⟩::JQ a (i+1) d
theorem LN{a:Int}:∀(d i:Nat),∀x∈JQ a i d,x.aE≠4
 | 0,i,x,h=>by simp[JQ]at h
 | d+1,i,x,h=>by
  rcases List.mem_cons.1 h with rfl | h
  ·show(1:Int)≠4;decide
  ·exact LN d (i+1) x h
theorem O2{a:Int}:∀(d i:Nat),(JQ a i d).length=d
 | 0,i=>rfl
 | d+1,i=>by rw[JQ,zS,O2 d (i+1)]
def Fx(a first:Int):Int->Nat->List aN
 | _,0=>[]
 | J,d+1=>⟨a,4,J,4+first,0,true⟩::⟨a,1,J+2,J+3,0,true⟩::⟨a,1,J+3,first,0,true⟩::Fx a first (J+(4+first)) d
theorem O3{a first:Int}:∀(d:Nat) (J:Int),(Fx a first J d).length=3*d
 | 0,_=>rfl
 | d+1,_=>by rw[Fx,zS,zS,zS,O3 d];omega
structure WR(F first most:Int):Prop where
 f1:1<=F
 f2:F<=4096
 a1:1<=first
 a2:first<=most
 m2:most<=4096
theorem Qn(p:aJ)(args:List Int)(n:Int)(l:eK)(hK:3000<K) :∃e:Int,ni K p args n l=some e/\mP K p args n l=some e/\(e=0∨e=110∨e=111∨e=60∨e=61)/\(e=0->Valid p/\(args.length:Int)=(J p.ah 0).aS/\1<=n/\n<=64/\WR l.cr l.dQ l.jE):=by
 obtain⟨x,e1,e2,e3⟩:=Sx (K:=K) p hK;unfold ni mP;rw[e1,e2,ax,ax];by_cases hx:x.Ow=0
 ·have hv:=e3 hx;have:=hv.n1;have hi:bG (0:Int) p.ah.length:=⟨eF,I⟩;rw[aP hx,aP hx,aP hi,aP hi];by_cases ha:((args.length:Nat):Int)=(J p.ah 0).aS
  ·rw[aP ha,aP ha];unfold qf j7 qk;by_cases h1:n<1
   ·rw[aP h1,ct (show ¬n>=1 by omega)];exact⟨110,rfl,rfl,by simp,λh=>absurd h eF⟩
   ·rw[ct h1,aP (show n>=1 by omega)];by_cases h2:n>64
    ·rw[aP h2,Ij (show ¬n<=64 by omega)];exact⟨110,rfl,rfl,by simp,λh=>absurd h eF⟩
    ·rw[ct h2,tP (show n<=64 by omega),ax,aP rfl];by_cases g1:l.cr<1
     ·rw[aP g1,ct (show ¬l.cr>=1 by omega)];exact⟨111,rfl,rfl,by simp,λh=>absurd h eF⟩
     rw[ct g1,aP (show l.cr>=1 by omega)];by_cases g2:l.cr>4096
     ·rw[aP g2,ct (show ¬l.cr<=4096 by omega)];exact⟨111,rfl,rfl,by simp,λh=>absurd h eF⟩
     rw[ct g2,aP (show l.cr<=4096 by omega)];by_cases g3:l.dQ<1
     ·rw[aP g3,ct (show ¬(1:Int)<=l.dQ by omega)];exact⟨111,rfl,rfl,by simp,λh=>absurd h eF⟩
     rw[ct g3,aP (show(1:Int)<=l.dQ by omega)];by_cases g4:l.dQ>l.jE
     ·rw[aP g4,ct (show ¬l.dQ<=l.jE by omega)];exact⟨111,rfl,rfl,by simp,λh=>absurd h eF⟩
     rw[ct g4,aP (show l.dQ<=l.jE by omega)];by_cases g5:l.jE>4096
     ·rw[tP g5,Ij (show ¬l.jE<=4096 by omega)];exact⟨111,rfl,rfl,by simp,λh=>absurd h eF⟩
     ·rw[Ij g5,tP (show l.jE<=4096 by omega)];exact⟨0,rfl,rfl,.inl rfl,λ_=>⟨hv,ha,I,I,⟨I,I,I,I,I⟩⟩⟩
  ·rw[ct ha,ct ha];exact⟨61,rfl,rfl,by simp,λh=>absurd h eF⟩
 ·rw[ct hx,ct hx];exact⟨60,rfl,rfl,by simp,λh=>absurd h eF⟩
structure GF(N F afs:Nat)(first:Int)(c:List Int):Prop where
 len:c.length=4+10*F+N+N*afs
 c0:J c 0=0
 c1:J c 1=1
 fr:∀f,f<F->∀r,r<10->J c (2+10*f+r)=if r=0 then 1 else 0
 lot:∀r,r<2+N->J c (2+10*F+r)=0
 dq:∀i,i<N->∀r,r<afs->J c (4+10*F+N+i*afs+r)=if r=2 then((4+10*F+N+i*afs+3:Nat):Int)else if r=3 then first else 0
theorem Yr{x y:List Int}(hl:x.length=y.length)(he:∀i,i<x.length->J x i=J y i):x=y:=by
 refine Kp hl λi h1 h2 => ?_;have:=he i h1;unfold J at this;rw[List.getD_eq_getElem?_getD,List.getD_eq_getElem?_getD,List.getElem?_eq_getElem h1,List.getElem?_eq_getElem h2]at this;exact this
theorem GF.eq{N F afs:Nat}(hW:0<afs){first:Int}{c c':List Int}(h:GF N F afs first c)(h':GF N F afs first c'):c=c':=by
 refine Yr (by rw[h.len,h'.len]) λx hx => ?_;rw[h.len]at hx;by_cases e0:x=0
 ·subst e0;rw[h.c0,h'.c0]
 by_cases e1:x=1
 ·subst e1;rw[h.c1,h'.c1]
 by_cases e2:x<2+10*F
 ·rw[show x=2+10*((x-2)/10)+(x-2)%10 by omega,h.fr _ I _ I,h'.fr _ I _ I]
 by_cases e3:x<4+10*F+N
 ·rw[show x=2+10*F+(x-(2+10*F)) by omega,h.lot _ I,h'.lot _ I]
 have hd:=Nat.div_add_mod (x-(4+10*F+N)) afs;have hm:=Nat.mod_lt (x-(4+10*F+N)) hW;have hi:(x-(4+10*F+N))/afs<N:=by rw[Nat.div_lt_iff_lt_mul hW];omega
 rw[Nat.mul_comm]at hd;rw[show x=4+10*F+N+(x-(4+10*F+N))/afs*afs+(x-(4+10*F+N))%afs by omega,h.dq _ hi _ hm,h'.dq _ hi _ hm]
end
section
variable {K:Nat}
theorem AX{l:List Int}{i k:Nat}{x:Int}(h:i<l.length):J (l.set i x) k=if k=i then x else J l k:=pV h
theorem SP{sz a:Int}{w:Bool}{F:Nat}(hF:F<=4096):∀(d k i:Nat) (c:List Int) (l:List aN),i+d=F->d<k->2+10*F<=c.length->l.length+d<=1000000000->
 ∃c',ju K (F:Int) 1 k (ar sz c l a w) (i:Int)=some (⟨1,F⟩,0,ar sz c' (w7 w l (JQ a i d)) a w)/\c'.length=c.length/\(∀f,i<=f->f<F->J c' (2+10*f)=1)/\(∀x,(∀f,i<=f->f<F->x≠2+10*f)->J c' x=J c x)
 | d,k,i,c,l,hd,hk,hc,hl=>by
  obtain⟨k,rfl⟩ :∃m,k=m+1:=⟨k-1,I⟩;rw[ju];by_cases hi:i<F
  ·obtain⟨d,rfl⟩ :∃m,d=m+1:=⟨d-1,I⟩;unfold gH;rw[pR,eI (x:=(1:Int)+1) I,eI (x:=(i:Int)*10) I,eI I,ax,Nl I I I,fc,aP rfl,Ca I];have e:((1:Int)+1+(i:Int)*10).toNat=2+10*i:=by omega
   rw[e];have h1:=xW w l [(⟨a,1,1+1+(i:Int)*10,1,0,true⟩:aN)];simp only[FH]at h1;obtain⟨c',r1,r2,r3,r4⟩:=SP hF d k (i+1) (c.set (2+10*i) 1) (w7 w l [⟨a,1,1+1+(i:Int)*10,1,0,true⟩]) I I (by rw[gY];exact hc) I;refine⟨c',?_,by rw[r2,gY],λf h1 h2 => ?_,λx hx => ?_⟩
   ·rw[r1,zQ,JQ,show(1:Int)+1+(i:Int)*10=2+10*(i:Int) by omega];rfl
   ·by_cases e:f=i
    ·subst e;rw[r4 _ (λg h3 h4=>I),AX I,aP rfl]
    ·exact r3 f I h2
   ·rw[r4 x (λf h3 h4=>hx f I h4),AX I,ct (hx i (j5 _) hi)]
  ·rw[ez];obtain rfl:d=0:=by omega
   exact⟨c,by rw[JQ,JM],rfl,λf h1 h2=>I,λ_ _=>rfl⟩
def Uj(B afs:Nat)(most:Int)(i:Nat):Nat->List ck
 | 0=>[]
 | d+1=>⟨((B+i*afs:Nat):Int),most⟩::Uj B afs most (i+1) d
theorem O4{B afs:Nat}{most:Int}:∀(d i:Nat),(Uj B afs most i d).length=d
 | 0,i=>rfl
 | d+1,i=>by rw[Uj,zS,O4 d (i+1)]
theorem SQ{B afs:Nat}{most:Int}:∀(d i j:Nat),j<d->J (Uj B afs most i d) j=⟨((B+(i+j)*afs:Nat):Int),most⟩
 | d+1,i,0,_=>by rw[Uj];rfl
 | d+1,i,j+1,h=>by
  have:=SQ (B:=B) (afs:=afs) (most:=most) d (i+1) j I;rw[show i+1+j=i+(j+1) by omega]at this;exact this
theorem adJ{sz a:Int}{w:Bool}{kY:eK}(hl:WR kY.cr kY.dQ kY.jE)(hs:sz<=2000000000){c:List Int}{l:List aN}(hc:c.length<=1000000000)(hll:l.length<=1000000000) :
 ((c.length:Int)+(4+kY.dQ)<=sz->oR (ar sz c l a w) kY.dQ kY.jE=some (⟨((c.length:Nat):Int),kY.jE⟩,0,ar sz (((c++List.replicate (4+kY.dQ).toNat 0).set (c.length+2) ((c.length:Nat)+3)).set (c.length+3) kY.dQ)
  (w7 w l [⟨a,4,(c.length:Nat),4+kY.dQ,0,true⟩,⟨a,1,(c.length:Nat)+2,(c.length:Nat)+3,0,true⟩,⟨a,1,(c.length:Nat)+3,kY.dQ,0,true⟩]) a w))/\
 (0<=sz->¬(c.length:Int)+(4+kY.dQ)<=sz->oR (ar sz c l a w) kY.dQ kY.jE=some (⟨0,0⟩,22,ar sz c l a w)):=by
 have h1:=hl.a1;have h2:=hl.a2;have h3:=hl.m2;unfold oR sx;rw[aP h1,aP h2,tP h3,ax,aP rfl,eI (x:=(4:Int)+kY.dQ) I];refine⟨λhf => ?_,λh0 hf => ?_⟩
 ·have k1:=xW w l [(⟨a,4,(c.length:Nat),4+kY.dQ,0,true⟩:aN)];simp only[FH]at k1;rw[JO I hs I hf,dw,aP rfl,eI (x:=((c.length:Nat):Int)+2) I,eI (x:=((c.length:Nat):Int)+3) I,Nl I I (by rw[jM,mo];omega),fc,aP rfl];have k2:=xW w (w7 w l [(⟨a,4,(c.length:Nat),4+kY.dQ,0,true⟩:aN)]) [(⟨a,1,(c.length:Nat)+2,(c.length:Nat)+3,0,true⟩:aN)];simp only[FH]at k2;rw[Nl I I (by rw[gY,jM,mo];omega),fc,aP rfl,zQ,zQ,show(((c.length:Nat):Int)+2).toNat=c.length+2 by omega,show(((c.length:Nat):Int)+3).toNat=c.length+3 by omega]
  rfl
 ·rw[JP hs h0 I I hf,dw,ct eF]
theorem abg{sz a:Int}{w:Bool}{kY:eK}(hl:WR kY.cr kY.dQ kY.jE)(hs:sz<=1000000000)(hs0:0<=sz){N B afs:Nat}(hN:N<=64)(hB:B<=100000)(hW:(afs:Int)=4+kY.dQ){O:ag}{iP:Int}{qZ:aY}{r32:eZ}:∀(d k i:Nat) (c:List Int) (l:List aN) (D:List ck),i+d=N->d<k->c.length=B+i*afs->D.length=i->l.length+3*d<=1000000000->
 (((B+N*afs:Nat):Int)<=sz->∃c',jv K O (N:Int) kY iP qZ r32 k (ar sz c l a w) D (i:Int)=some (.inl (ar sz c' (w7 w l (Fx a kY.dQ (c.length:Nat) d)) a w,D++Uj B afs kY.jE i d))/\pQ sz (Fx a kY.dQ (c.length:Nat) d)=Fx a kY.dQ (c.length:Nat) d/\c'.length=B+N*afs/\(∀x,x<c.length->J c' x=J c x)/\
   (∀j,i<=j->j<N->∀r,r<afs->J c' (B+j*afs+r)=if r=2 then((B+j*afs+3:Nat):Int)else if r=3 then kY.dQ else 0))/\
 (¬((B+N*afs:Nat):Int)<=sz->∃X c',jv K O (N:Int) kY iP qZ r32 k (ar sz c l a w) D (i:Int)=some (.inr (22,X,ar sz c' (w7 w l (pQ sz (Fx a kY.dQ (c.length:Nat) d))) a w))/\(∀ys,pQ sz (Fx a kY.dQ (c.length:Nat) d++ys)=pQ sz (Fx a kY.dQ (c.length:Nat) d))∨((B+i*afs:Nat):Int)>sz/\d=0)
 | d,k,i,c,l,D,hd,hk,hc,hD,hll=>by
  obtain⟨k,rfl⟩ :∃m,k=m+1:=⟨k-1,I⟩;have h1:=hl.a1;have h2:=hl.a2;have h3:=hl.m2;have hiW:i*afs<=N*afs:=rm afs I;have hNW:N*afs<=64*4100:=Nat.mul_le_mul hN I;rw[jv];by_cases hi:i<N
  ·obtain⟨d,rfl⟩ :∃m,d=m+1:=⟨d-1,I⟩;have hsW:(i+1)*afs=i*afs+afs:=Ez i afs;have ae9:(i+1)*afs<=N*afs:=rm afs I;have Uk:(((c++List.replicate (4+kY.dQ).toNat (0:Int)).set (c.length+2) ((c.length:Nat)+3)).set (c.length+3) kY.dQ).length=B+(i+1)*afs:=by
    rw[gY,gY,jM,mo];omega
   rw[pR];obtain⟨n1,n2⟩:=adJ (a:=a) (w:=w) hl (by omega:sz<=2000000000) (c:=c) (l:=l) I I;by_cases hf:(c.length:Int)+(4+kY.dQ)<=sz
   ·rw[n1 hf,dw,aP rfl,pR,Ca I];have Vf:∀ys,pQ sz ((⟨a,4,(c.length:Nat),4+kY.dQ,0,true⟩:aN)::(⟨a,1,(c.length:Nat)+2,(c.length:Nat)+3,0,true⟩:aN)::(⟨a,1,(c.length:Nat)+3,kY.dQ,0,true⟩:aN)::ys)=(⟨a,4,(c.length:Nat),4+kY.dQ,0,true⟩:aN)::(⟨a,1,(c.length:Nat)+2,(c.length:Nat)+3,0,true⟩:aN)::(⟨a,1,(c.length:Nat)+3,kY.dQ,0,true⟩:aN)::pQ sz ys:=λys=>by
     rw[pQ,ct (λh=>absurd h.2 (by show ¬((c.length:Nat):Int)+(4+kY.dQ)>sz;omega)),pQ,ct (λh=>absurd h.1 (by show ¬(1:Int)=4;decide)),pQ,ct (λh=>absurd h.1 (by show ¬(1:Int)=4;decide))]
    have k1:=xW w l [(⟨a,4,(c.length:Nat),4+kY.dQ,0,true⟩:aN),(⟨a,1,(c.length:Nat)+2,(c.length:Nat)+3,0,true⟩:aN),(⟨a,1,(c.length:Nat)+3,kY.dQ,0,true⟩:aN)];simp only[zS,yj]at k1;obtain⟨XB,XC⟩:=abg hl hs hs0 hN hB hW (O:=O) (iP:=iP) (qZ:=qZ) (r32:=r32) (a:=a) (w:=w) d k (i+1) _ (w7 w l [(⟨a,4,(c.length:Nat),4+kY.dQ,0,true⟩:aN),(⟨a,1,(c.length:Nat)+2,(c.length:Nat)+3,0,true⟩:aN),(⟨a,1,(c.length:Nat)+3,kY.dQ,0,true⟩:aN)]) (D++[⟨((c.length:Nat):Int),kY.jE⟩]) I I Uk (by simp[hD]) I;have el:((B+(i+1)*afs:Nat):Int)=((c.length:Nat):Int)+(4+kY.dQ):=by omega
    rw[Uk,el]at XB XC;refine⟨λhfit => ?_,λhno => ?_⟩
    ·obtain⟨c',r1,r0,r2,r3,r4⟩:=XB hfit;refine⟨c',?_,?_,r2,λx hx => ?_,λj h5 h6 r h7 => ?_⟩
     ·rw[r1,zQ,Fx,Uj,pS,hc];rfl
     ·rw[Fx,Vf,r0]
     ·rw[r3 x I,AX (by rw[gY,jM,mo];omega),ez,AX (by rw[jM,mo];omega),ez,rV hx]
     ·by_cases e:j=i
      ·subst e;rw[r3 _ I,<-hc,AX (by rw[gY,jM,mo];omega),AX (by rw[jM,mo];omega),vw I,show c.length+r-c.length=r by omega,zd I];by_cases e2:r=2
       ·subst e2;rw[ez,aP rfl,aP rfl];omega
       ·by_cases e3:r=3
        ·subst e3;rw[aP rfl,ez,aP rfl]
        ·rw[ez,ez,ct e2,ct e3]
      ·exact r4 j I h6 r h7
    ·obtain⟨X,c',⟨r1,r2⟩ | r1⟩:=XC hno
     ·exact⟨X,c',.inl ⟨by rw[r1,zQ,Fx,Vf];rfl,λys=>by rw[Fx,sP,sP,sP,Vf,Vf,r2 ys]⟩⟩
     ·exfalso;omega
   ·have e2:=n2 hs0 hf;refine⟨λhfit=>by exfalso;omega,λhno => ?_⟩;rw[e2,dw,ct eF];have e3:w7 w l (pQ sz (Fx a kY.dQ (c.length:Nat) (d+1)))=l:=by
     rw[Fx,pQ,aP ⟨rfl,by show((c.length:Nat):Int)+(4+kY.dQ)>sz;omega⟩,JM]
    rw[e3];exact⟨_,c,.inl ⟨rfl,λys=>by rw[Fx,sP,pQ,pQ,aP ⟨rfl,by show((c.length:Nat):Int)+(4+kY.dQ)>sz;omega⟩,aP ⟨rfl,by show((c.length:Nat):Int)+(4+kY.dQ)>sz;omega⟩]⟩⟩
  ·obtain rfl:d=0:=by omega
   obtain rfl:i=N:=by omega
   rw[ez];refine⟨λhfit=>⟨c,by rw[Fx,JM,Uj,zH],rfl,hc,λ_ _=>rfl,λj h5 h6=>I⟩,λhno=>⟨O,c,.inr ⟨I,rfl⟩⟩⟩
def tF(a:Int)(N F:Nat)(first:Int):List aN:=
 [⟨a,4,0,1,0,true⟩,⟨a,4,1,1+10*(F:Int),0,true⟩]++JQ a 0 F++(⟨a,4,2+10*(F:Int),2+(N:Int),0,true⟩::Fx a first (4+10*F+N:Nat) N++[⟨a,3,1,1,1,true⟩])
theorem Nm{sz a:Int}{w:Bool}{F:Nat}(h1:1<=F)(h2:F<=4096)(hs:sz<=1000000000)(hs0:0<=sz)(hK:5000<K){l:List aN}(hl:l.length<=100) :
 ((2+10*F:Int)<=sz->∃c,n6 K (ar sz [0] l a w) (F:Int)=some (⟨1,F⟩,0,ar sz c (w7 w l (⟨a,4,1,1+10*(F:Int),0,true⟩::JQ a 0 F)) a w)/\c.length=2+10*F/\(∀f,f<F->J c (2+10*f)=1)/\(∀x,x<2+10*F->(∀f,f<F->x≠2+10*f)->J c x=0))/\
 (¬(2+10*F:Int)<=sz->n6 K (ar sz [0] l a w) (F:Int)=some (⟨0,0⟩,22,ar sz [0] l a w)):=by
 unfold n6 q7;rw[ct (show ¬(F:Int)<1 by omega),ct (show ¬(F:Int)>4096 by omega),eI (x:=(F:Int)*10) I,eI (x:=1+(F:Int)*10) I,ax,ct (show ¬1+(F:Int)*10=0 by omega),ax];refine⟨λhf => ?_,λhf => ?_⟩
 ·rw[JO I I I (by show((1:Nat):Int)+(1+(F:Int)*10)<=sz;omega),dw,aP rfl];have k1:=xW w l [(⟨a,4,1,1+(F:Int)*10,0,true⟩:aN)];simp only[FH]at k1;obtain⟨c,r1,r2,r3,r4⟩:=SP (K:=K) (sz:=sz) (a:=a) (w:=w) h2 F K 0 ([0]++List.replicate (1+(F:Int)*10).toNat 0) (w7 w l [⟨a,4,1,1+(F:Int)*10,0,true⟩]) I I (by rw[jM,mo];simp;omega) I;rw[pT]at r1;refine⟨c,?_,by rw[r2,jM,mo];simp;omega,λf hf=>r3 f (BT _) hf,λx hx hn => ?_⟩
  ·show ju K (F:Int) ((1:Nat):Int) K (ar sz ([0]++List.replicate (1+(F:Int)*10).toNat 0) (w7 w l [⟨a,4,((1:Nat):Int),1+(F:Int)*10,0,true⟩]) a w) 0=_;rw[show((1:Nat):Int)=1 from rfl,r1,zQ,show 1+(F:Int)*10=1+10*(F:Int) by omega];rfl
  ·rw[r4 x (λf _ h=>hn f h)];by_cases e:x=0
   ·subst e;rfl
   ·rw[vw (by simp;omega),zd (by simp;omega)]
 ·rw[JP I hs0 (by simp) I (by show ¬((1:Nat):Int)+(1+(F:Int)*10)<=sz;omega),dw,ct eF]
theorem SR{sz a:Int}{w:Bool}{N:Nat}(h1:1<=N)(h2:N<=64)(hs:sz<=1000000000)(hs0:0<=sz){c:List Int}(hc:c.length<=100000){l:List aN}(hl:l.length<=100000) :
 ((c.length+2+N:Int)<=sz->qm (ar sz c l a w) (N:Int)=some (⟨(c.length:Nat),N⟩,0,ar sz (c++List.replicate (2+N) 0) (w7 w l [⟨a,4,(c.length:Nat),2+(N:Int),0,true⟩]) a w))/\
 (¬(c.length+2+N:Int)<=sz->qm (ar sz c l a w) (N:Int)=some (⟨0,0⟩,22,ar sz c l a w)):=by
 unfold qm mH;rw[ct (show ¬(N:Int)<1 by omega),ct (show ¬(N:Int)>64 by omega),eI (x:=2+(N:Int)) I,ax,ct (show ¬2+(N:Int)=0 by omega),ax];refine⟨λhf => ?_,λhf => ?_⟩
 ·rw[JO I I I I,dw,aP rfl,show(2+(N:Int)).toNat=2+N by omega]
 ·rw[JP I hs0 I I I,dw,ct eF]
theorem Ys{sz a:Int}{w:Bool}{N F afs:Nat}{kY:eK}(hl:WR kY.cr kY.dQ kY.jE)(hF:kY.cr=F)(ZL:1<=N)(hN:N<=64)(hW:(afs:Int)=4+kY.dQ)(hs:sz<=1000000000)(hs0:0<=sz)(hK:5000<K){O:ag}(hp:O.dz=[]) :
 (((4+10*F+N+N*afs:Nat):Int)<=sz->∃c,n7 K O (ar sz [] [] a w) (N:Int) kY=some (0,⟨O.code,0,1,F,2+10*(F:Int),N,Uj (4+10*F+N) afs kY.jE 0 N,O.aG,O.ai,O.value,O.left⟩,ar sz c (w7 w [] (tF a N F kY.dQ)) a w)/\pQ sz (tF a N F kY.dQ)=tF a N F kY.dQ/\GF N F afs kY.dQ c)/\
 (¬((4+10*F+N+N*afs:Nat):Int)<=sz->∃X c,n7 K O (ar sz [] [] a w) (N:Int) kY=some (22,X,ar sz c (w7 w [] (pQ sz (tF a N F kY.dQ))) a w)):=by
 have f1:=hl.f1;have f2:=hl.f2;have h1:=hl.a1;have h2:=hl.a2;have h3:=hl.m2;have hNW:N*afs<=64*4100:=Nat.mul_le_mul hN I;unfold n7;rw[hF];by_cases s1:¬(1:Int)<=sz
 ·rw[JP (c:=[]) I hs0 (by simp) I (by show ¬((0:Nat):Int)+1<=sz;omega),dw,ct eF];refine⟨λh=>by exfalso;omega,λ_ => ?_⟩;have:w7 w [] (pQ sz (tF a N F kY.dQ))=[]:=by
   rw[tF,sP,sP,pQ,aP ⟨rfl,by show(0:Int)+1>sz;omega⟩,JM]
  rw[this];exact⟨_,[],rfl⟩
 have s1:=Decidable.not_not.1 s1;rw[JO (c:=[]) (by simp) I I (by show((0:Nat):Int)+1<=sz;omega),dw,aP rfl];have k0:=xW w [] [(⟨a,4,(([]:List Int).length:Nat),1,0,true⟩:aN)];simp only[FH,yj]at k0;obtain⟨fr1,fr2⟩:=Nm (K:=K) (sz:=sz) (a:=a) (w:=w) (F:=F) I I hs hs0 hK (l:=w7 w [] [(⟨a,4,(([]:List Int).length:Nat),1,0,true⟩:aN)]) (by simp only[yj];omega);have Wc:pQ sz (tF a N F kY.dQ)=⟨a,4,0,1,0,true⟩::pQ sz (⟨a,4,1,1+10*(F:Int),0,true⟩::JQ a 0 F++(⟨a,4,2+10*(F:Int),2+(N:Int),0,true⟩::Fx a kY.dQ (4+10*F+N:Nat) N++[⟨a,3,1,1,1,true⟩])):=by
  rw[tF,sP,sP,pQ,ct (λh=>absurd h.2 (by show ¬(0:Int)+1>sz;omega))];rfl
 have e0:ar sz ([]++List.replicate (1:Int).toNat 0) (w7 w [] [(⟨a,4,(([]:List Int).length:Nat),1,0,true⟩:aN)]) a w=ar sz [0] (w7 w [] [(⟨a,4,(([]:List Int).length:Nat),1,0,true⟩:aN)]) a w:=rfl;rw[e0];by_cases s2:¬(2+10*F:Int)<=sz
 ·rw[fr2 s2,dw,ct eF];refine⟨λh=>by exfalso;omega,λ_ => ?_⟩;rw[Wc,sP,pQ,aP ⟨rfl,by show(1:Int)+(1+10*(F:Int))>sz;omega⟩];exact⟨_,_,rfl⟩
 have s2:=Decidable.not_not.1 s2;obtain⟨c1,q1,q2,q3,q4⟩:=fr1 s2;rw[q1,dw,aP rfl];have Kz:pQ sz (tF a N F kY.dQ)=⟨a,4,0,1,0,true⟩::⟨a,4,1,1+10*(F:Int),0,true⟩::(JQ a 0 F++pQ sz (⟨a,4,2+10*(F:Int),2+(N:Int),0,true⟩::Fx a kY.dQ (4+10*F+N:Nat) N++[⟨a,3,1,1,1,true⟩])):=by
  rw[Wc,sP,pQ,ct (λh=>absurd h.2 (by show ¬(1:Int)+(1+10*(F:Int))>sz;omega)),EF _ _ (LN F 0)]
 have kf:(⟨a,4,1,1+10*(F:Int),0,true⟩::JQ a 0 F:List aN).length=F+1:=by rw[zS,O2]
 have k1:=xW w (w7 w [] [(⟨a,4,(([]:List Int).length:Nat),1,0,true⟩:aN)]) (⟨a,4,1,1+10*(F:Int),0,true⟩::JQ a 0 F);rw[kf]at k1;obtain⟨pk1,pk2⟩:=SR (sz:=sz) (a:=a) (w:=w) (N:=N) ZL hN hs hs0 (c:=c1) I (l:=w7 w (w7 w [] [(⟨a,4,(([]:List Int).length:Nat),1,0,true⟩:aN)]) (⟨a,4,1,1+10*(F:Int),0,true⟩::JQ a 0 F)) (by simp only[yj];simp only[yj]at k1;omega);by_cases s3:¬(c1.length+2+N:Int)<=sz
 ·rw[pk2 s3,dw,ct eF];refine⟨λh=>by exfalso;omega,λ_ => ?_⟩;rw[Kz,sP,pQ,aP ⟨rfl,by show 2+10*(F:Int)+(2+(N:Int))>sz;omega⟩,zH];rw[zQ];exact⟨_,c1,rfl⟩
 have s3:=Decidable.not_not.1 s3;rw[pk1 s3,dw,aP rfl,hp,zQ,zQ];have Uk:(c1++List.replicate (2+N) 0).length=4+10*F+N:=by rw[jM,mo];omega
 have kl:∀X:List aN,X.length<=100000->(w7 w [] X).length<=100000:=λX hX=>G5 (xW w [] X) (by simpa using hX);obtain⟨d1,d2⟩:=abg (K:=K) hl hs hs0 hN (B:=4+10*F+N) I hW (O:=O) (iP:=((([]:List Int).length:Nat):Int)) (qZ:=⟨1,F⟩) (r32:=⟨(c1.length:Nat),N⟩) (a:=a) (w:=w) N K 0 (c1++List.replicate (2+N) 0)
  (w7 w [] ([(⟨a,4,(([]:List Int).length:Nat),1,0,true⟩:aN)]++(⟨a,4,1,1+10*(F:Int),0,true⟩::JQ a 0 F++[⟨a,4,(c1.length:Nat),2+(N:Int),0,true⟩]))) [] I I (by rw[Uk];omega) rfl (by
   have:=kl ([(⟨a,4,(([]:List Int).length:Nat),1,0,true⟩:aN)]++(⟨a,4,1,1+10*(F:Int),0,true⟩::JQ a 0 F++[⟨a,4,(c1.length:Nat),2+(N:Int),0,true⟩])) (by rw[jM,jM,kf];simp;omega);omega)
 rw[Uk]at d1 d2;rw[pT]at d1 d2;have hc3:pQ sz (tF a N F kY.dQ)=⟨a,4,0,1,0,true⟩::⟨a,4,1,1+10*(F:Int),0,true⟩::(JQ a 0 F++(⟨a,4,2+10*(F:Int),2+(N:Int),0,true⟩::pQ sz (Fx a kY.dQ (4+10*F+N:Nat) N++[⟨a,3,1,1,1,true⟩]))):=by
  rw[Kz,sP,pQ,ct (λh=>absurd h.2 (by show ¬2+10*(F:Int)+(2+(N:Int))>sz;omega))]
 by_cases s4:¬((4+10*F+N+N*afs:Nat):Int)<=sz
 ·refine⟨λh=>absurd h s4,λ_ => ?_⟩;obtain⟨X,c',⟨r1,r2⟩ | r1⟩:=d2 s4
  ·rw[r1,Uv,zQ,hc3,r2];refine⟨X,c',?_⟩
   congr 5
   rw[q2];simp only[sP,yQ,pS,yj];rw[show((2+10*F:Nat):Int)=2+10*(F:Int) by omega];rfl
  ·exfalso;omega
 have s4:=Decidable.not_not.1 s4;refine⟨λ_ => ?_,λh=>absurd s4 h⟩;obtain⟨c',r1,r0,r2,r3,r4⟩:=d1 s4;have b0:J c' 1=0:=by
  rw[r3 1 I,rV I,q4 1 I (λf _=>I)]
 have kk:∀X:List aN,X.length<=100000->(w7 w [] X).length<=100000:=λX hX=>G5 (xW w [] X) (by simpa using hX);have kd:=O3 (a:=a) (first:=kY.dQ) N (4+10*F+N:Nat);have ea:∀l:List aN,l.length<=100000->(eV (mR (⟨1,F⟩:aY)) λZG=>sQ (da (ar sz c' l a w) ZG) λMH Ud=>sQ (iQ MH) λRe IF=>some (Re,Ud))=some (4,ar sz (c'.set 1 1) (w7 w l [⟨a,3,1,1,1,true⟩]) a w):=λl hl=>by
  unfold mR j8 pz;simp only[aP (show(1:Int)>=0 by decide),aP (show(F:Int)>=1 by omega),aP (show(F:Int)<=4096 by omega),aP (show(0:Int)>=0 by decide),tP (show(0:Int)<F by omega),ax,if_true,ct (show ¬(0:Int)<0 by decide),ct (show ¬(0:Int)>=8 by decide)];unfold da jz ou
  dsimp only
  rw[ct eF,aP rfl,ax,Yq I eF I,dw,aP rfl];rw[show(1:Int).toNat=1 from rfl,b0,show wi ((0:Int)+1)=1 from rfl,aP eF,tP (show(1:Int)<=(F:Int) by omega),ax,aP rfl]
  rfl
 have ea2:∀(l:List aN),l.length<=100000->∀(f:Int->ae->Option (Int×ag×ae)),(eV (mR (⟨1,F⟩:aY)) λZG=>sQ (da (ar sz c' l a w) ZG) λMH Ud=>sQ (iQ MH) λRe IF=>f Re Ud)=f 4 (ar sz (c'.set 1 1) (w7 w l [⟨a,3,1,1,1,true⟩]) a w):=λl hl f=>by
  have h:=ea l hl;cases e1:mR (⟨1,F⟩:aY)with
  | none=>rw[e1]at h;simp[eV]at h
  | some x =>
   rw[e1,ax]at h;rw[ax];cases e2:da (ar sz c' l a w) x with
   | none=>rw[e2]at h;simp[sQ]at h
   | some y =>
    obtain⟨y1,y2⟩:=y;rw[e2,fc]at h;rw[fc];cases e3:iQ y1 with
    | none=>rw[e3]at h;simp[sQ]at h
    | some u =>
     obtain⟨u1,u2⟩:=u;rw[e3,fc]at h;rw[fc];have:=Prod.mk.inj (Option.some.inj h);rw[this.1,this.2]
 have hlen:∀X:List aN,X.length<=100000->(w7 w (w7 w [] X) (Fx a kY.dQ (4+10*F+N:Nat) N)).length<=200000:=λX hX=>by
  have:=xW w (w7 w [] X) (Fx a kY.dQ (4+10*F+N:Nat) N);have:=kk X hX;omega
 rw[r1,Uu,zQ,ea2 _ (kk _ (by rw[jM,jM,jM,kf,kd];simp;omega)) (λRe Ud=>if Re=4 then some (0,_,Ud)else some (22,_,Ud)),aP rfl];have adK:pQ sz (tF a N F kY.dQ)=tF a N F kY.dQ:=by
  rw[hc3];rw[LM _ _ r0,show pQ sz [(⟨a,3,1,1,1,true⟩:aN)]=[⟨a,3,1,1,1,true⟩] by rw[pQ,ct (λh=>absurd h.1 (by show ¬(3:Int)=4;decide)),pQ],tF];simp only[sP,yQ,pS]
 refine⟨c'.set 1 1,?_,adK,?_⟩
 ·rw[zQ,q2];refine mX some (Ak rfl (Ak ?_ ?_))
  ·simp only[yQ,yj];rw[show((2+10*F:Nat):Int)=2+10*(F:Int) by omega];rfl
  ·have:(([(⟨a,4,(([]:List Int).length:Nat),1,0,true⟩:aN)]++(⟨a,4,1,1+10*(F:Int),0,true⟩::JQ a 0 F++[⟨a,4,((2+10*F:Nat):Int),2+(N:Int),0,true⟩]))++Fx a kY.dQ (4+10*F+N:Nat) N)++[⟨a,3,1,1,1,true⟩]=tF a N F kY.dQ:=by
    rw[tF,show((2+10*F:Nat):Int)=2+10*(F:Int) by omega];simp only[sP,yQ,pS,yj];rfl
   rw[this]
 ·have EM:(c'.set 1 (1:Int)).length=c'.length:=gY;refine⟨by rw[EM,r2],?_,?_,λf hf r hr => ?_,λr hr => ?_,λi hi r hr => ?_⟩
  ·rw[AX I,ct eF,r3 0 I,rV I,q4 0 I (λf _=>I)]
  ·rw[AX I,aP rfl]
  ·rw[AX I,ez,r3 _ I,rV I];by_cases e:r=0
   ·subst e;rw[aP rfl];exact q3 f hf
   ·rw[ct e,q4 _ I (λg _=>I)]
  ·rw[AX I,ez,r3 _ I,vw I,zd I]
  ·have:=rm afs (show i+1<=N by omega);rw[Ez]at this;rw[AX I,ez];exact r4 i (BT _) hi r hr
end
section
variable {K:Nat}
theorem xy{α:Type}[Inhabited α]{l:List α}{i:Nat}(h:i<l.length):l.drop i=J l i::l.drop (i+1):=by
 rw[N9 h];unfold J;rw[List.getD_eq_getElem?_getD,List.getElem?_eq_getElem h];rfl
theorem SS{p:aJ}(hv:Valid p):∀(d k i:Nat) (l:List aC),i+d=p.ah.length->d<k->l.length=i->hO K p k l (i:Int)=some (l++p.ah.drop i)
 | d,k,i,l,hd,hk,hl=>by
  obtain⟨k,rfl⟩ :∃m,k=m+1:=⟨k-1,I⟩;have:=hv.n32;rw[hO];by_cases hi:i<p.ah.length
  ·obtain⟨d,rfl⟩ :∃m,d=m+1:=⟨d-1,I⟩;have:=(hv.Jx i hi).Jv;rw[pR,aP ⟨I,I⟩,cO,aP (by simp;omega),pR,Ca I,yQ,SS hv d k (i+1) _ I I (by simp[hl]),xy hi,pS];rfl
  ·rw[ez,yg I,zH]
def adL:bM:=⟨0,0,0,0,0,0,0,0,0,0,0,0,0,false,0,0⟩
def adM:cg:=⟨0,0,0,0,0,0,0,0,0⟩
def adN:bR:=⟨0,0,0,0,0,0,0,0,0,List.replicate 64 ⟨0,0⟩,⟨0,0,0,0,0,0,0,0,0,0,0,0,0,false,0,0⟩⟩
def Nn(i:Int):bz:=⟨i,9,-1,0,0,0,0,0,adL,adM,adN,false⟩
def xX(i:Nat):Nat->List bz
 | 0=>[]
 | d+1=>Nn i::xX (i+1) d
theorem zq:∀(d i:Nat),(xX i d).length=d
 | 0,i=>rfl
 | d+1,i=>by rw[xX,zS,zq d (i+1)]
theorem Ef:∀(d i j:Nat),j<d->J (xX i d) j=Nn ((i+j:Nat):Int)
 | d+1,i,0,_=>rfl
 | d+1,i,j+1,h=>by
  have:=Ef d (i+1) j I;rw[show i+1+j=i+(j+1) by omega]at this;exact this
theorem LP{N:Nat}(hN:N<=64):∀(d k i:Nat) (l:List bz),i+d=N->d<k->l.length=i->hU K (N:Int) k l (i:Int)=some (l++xX i d)
 | d,k,i,l,hd,hk,hl=>by
  obtain⟨k,rfl⟩ :∃m,k=m+1:=⟨k-1,I⟩;rw[hU];by_cases hi:i<N
  ·obtain⟨d,rfl⟩ :∃m,d=m+1:=⟨d-1,I⟩;rw[pR,pR,Ca I,LP hN d k (i+1) _ I I (by simp[hl]),xX,pS];rfl
  ·rw[ez];obtain rfl:d=0:=by omega
   rw[xX,zH]
def SU:aR:=⟨0,0,0,0,0,0,List.replicate 16 0⟩
def abh(p:aJ)(args:List Int)(N F afs:Nat)(most:Int):ag:=
 { code:=p.ah,result:=0,dA:=1,cJ:=F,fl:=2+10*(F:Int),cH:=N,dz:=Uj (4+10*F+N) afs most 0 N,
   aG:=(List.replicate F SU).set 0 ⟨0,0,-1,0,0,1,CQ 16 args (List.replicate 16 0)⟩,
   ai:=(xX 0 N).set 0 {Nn 0 with au:=0,from_:=-1,aD:=0},value:=0,left:=false}
theorem Np{α:Type}{l:List α}{i:Nat}{x y:α}:(l.set i x).set i y=l.set i y:=by rw[iB]
theorem Yt{sz a:Int}{w:Bool}{p:aJ}{args:List Int}{N F afs:Nat}{kY:eK}(hv:Valid p)(ha:(args.length:Int)=(J p.ah 0).aS)(hl:WR kY.cr kY.dQ kY.jE)(hF:kY.cr=F)(ZL:1<=N)(hN:N<=64)(hW:(afs:Int)=4+kY.dQ)(hs:sz<=1000000000)(hs0:0<=sz)(hK:5000<K)(hr:mP K p args (N:Int) kY=some 0) :
 (((4+10*F+N+N*afs:Nat):Int)<=sz->∃c,lE K (ar sz [] [] a w) p args (N:Int) kY=some (some (abh p args N F afs kY.jE),0,ar sz c (w7 w [] (tF a N F kY.dQ)) a w)/\pQ sz (tF a N F kY.dQ)=tF a N F kY.dQ/\GF N F afs kY.dQ c)/\
 (¬((4+10*F+N+N*afs:Nat):Int)<=sz->∃c,lE K (ar sz [] [] a w) p args (N:Int) kY=some (none,22,ar sz c (w7 w [] (pQ sz (tF a N F kY.dQ))) a w)):=by
 have f1:=hl.f1;have f2:=hl.f2;have hp8:=(hv.Jx 0 (by have:=hv.n1;omega)).p8;have WS:=SS (K:=K) hv p.ah.length K 0 [] I (by have:=hv.n32;omega) rfl;rw[pT,yQ,mY]at WS;unfold lE;rw[hr,ax,aP rfl,aP ⟨I,I⟩,WS,ax];obtain⟨l1,l2⟩:=Ys (K:=K) (a:=a) (w:=w) hl hF ZL hN hW hs hs0 hK (O:=(⟨p.ah,0,0,0,0,0,([]:List ck),List.replicate kY.cr.toNat (⟨0,0,0,0,0,0,List.replicate 16 (0:Int)⟩:aR),([]:List bz),0,false⟩:ag)) rfl;refine⟨λhf => ?_,λhf => ?_⟩
 ·obtain⟨c,e1,e2,e3⟩:=l1 hf;have hFt:kY.cr.toNat=F:=by omega
  have hact:=LP (K:=K) hN N K 0 [] I I rfl;rw[pT,yQ]at hact;refine⟨c,?_,e2,e3⟩;rw[e1,dw,aP rfl]
  dsimp only
  rw[hFt,aP ⟨eF,by rw[mo];omega⟩,aP ⟨eF,by rw[gY,mo];omega⟩,pR,hact,ax,aP ⟨eF,by rw[zq];omega⟩];rw[Np,Np,Np,Ef N 0 0 I]
  rfl
 ·obtain⟨X,c,e1⟩:=l2 hf;rw[e1,dw,ct eF];exact⟨c,rfl⟩
end
end Mo
end
section
namespace Am
def cY{α β:Type}[DecidableEq α](f:α->β)(a:α)(v:β):α->β:=λx=>if x=a then v else f x
@[simp] theorem bA{α β:Type}[DecidableEq α](f:α->β)(a:α)(v:β):cY f a v a=v:=by simp[cY]
theorem be{α β:Type}[DecidableEq α]{f:α->β}{a x:α}{v:β}(h:x≠a):cY f a v x=f x:=by simp[cY,h]
theorem cC{α β:Type}[DecidableEq α](f:α->β)(a x:α)(v:β):cY f a v x=if x=a then v else f x:=rfl
inductive Yu
 | const (a:Nat) (k:Int) | move (a b:Nat) | arith (op:Int) (a b c:Nat) | jump (a:Nat) | branch (a b:Nat)
 | spawn (s f c:Nat) | sync | load (a s:Nat) | nA (a:Nat) | ret (a:Nat)
deriving DecidableEq,Inhabited
structure kH where
 N:Nat
 F:Nat
 first:Nat
 most:Nat
 O5:Nat
 len:Nat->Nat
 params:Nat->Nat
 cU:Nat->Nat
 code:Nat->Nat->Yu
 ap:Int->Int->Int->Int
 pd:Int->Nat->Int
inductive uv
 | result | next | join (f:Nat) | mark (f:Nat) | slot (f s:Nat) | tJ | Eg | flag (i:Nat)
 | top (i:Nat) | bot (i:Nat) | buf (i:Nat) | cap (i g:Nat) | el (i g n:Nat)
deriving DecidableEq
structure Fr where
 fn:Nat
 J:Nat
 par:Nat
 slot:Nat
 bt:Nat
 nA:Int
 cU:Nat->Int
structure Ev where
 kind:Nat
 au:Int
 x:Int
 v:Int
structure Acc where
 kind:Nat
 a:uv
 x:Int
 y:Int
 ok:Bool
inductive Pc
 | halted | full | start (x:Int) | run | fork (c:Nat) | rR | out (p c:Nat) | take (p c:Nat)
 | done | tell (j:Nat) | xz (j:Nat)
 | Cd (c:Nat) | zR (c:Nat) (b:Int) | tg (c:Nat) (b t:Int) | th (c:Nat) (b t:Int)
 | grow (c:Nat) (b t cc:Int) | pF (c:Nat) (b t cc:Int) | mD (c:Nat) (b t cc n:Int)
 | mK (c:Nat) (b t cc n x:Int) | pG (c:Nat) (b t cc:Int) | mE (c:Nat) (b cc:Int) | rh (c:Nat) (b:Int)
 | HU | ug (j:Nat) | vW (j:Nat)
 | Fg | wO (b:Int) | rD (b:Int) | Dg (b:Int) | qt (t:Int) | vA (b t:Int)
 | rS (b t cc:Int) | uh (b t x:Int) | sL (t x:Int) (Ae:Bool)
 | oC | vC (v:Nat) (t:Int) | rE (v:Nat) (t:Int) | qu (v:Nat) (t:Int) (g:Nat)
 | oa (v:Nat) (t:Int) (g:Nat) (cc:Int) | oD (v:Nat) (t x:Int)
 | Eh | flag | sleep | vp | EG (j:Nat) | Dh (j:Nat) (t:Int) | parked | back (h:Bool) | vX (h:Bool)
deriving DecidableEq
inductive Loc
 | free | bU (i:Nat) | Nq (i:Nat) | pop (i:Nat) | held (i:Nat) | rj (i:Nat) | waiting | sM (i:Nat) | fin (i:Nat) | gone
deriving DecidableEq
structure St where
 mem:uv->Int
 pc:Nat->Pc
 hold:Nat->Option Nat
 fX:Nat->Nat
 fr:Nat->Fr
 nf:Nat
 cur:Nat->Nat
 base:Nat->Nat->Int
 size:Int
 val:Option Int
 JR:Bool
 loc:Nat->Loc
 q:Nat->List Nat
 pop:Nat->Option Nat
 bt:Nat->List Nat
structure Out where
 s:St
 ev:Option Ev
 acc:Option Acc
def ix(n c:Int):Nat:=(n%c).toNat
def jh(C:kH)(cc:Int):Int:=if 2*cc<=C.most then 2*cc else C.most
def LQ(C:kH)(i:Nat):Nat:=(i+1)%C.N
namespace St
def wr(s:St)(a:uv)(v:Int):St:={s with mem:=cY s.mem a v}
def to(s:St)(i:Nat)(p:Pc):St:={s with pc:=cY s.pc i p}
def holds(s:St)(i:Nat)(f:Option Nat):St:={s with hold:=cY s.hold i f}
def put(s:St)(f:Nat)(l:Loc):St:={s with loc:=cY s.loc f l}
def tA(s:St)(i n:Nat):St:={s with fX:=cY s.fX i n}
def lay(s:St)(f:Nat)(x:Fr):St:={s with fr:=cY s.fr f x}
def qR(s:St)(j:Nat)(l:List Nat):St:={s with q:=cY s.q j l}
def mL(s:St)(i:Nat)(x:Option Nat):St:={s with pop:=cY s.pop i x}
def Fh(s:St)(f:Nat)(l:List Nat):St:={s with bt:=cY s.bt f l}
end St
def pW(a:uv)(v:Int):Option Acc:=some ⟨0,a,v,0,true⟩
def sN(a:uv)(v:Int):Option Acc:=some ⟨1,a,v,0,true⟩
def HV(a:uv)(o n:Int)(ok:Bool):Option Acc:=some ⟨2,a,o,n,ok⟩
def BO(a:uv)(d v:Int):Option Acc:=some ⟨3,a,d,v,true⟩
def Yv(a:uv)(n:Int):Option Acc:=some ⟨4,a,n,0,true⟩
def ev(k:Nat)(f x v:Int):Option Ev:=some ⟨k,f,x,v⟩
def oG(s:St)(C:kH)(i j:Nat)(acc:Option Acc):Out:=
 if j=i then⟨s.to i .halted,ev 10 0 0 0,acc⟩else⟨s.to i (.tell j),none,acc⟩
def looking(s:St)(C:kH)(i j:Nat)(acc:Option Acc):Out:=
 if j=i then⟨s.to i .parked,ev 9 0 0 0,acc⟩else⟨s.to i (.EG j),none,acc⟩
def GG(s:St)(C:kH)(i:Nat):St:=s.to i (if C.N=1 then .flag else .oC)
def Cu(s:St)(C:kH)(i:Nat)(h:Bool)(acc:Option Acc):Out:=
 if h then⟨s.to i .halted,ev 10 0 0 0,acc⟩else⟨GG (s.tA i 0) C i,none,acc⟩
def got(s:St)(i:Nat)(x:Int)(v:Int):St:=
 ((s.holds i (some x.toNat)).to i (.start v)).put x.toNat (.held i)
def lf(C:kH)(p:Fr)(f:Nat)(sl g c:Nat):Fr:=
 { fn:=g,J:=0,par:=f,slot:=sl,bt:=0,nA:=C.pd p.nA p.bt,cU:=λr=>if r<C.params g then p.cU (c+r)else 0}
def instr(C:kH)(s:St)(i:Nat):Out:=
 let f:=(s.hold i).getD 0
 let x:=s.fr f
 let y:Fr:={x with J:=x.J+1}
 match C.code x.fn x.J with
 | .const a k=>⟨s.lay f {y with cU:=cY x.cU a k},none,none⟩
 | .move a b=>⟨s.lay f {y with cU:=cY x.cU a (x.cU b)},none,none⟩
 | .arith op a b c=>⟨s.lay f {y with cU:=cY x.cU a (C.ap op (x.cU b) (x.cU c))},none,none⟩
 | .jump a=>⟨s.lay f {y with J:=a},none,none⟩
 | .branch a b=>⟨s.lay f (if x.cU a≠0 then {y with J:=b}else y),none,none⟩
 | .nA a=>⟨s.lay f {y with cU:=cY x.cU a x.nA},none,none⟩
 | .load a sl=>⟨s.lay f {y with cU:=cY x.cU a (s.mem (.slot f sl))},none,pW (.slot f sl) (s.mem (.slot f sl))⟩
 | .spawn sl g c =>
  let n:=s.mem .next+1
  let s:=(s.wr .next n).lay f y
  if (C.F:Int)<=n-1 then⟨{s with JR:=true}.to i .full,ev 11 (-1) 0 0,BO .next 1 n⟩
  else ⟨{((s.lay f {y with bt:=x.bt+1}).lay s.nf (lf C x f sl g c))with nf:=s.nf+1}.put s.nf (.bU i) |>.to i (.fork s.nf),none,BO .next 1 n⟩
 | .sync =>
  let n:=s.mem (.join f)-1
  let s:=(s.wr (.join f) n).lay f y
  if 0<n then⟨((s.holds i none).to i .Fg).put f .waiting,ev 4 f 0 0,BO (.join f) (-1) n⟩
  else ⟨(s.to i .rR).put f (.rj i),none,BO (.join f) (-1) n⟩
 | .ret a =>
  let v:=x.cU a
  let s:=s.lay f y
  if f=0 then⟨{(((s.wr .result v).holds i none).to i .done).put 0 (.fin i)with val:=some v},ev 6 0 (-1) v,sN .result v⟩
  else ⟨(((s.wr (.slot x.par x.slot) v).holds i none).to i (.out x.par f)).put f (.fin i),ev 6 f x.par v,sN (.slot x.par x.slot) v⟩
def aH(C:kH)(s:St)(i:Nat)(d:Int):Out:=
 let f:=(s.hold i).getD 0
 match s.pc i with
 | .halted | .full=>⟨s,none,none⟩
 | .start x=>let v:=s.mem (.mark f)+1;⟨(s.wr (.mark f) v).to i .run,ev 1 f x v,BO (.mark f) 1 v⟩
 | .run=>instr C s i
 | .fork c=>let v:=s.mem (.join f)+1;⟨((s.wr (.join f) v).Fh f (c::s.bt f)).to i (.Cd c),none,BO (.join f) 1 v⟩
 | .rR=>⟨((s.wr (.join f) 1).to i .run).put f (.held i),ev 5 f 0 0,sN (.join f) 1⟩
 | .out p c =>
  let n:=s.mem (.join p)-1
  let s:=((s.wr (.join p) n).Fh p ((s.bt p).erase c)).put c .gone
  if n=0 then⟨(s.to i (.take p c)).put p (.sM i),none,BO (.join p) (-1) n⟩else⟨s.to i .Fg,none,BO (.join p) (-1) n⟩
 | .take p c=>⟨(((s.wr (.join p) 1).holds i (some p)).to i .run).put p (.held i),ev 7 p c 0,sN (.join p) 1⟩
 | .done=>oG (s.wr .Eg 1) C i (LQ C i) (sN .Eg 1)
 | .tell j=>if s.mem (.flag j)=1 then⟨(s.wr (.flag j) 0).to i (.xz j),none,HV (.flag j) 1 0 true⟩
  else oG s C i (LQ C j) (HV (.flag j) 1 0 false)
 | .xz j=>let v:=s.mem .tJ-1;oG (s.wr .tJ v) C i (LQ C j) (BO .tJ (-1) v)
 | .Cd c=>⟨s.to i (.zR c (s.mem (.bot i))),none,pW (.bot i) (s.mem (.bot i))⟩
 | .zR c b=>⟨s.to i (.tg c b (s.mem (.top i))),none,pW (.top i) (s.mem (.top i))⟩
 | .tg c b t=>⟨s.to i (.th c b t),none,pW (.buf i) (s.mem (.buf i))⟩
 | .th c b t =>
  let cc:=s.mem (.cap i (s.cur i))
  let a:=pW (.cap i (s.cur i)) cc
  if b-t<cc then⟨s.to i (.mE c b cc),none,a⟩
  else if(C.most:Int)<=cc then⟨{s with JR:=true}.to i .full,ev 11 c 1 0,a⟩
  else ⟨s.to i (.grow c b t cc),none,a⟩
 | .grow c b t cc =>
  let g:=s.cur i+1
  ⟨{s with base:=cY s.base i (cY (s.base i) g s.size),size:=s.size+1+jh C cc,
            mem:=λa=>match a with | .cap i' g'=>if i'=i/\g'=g then 0 else s.mem a | .el i' g' _=>if i'=i/\g'=g then 0 else s.mem a | _=>s.mem a}.to i (.pF c b t cc),
   none,Yv (.cap i g) (1+jh C cc)⟩
 | .pF c b t cc=>⟨(s.wr (.cap i (s.cur i+1)) (jh C cc)).to i (.mD c b t cc t),none,sN (.cap i (s.cur i+1)) (jh C cc)⟩
 | .mD c b t cc n=>let x:=s.mem (.el i (s.cur i) (ix n cc));⟨s.to i (.mK c b t cc n x),none,pW (.el i (s.cur i) (ix n cc)) x⟩
 | .mK c b t cc n x =>
  ⟨(s.wr (.el i (s.cur i+1) (ix n (jh C cc))) x).to i (if n+1<b then .mD c b t cc (n+1)else .pG c b t cc),none,sN (.el i (s.cur i+1) (ix n (jh C cc))) x⟩
 | .pG c b t cc =>
  let a:=s.base i (s.cur i+1)
  ⟨{s.wr (.buf i) a with cur:=cY s.cur i (s.cur i+1)}.to i (.mE c b (jh C cc)),none,sN (.buf i) a⟩
 | .mE c b cc=>⟨(s.wr (.el i (s.cur i) (ix b cc)) c).to i (.rh c b),none,sN (.el i (s.cur i) (ix b cc)) c⟩
 | .rh c b=>⟨(((s.wr (.bot i) (b+1)).qR i (s.q i++[c])).put c (.Nq i)).to i .HU,ev 2 c f (s.fr c).nA,sN (.bot i) (b+1)⟩
 | .HU=>let n:=s.mem .tJ;⟨s.to i (if 0<n/\1<C.N then .ug (LQ C i)else .run),none,pW .tJ n⟩
 | .ug j =>
  if s.mem (.flag j)=1 then⟨(s.wr (.flag j) 0).to i (.vW j),none,HV (.flag j) 1 0 true⟩
  else ⟨s.to i (if LQ C j=i then .run else .ug (LQ C j)),none,HV (.flag j) 1 0 false⟩
 | .vW j=>let v:=s.mem .tJ-1;⟨(s.wr .tJ v).to i .run,ev 3 f j 0,BO .tJ (-1) v⟩
 | .Fg=>⟨s.to i (.wO (s.mem (.bot i)-1)),none,pW (.bot i) (s.mem (.bot i))⟩
 | .wO b=>⟨s.to i (.rD b),none,pW (.buf i) (s.mem (.buf i))⟩
 | .rD b=>⟨(s.wr (.bot i) b).to i (.Dg b),none,sN (.bot i) b⟩
 | .Dg b =>
  let t:=s.mem (.top i)
  let a:=pW (.top i) t
  if t<b then
   let x:=(s.q i).getLastD 0
   ⟨(((s.to i (.vA b t)).qR i (s.q i).dropLast).put x (.pop i)).mL i (some x),none,a⟩
  else if t=b then⟨s.to i (.vA b t),none,a⟩else⟨s.to i (.qt t),none,a⟩
 | .qt t=>⟨GG ((s.wr (.bot i) t).tA i 0) C i,none,sN (.bot i) t⟩
 | .vA b t=>let cc:=s.mem (.cap i (s.cur i));⟨s.to i (.rS b t cc),none,pW (.cap i (s.cur i)) cc⟩
 | .rS b t cc =>
  let x:=s.mem (.el i (s.cur i) (ix b cc))
  let a:=pW (.el i (s.cur i) (ix b cc)) x
  if t<b then⟨(got s i x (-1)).mL i none,none,a⟩else⟨s.to i (.uh b t x),none,a⟩
 | .uh b t x =>
  if s.mem (.top i)=t then⟨((((s.wr (.top i) (t+1)).to i (.sL t x true)).qR i []).put x.toNat (.pop i)).mL i (some x.toNat),none,HV (.top i) t (t+1) true⟩
  else ⟨s.to i (.sL t x false),none,HV (.top i) t (t+1) false⟩
 | .sL t x Ae =>
  let s:=(s.wr (.bot i) (t+1)).tA i 0
  ⟨if Ae then(got s i x (-1)).mL i none else GG s C i,none,sN (.bot i) (t+1)⟩
 | .oC =>
  let v:=((i+1+(d%((C.N:Int)-1)).toNat)%C.N)
  ⟨s.to i (.vC v (s.mem (.top v))),none,pW (.top v) (s.mem (.top v))⟩
 | .vC v t =>
  let b:=s.mem (.bot v)
  if b<=t then⟨(s.tA i (s.fX i+1)).to i .Eh,none,pW (.bot v) b⟩else⟨s.to i (.rE v t),none,pW (.bot v) b⟩
 | .rE v t=>⟨s.to i (.qu v t (s.cur v)),none,pW (.buf v) (s.mem (.buf v))⟩
 | .qu v t g=>let cc:=s.mem (.cap v g);⟨s.to i (.oa v t g cc),none,pW (.cap v g) cc⟩
 | .oa v t g cc=>let x:=s.mem (.el v g (ix t cc));⟨s.to i (.oD v t x),none,pW (.el v g (ix t cc)) x⟩
 | .oD v t x =>
  if s.mem (.top v)=t then⟨got ((s.wr (.top v) (t+1)).qR v (s.q v).tail) i x v,ev 8 x v 0,HV (.top v) t (t+1) true⟩
  else ⟨(s.tA i (s.fX i+1)).to i .Eh,none,HV (.top v) t (t+1) false⟩
 | .Eh =>
  let d:=s.mem .Eg
  if d=1 then⟨s.to i .halted,ev 10 0 0 0,pW .Eg d⟩
  else ⟨s.to i (if s.fX i<3 then .oC else .flag),none,pW .Eg d⟩
 | .flag=>⟨(s.wr (.flag i) 1).to i .sleep,none,sN (.flag i) 1⟩
 | .sleep=>let v:=s.mem .tJ+1;⟨(s.wr .tJ v).to i .vp,none,BO .tJ 1 v⟩
 | .vp=>let d:=s.mem .Eg;if d=1 then⟨s.to i (.back true),none,pW .Eg d⟩else looking s C i (LQ C i) (pW .Eg d)
 | .EG j=>⟨s.to i (.Dh j (s.mem (.top j))),none,pW (.top j) (s.mem (.top j))⟩
 | .Dh j t=>let b:=s.mem (.bot j);if t<b then⟨s.to i (.back false),none,pW (.bot j) b⟩else looking s C i (LQ C j) (pW (.bot j) b)
 | .parked=>let v:=s.mem (.flag i);if v=1 then⟨s,none,pW (.flag i) v⟩else⟨GG (s.tA i 0) C i,none,pW (.flag i) v⟩
 | .back h=>if s.mem (.flag i)=1 then⟨(s.wr (.flag i) 0).to i (.vX h),none,HV (.flag i) 1 0 true⟩else Cu s C i h (HV (.flag i) 1 0 false)
 | .vX h=>let v:=s.mem .tJ-1;Cu (s.wr .tJ v) C i h (BO .tJ (-1) v)
theorem Yw{m n c:Int}(hc:0<c)(h:ix m c=ix n c)(h1:m-n<c)(h2:n-m<c):m=n:=by
 have a1:=EA m (b:=c) I;have a2:=EA n (b:=c) I;have b1:=EB m hc;have b2:=EB n hc;have h':m%c=n%c:=by unfold ix at h;omega
 have e1:=Int.mul_ediv_add_emod m c;have e2:=Int.mul_ediv_add_emod n c;have h3:m-n=c*(m/c-n/c):=by rw[Int.mul_sub];omega
 have:m/c-n/c=0:=by
  rcases Int.lt_trichotomy (m/c-n/c) 0 with h | h | h
  ·have:c*(m/c-n/c)<=c*(-1):=Int.mul_le_mul_of_nonneg_left I I;omega
  ·exact h
  ·have:c*1<=c*(m/c-n/c):=Int.mul_le_mul_of_nonneg_left I I;omega
 rw[this]at h3;omega
theorem SV{m n c:Int}(hc:0<c)(h1:m-n<c)(h2:n-m<c)(h:m≠n):ix m c≠ix n c:=λe=>h (Yw hc e h1 h2)
namespace St
abbrev T(s:St)(j:Nat):Int:=s.mem (.top j)
abbrev B(s:St)(j:Nat):Int:=s.mem (.bot j)
abbrev cc(s:St)(j:Nat):Int:=s.mem (.cap j (s.cur j))
abbrev L(s:St)(j:Nat):Int:=((s.q j).length:Int)
end St
def Di(C:kH)(s:St)(j:Nat)(b t cc:Int):Prop:=s.B j=b/\s.T j+s.L j=b/\s.L j<=s.cc j/\t<=s.T j/\cc=s.cc j/\b-t=cc/\cc<C.most
def AY(C:kH)(s:St)(j:Nat)(n:Int):Prop:=
 s.mem (.cap j (s.cur j+1))=jh C (s.cc j)/\∀m,s.T j<=m->m<n->s.mem (.el j (s.cur j+1) (ix m (jh C (s.cc j))))=s.mem (.el j (s.cur j) (ix m (s.cc j)))
def vY(s:St)(j:Nat)(b t:Int):Prop:=
 s.B j=b/\t<=b/\0<=b/\(t<b->s.T j+s.L j=b/\s.L j+1<=s.cc j/\∃x:Nat,s.pop j=some x/\s.mem (.el j (s.cur j) (ix b (s.cc j)))=x)
  /\(t=b->s.T j+s.L j=b+1/\t<=s.T j/\s.L j<=s.cc j)
def qU(C:kH)(s:St)(j:Nat):Prop:=
 match s.pc j with
 | .zR c b=>s.B j=b/\s.T j+s.L j=b/\s.L j<=s.cc j
 | .tg c b t=>s.B j=b/\s.T j+s.L j=b/\s.L j<=s.cc j/\t<=s.T j/\b-t<=s.cc j
 | .th c b t=>s.B j=b/\s.T j+s.L j=b/\s.L j<=s.cc j/\t<=s.T j/\b-t<=s.cc j
 | .grow c b t cc=>Di C s j b t cc
 | .pF c b t cc=>Di C s j b t cc
 | .mD c b t cc n=>Di C s j b t cc/\AY C s j n/\t<=n/\n<b
 | .mK c b t cc n x=>Di C s j b t cc/\AY C s j n/\t<=n/\n<b/\x=s.mem (.el j (s.cur j) (ix n (s.cc j)))
 | .pG c b t cc=>Di C s j b t cc/\AY C s j b
 | .mE c b cc=>s.B j=b/\s.T j+s.L j=b/\s.L j+1<=s.cc j/\cc=s.cc j
 | .rh c b=>s.B j=b/\s.T j+s.L j=b/\s.L j+1<=s.cc j/\s.mem (.el j (s.cur j) (ix b (s.cc j)))=c
 | .wO b=>s.B j=b+1/\s.T j+s.L j=b+1/\s.L j<=s.cc j
 | .rD b=>s.B j=b+1/\s.T j+s.L j=b+1/\s.L j<=s.cc j
 | .Dg b=>s.B j=b/\s.T j+s.L j=b+1/\s.L j<=s.cc j
 | .qt t=>s.T j=t/\s.L j=0/\s.B j=t-1
 | .vA b t=>vY s j b t
 | .rS b t cc=>vY s j b t/\cc=s.cc j
 | .uh b t x=>s.B j=b/\t=b/\s.T j+s.L j=b+1/\t<=s.T j/\(s.T j=t->s.q j=[x.toNat]/\0<=x)/\s.L j<=s.cc j
 | .sL t x Ae=>s.B j=t/\s.T j=t+1/\s.L j=0/\(Ae=true->s.pop j=some x.toNat/\0<=x)
 | _=>s.B j=s.T j+s.L j/\s.L j<=s.cc j
structure D(C:kH)(s:St)(j:Nat):Prop where
 t0:0<=s.T j
 zu:∀g,g<=s.cur j->1<=s.mem (.cap j g)
 Ce:s.cc j<=C.most
 Ei:s.mem (.buf j)=s.base j (s.cur j)
 els:∀n,n<(s.q j).length->s.mem (.el j (s.cur j) (ix (s.T j+n) (s.cc j)))=(((s.q j).getD n 0:Nat):Int)
 ph:qU C s j
def Th(C:kH)(s:St)(i:Nat):Prop:=
 match s.pc i with
 | .oC=>C.N≠1
 | .Eh=>C.N≠1
 | .vC v t=>v<C.N/\v≠i/\t<=s.T v
 | .rE v t=>v<C.N/\v≠i/\t<=s.T v/\(t=s.T v->s.q v≠[])
 | .qu v t g=>v<C.N/\v≠i/\t<=s.T v/\g<=s.cur v/\(t=s.T v->∃x l,s.q v=x::l/\s.mem (.el v g (ix t (s.mem (.cap v g))))=(x:Nat))
 | .oa v t g cc=>v<C.N/\v≠i/\t<=s.T v/\g<=s.cur v/\cc=s.mem (.cap v g)/\(t=s.T v->∃x l,s.q v=x::l/\s.mem (.el v g (ix t (s.mem (.cap v g))))=(x:Nat))
 | .oD v t x=>v<C.N/\v≠i/\t<=s.T v/\(t=s.T v->∃y l,s.q v=y::l/\x=(y:Nat))
 | _=>True
structure AZ(s s':St)(j:Nat):Prop where
 top:s'.mem (.top j)=s.mem (.top j)
 bot:s'.mem (.bot j)=s.mem (.bot j)
 buf:s'.mem (.buf j)=s.mem (.buf j)
 cap:∀g,s'.mem (.cap j g)=s.mem (.cap j g)
 el:∀g n,s'.mem (.el j g n)=s.mem (.el j g n)
 cur:s'.cur j=s.cur j
 base:s'.base j=s.base j
 q:s'.q j=s.q j
 pop:s'.pop j=s.pop j
theorem D.same{C:kH}{s s':St}{j:Nat}(h:D C s j)(e:AZ s s' j)(hp:qU C s' j):D C s' j:=by
 obtain⟨h1,h2,h3,h4,h5,h6⟩:=h;obtain⟨e1,e2,e3,e4,e5,e6,e7,e8,e9⟩:=e;refine⟨?_,?_,?_,?_,?_,hp⟩
 ·rw[St.T,e1];exact h1
 ·intro g hg;rw[e4];rw[e6]at hg;exact h2 g hg
 ·rw[St.cc,e6,e4];exact h3
 ·rw[e3,e7,e6];exact h4
 ·intro n hn;simp only[St.T,St.cc,e1,e4,e5,e6,e8];exact h5 n (by rw[e8]at hn;exact hn)
theorem qU.same{C:kH}{s s':St}{j:Nat}(h:qU C s j)(e:AZ s s' j)(hp:s'.pc j=s.pc j):qU C s' j:=by
 obtain⟨e1,e2,e3,e4,e5,e6,e7,e8,e9⟩:=e;unfold qU at h⊢;simp only[hp,Di,AY,vY,St.T,St.B,St.L,St.cc,e1,e2,e3,e4,e5,e6,e7,e8,e9]at h⊢;exact h
theorem D.WT{C:kH}{s s':St}{j:Nat}(h:D C s j)(e:AZ s s' j)(hp:s'.pc j=s.pc j):D C s' j:=h.same e (h.ph.same e hp)
structure Calm(s s':St)(v:Nat):Prop where
 top:s.T v<=s'.T v
 cur:s.cur v<=s'.cur v
 cap:∀g,g<=s.cur v->s'.mem (.cap v g)=s.mem (.cap v g)
 q:s.T v=s'.T v->∀x l,s.q v=x::l->(∃l',s'.q v=x::l')/\∀g,g<=s.cur v->s.mem (.el v g (ix (s.T v) (s.mem (.cap v g))))=(x:Nat)->s'.mem (.el v g (ix (s.T v) (s.mem (.cap v g))))=(x:Nat)
theorem Th.calm{C:kH}{s s':St}{i:Nat}(h:Th C s i)(e:∀v,v≠i->Calm s s' v)(hp:s'.pc i=s.pc i):Th C s' i:=by
 unfold Th at h⊢;rw[hp];split
 ·rename_i hh;rw[hh]at h;exact h
 ·rename_i hh;rw[hh]at h;exact h
 ·rename_i v t hh;rw[hh]at h;simp only at h;exact⟨h.1,h.2.1,Int.le_trans h.2.2 (e v h.2.1).top⟩
 ·rename_i v t hh;rw[hh]at h;simp only at h;have E:=e v h.2.1;refine⟨h.1,h.2.1,Int.le_trans h.2.2.1 E.top,λht => ?_⟩;have e1:t=s.T v:=Int.le_antisymm h.2.2.1 (ht▸ E.top);obtain⟨x,l,hq⟩:=List.exists_cons_of_ne_nil (h.2.2.2 e1);obtain⟨⟨l',h'⟩,_⟩:=E.q (e1.symm.trans ht) x l hq;rw[h'];exact List.cons_ne_nil _ _
 ·rename_i v t g hh;rw[hh]at h;simp only at h;have E:=e v h.2.1;obtain⟨h1,h2,h3,h4,h5⟩:=h;refine⟨h1,h2,Int.le_trans h3 E.top,G5 h4 E.cur,λht => ?_⟩;have e1:t=s.T v:=Int.le_antisymm h3 (ht▸ E.top);obtain⟨x,l,hq,hx⟩:=h5 e1;obtain⟨⟨l',h'⟩,h''⟩:=E.q (e1.symm.trans ht) x l hq;refine⟨x,l',h',?_⟩;rw[E.cap g h4,e1];exact h'' g h4 (by rw[<-e1];exact hx)
 ·rename_i v t g cc hh;rw[hh]at h;simp only at h;have E:=e v h.2.1;obtain⟨h1,h2,h3,h4,h0,h5⟩:=h;refine⟨h1,h2,Int.le_trans h3 E.top,G5 h4 E.cur,by rw[E.cap g h4];exact h0,λht => ?_⟩;have e1:t=s.T v:=Int.le_antisymm h3 (ht▸ E.top);obtain⟨x,l,hq,hx⟩:=h5 e1;obtain⟨⟨l',h'⟩,h''⟩:=E.q (e1.symm.trans ht) x l hq;refine⟨x,l',h',?_⟩;rw[E.cap g h4,e1];exact h'' g h4 (by rw[<-e1];exact hx)
 ·rename_i v t x hh;rw[hh]at h;simp only at h;have E:=e v h.2.1;obtain⟨h1,h2,h3,h5⟩:=h;refine⟨h1,h2,Int.le_trans h3 E.top,λht => ?_⟩;have e1:t=s.T v:=Int.le_antisymm h3 (ht▸ E.top);obtain⟨y,l,hq,hx⟩:=h5 e1;obtain⟨⟨l',h'⟩,h''⟩:=E.q (e1.symm.trans ht) y l hq;exact⟨y,l',h',hx⟩
 ·trivial
theorem AZ.calm{s s':St}{v:Nat}(e:AZ s s' v):Calm s s' v:=by
 obtain⟨e1,e2,e3,e4,e5,e6,e7,e8,e9⟩:=e;exact⟨by simp only[St.T,e1];exact xd _,by rw[e6];exact j5 _,λg _=>e4 g,λ_ x l hq=>⟨⟨l,e8▸ hq⟩,λg _ h=>by rw[e5];exact h⟩⟩
def DT(C:kH)(s:St):Prop:=(∀j,j<C.N->D C s j)/\∀i,i<C.N->Th C s i
theorem DT.own{C:kH}{s s':St}{i:Nat}(h:DT C s)(hs:∀j,j≠i->AZ s s' j)(hp:∀j,j≠i->s'.pc j=s.pc j)(hd:D C s' i)(hc:Calm s s' i)(ht:Th C s' i):DT C s':=by
 refine⟨λj hj => ?_,λk hk => ?_⟩
 ·by_cases e:j=i
  ·subst e;exact hd
  ·exact(h.1 j hj).WT (hs j e) (hp j e)
 ·by_cases e:k=i
  ·subst e;exact ht
  ·exact(h.2 k hk).calm (λv hv=>by
    by_cases e':v=i
    ·subst e';exact hc
    ·exact(hs v e').calm) (hp k e)
def uv.own:uv->Option Nat
 | .top i | .bot i | .buf i | .cap i _ | .el i _ _=>some i
 | _=>none
theorem AZ.of{s s':St}{j:Nat}(hm:∀a,a.own=some j->s'.mem a=s.mem a)(h1:s'.cur j=s.cur j)(h2:s'.base j=s.base j)(h3:s'.q j=s.q j)(h4:s'.pop j=s.pop j):AZ s s' j:=
 ⟨hm _ rfl,hm _ rfl,hm _ rfl,λ_=>hm _ rfl,λ_ _=>hm _ rfl,h1,h2,h3,h4⟩
def Idle:Pc->Prop
 | .zR .. | .tg .. | .th .. | .grow .. | .pF .. | .mD .. | .mK .. | .pG .. | .mE .. | .rh ..
 | .wO .. | .rD .. | .Dg .. | .qt .. | .vA .. | .rS .. | .uh .. | .sL .. => False
 | _=>True
theorem qU.idle{C:kH}{s:St}{j:Nat}(hi:Idle (s.pc j)):qU C s j↔s.B j=s.T j+s.L j/\s.L j<=s.cc j:=by
 unfold qU;split<;>rename_i hh<;>first | (rw[hh]at hi;exact hi.elim) | exact Iff.rfl
theorem D.idle{C:kH}{s s':St}{j:Nat}(h:D C s j)(e:AZ s s' j)(hi:Idle (s.pc j))(hi':Idle (s'.pc j)):D C s' j:=by
 refine h.same e ((qU.idle hi').2 ?_);have:=(qU.idle hi).1 h.ph;obtain⟨e1,e2,e3,e4,e5,e6,e7,e8,e9⟩:=e
 simpa only [St.T,St.B,St.L,St.cc,e1,e2,e4,e6,e8]using this
theorem DT.gE{C:kH}{s s':St}{i:Nat}(h:DT C s)(hi:i<C.N)(hm:∀a,a.own≠none->s'.mem a=s.mem a)(h1:s'.cur=s.cur)(h2:s'.base=s.base)(h3:s'.q=s.q)(h4:s'.pop=s.pop)
 (hp:∀j,j≠i->s'.pc j=s.pc j) (hid:Idle (s.pc i)) (Yx:Idle (s'.pc i)) (ht:Th C s' i):DT C s':=by
 have e:∀j,AZ s s' j:=λj=>AZ.of (λa ha=>hm a (by rw[ha];exact Option.some_ne_none _)) (by rw[h1]) (by rw[h2]) (by rw[h3]) (by rw[h4]);exact h.own (i:=i) (λj _=>e j) hp ((h.1 i hi).idle (e i) hid Yx) (e i).calm ht
theorem Th.plain{C:kH}{s:St}{i:Nat}(h:match s.pc i with | .oC | .Eh | .vC .. | .rE .. | .qu .. | .oa .. | .oD .. => False | _=>True):Th C s i:=by
 unfold Th;split<;>rename_i hh<;>first | (rw[hh]at h;exact h.elim) | trivial
theorem DT.mine{C:kH}{s s':St}{i:Nat}(h:DT C s)(hi:i<C.N)(hm:∀a,a.own≠some i->s'.mem a=s.mem a)(h1:∀j,j≠i->s'.cur j=s.cur j)(h2:∀j,j≠i->s'.base j=s.base j)(h3:∀j,j≠i->s'.q j=s.q j)(h4:∀j,j≠i->s'.pop j=s.pop j)
 (hp:∀j,j≠i->s'.pc j=s.pc j) (hd:D C s' i) (hc:Calm s s' i) (ht:Th C s' i):DT C s':=
 h.own (i:=i) (λj hj=>AZ.of (λa ha=>hm a (by rw[ha];intro e;exact hj (Option.some.inj e))) (h1 j hj) (h2 j hj) (h3 j hj) (h4 j hj)) hp hd hc ht
section
variable {C:kH}{s:St}{i:Nat}
theorem DT.reads{s':St}(h:DT C s)(hi:i<C.N)(hm:s'.mem=s.mem)(h1:s'.cur=s.cur)(h2:s'.base=s.base)(h3:s'.q=s.q)(h4:s'.pop=s.pop)
 (hp:∀j,j≠i->s'.pc j=s.pc j) (hd:qU C s' i) (ht:Th C s' i):DT C s':=by
 have e:∀j,AZ s s' j:=λj=>AZ.of (λa _=>by rw[hm]) (by rw[h1]) (by rw[h2]) (by rw[h3]) (by rw[h4]);exact h.own (i:=i) (λj _=>e j) hp ((h.1 i hi).same (e i) hd) (e i).calm ht
theorem oE{s:St}{i j:Nat}{p:Pc}(h:j≠i):(s.to i p).pc j=s.pc j:=be h
theorem jU{s:St}{i:Nat}{p:Pc}:(s.to i p).pc i=p:=bA _ _ _
theorem nj{s:St}{a x:uv}{v:Int}(h:x≠a):(s.wr a v).mem x=s.mem x:=be h
end
section
variable {C:kH}{s:St}{i:Nat}
theorem IG{cc:Int}(h:cc<C.most)(h1:1<=cc):cc<jh C cc/\jh C cc<=C.most:=by unfold jh;split<;>omega
theorem Qo(h:DT C s)(hi:i<C.N){c b t cc d}(hp:s.pc i= .grow c b t cc):DT C (aH C s i d).s:=by
 have H:=h.1 i hi;have P:=H.ph;unfold qU at P;rw[hp]at P;simp only at P;unfold aH;rw[hp];simp only;have e1:∀g n,g<=s.cur i->(if True/\g=s.cur i+1 then(0:Int)else n)=n:=λg n hg=>ct I;refine h.mine hi ?_ (λj hj=>rfl) (λj hj=>be hj) (λj hj=>rfl) (λj hj=>rfl) (λj hj=>oE hj) ⟨H.t0,?_,?_,?_,?_,?_⟩ ⟨xd _,j5 _,?_,?_⟩ (Th.plain (by rw[jU];trivial))
 ·intro a ha;simp only[St.to];cases a<;>simp only[uv.own,ne_eq,Option.some.injEq]at ha⊢<;> simp[ha]
 ·intro g hg;simp only[St.to]at hg⊢;rw[e1 g _ hg];exact H.zu g hg
 ·simp only[St.cc,St.to];rw[e1 _ _ (j5 _)];exact H.Ce
 ·simp only[St.to,bA];rw[be I];exact H.Ei
 ·intro n hn;simp only[St.to,St.T,St.cc]at hn⊢;rw[e1 _ _ (j5 _),e1 _ _ (j5 _)];exact H.els n hn
 ·unfold qU;rw[jU];simp only[Di,St.B,St.T,St.L,St.cc,St.to]at P⊢;rw[e1 _ _ (j5 _)];exact P
 ·intro g hg;simp only[St.to];exact e1 g _ hg
 ·intro _ x l hq;refine⟨⟨l,hq⟩,λg hg hx => ?_⟩;simp only[St.to];rw[e1 g _ hg];exact hx
theorem JS(h:DT C s)(hi:i<C.N){c b t cc d}(hp:s.pc i= .pF c b t cc):DT C (aH C s i d).s:=by
 have H:=h.1 i hi;have P:=H.ph;unfold qU at P;rw[hp]at P;simp only at P;unfold aH;rw[hp];simp only;have e1:∀g,g<=s.cur i->uv.cap i g≠.cap i (s.cur i+1):=λg hg e=>by injection e;omega
 refine h.mine hi (λa ha => ?_) (λj hj=>rfl) (λj hj=>rfl) (λj hj=>rfl) (λj hj=>rfl) (λj hj=>oE hj) ⟨?_,?_,?_,?_,?_,?_⟩ ⟨?_,j5 _,?_,?_⟩ (Th.plain (by rw[jU];trivial))
 ·exact nj (λe=>ha (by rw[e];rfl))
 ·simp only[St.T,St.cc,St.to,St.wr,St.put,St.qR];rw[be pX];exact H.t0
 ·intro g hg;simp only[St.T,St.cc,St.to,St.wr,St.put,St.qR];rw[be (e1 g hg)];exact H.zu g hg
 ·simp only[St.T,St.cc,St.to,St.wr,St.put,St.qR];rw[be (e1 _ (j5 _))];exact H.Ce
 ·simp only[St.T,St.cc,St.to,St.wr,St.put,St.qR];rw[be pX];exact H.Ei
 ·intro n hn;simp only[St.T,St.cc,St.to,St.wr,St.put,St.qR]at hn⊢;rw[be pX,be pX,be (e1 _ (j5 _))];exact H.els n hn
 ·unfold qU;rw[jU];simp only[Di,AY,St.B,St.T,St.L,St.cc,St.to,St.wr,bA]at P⊢;rw[be (e1 _ (j5 _)),be pX,be pX];have:=H.zu _ (j5 (s.cur i));refine⟨P,⟨by rw[P.2.2.2.2.1],λm h1 h2=>I⟩,xd _,I⟩
 ·simp only[St.T,St.cc,St.to,St.wr,St.put,St.qR];rw[be pX];exact xd _
 ·intro g hg;exact nj (e1 g hg)
 ·intro _ x l hq;refine⟨⟨l,hq⟩,λg hg hx => ?_⟩;simp only[St.T,St.cc,St.to,St.wr,St.put,St.qR];rw[be pX];exact hx
theorem HW(h:DT C s)(hi:i<C.N){c b t cc n d}(hp:s.pc i= .mD c b t cc n):DT C (aH C s i d).s:=by
 have H:=h.1 i hi;have P:=H.ph;unfold qU at P;rw[hp]at P;simp only at P;unfold aH;rw[hp];simp only;refine h.reads hi rfl rfl rfl rfl rfl (λj hj=>oE hj) ?_ (Th.plain (by rw[jU];trivial));unfold qU;rw[jU];simp only;exact⟨P.1,P.2.1,P.2.2.1,P.2.2.2,by rw[P.1.2.2.2.2.1];rfl⟩
theorem GH(h:DT C s)(hi:i<C.N){c b t cc n x d}(hp:s.pc i= .mK c b t cc n x):DT C (aH C s i d).s:=by
 have H:=h.1 i hi;have P:=H.ph;unfold qU at P;rw[hp]at P;simp only at P;obtain⟨⟨g1,g2,g3,g4,g5,g6,g7⟩,⟨k1,k2⟩,p3,p4,p5⟩:=P;have c1:=H.zu _ (j5 (s.cur i));obtain⟨b1,b2⟩:=IG (C:=C) g7 (by rw[g5];exact c1);unfold aH;rw[hp];simp only;have e1:∀g k,g<=s.cur i->uv.el i g k≠.el i (s.cur i+1) (ix n (jh C cc)):=λg k hg e=>by injection e;omega
 refine h.mine hi (λa ha=>nj (λe=>ha (by rw[e];rfl))) (λj hj=>rfl) (λj hj=>rfl) (λj hj=>rfl) (λj hj=>rfl) (λj hj=>oE hj) ⟨?_,?_,?_,?_,?_,?_⟩ ⟨?_,j5 _,?_,?_⟩ (Th.plain (by rw[jU];by_cases hb:n+1<b<;>simp[hb]))
 ·simp only[St.T,St.cc,St.to,St.wr,St.put,St.qR];rw[be pX];exact H.t0
 ·intro g hg;simp only[St.T,St.cc,St.to,St.wr,St.put,St.qR];rw[be pX];exact H.zu g hg
 ·simp only[St.T,St.cc,St.to,St.wr,St.put,St.qR];rw[be pX];exact H.Ce
 ·simp only[St.T,St.cc,St.to,St.wr,St.put,St.qR];rw[be pX];exact H.Ei
 ·intro n hn;simp only[St.T,St.cc,St.to,St.wr,St.put,St.qR]at hn⊢;rw[be (e1 _ _ (j5 _)),be pX,be pX];exact H.els n hn
 ·have hG:Di C ((s.wr (.el i (s.cur i+1) (ix n (jh C cc))) x).to i (if n+1<b then .mD c b t cc (n+1)else .pG c b t cc)) i b t cc:=by
   simp only[Di,St.B,St.T,St.L,St.cc,St.to,St.wr]at *;rw[be pX,be pX,be pX];exact⟨g1,g2,g3,g4,g5,g6,g7⟩
  have hC:AY C ((s.wr (.el i (s.cur i+1) (ix n (jh C cc))) x).to i (if n+1<b then .mD c b t cc (n+1)else .pG c b t cc)) i (n+1):=by
   simp only[AY,St.T,St.cc,St.to,St.wr]at *;rw[be pX,be pX,be pX];refine⟨k1,λm h1 h2 => ?_⟩;rw[be (e1 _ _ (j5 _)),<-g5];by_cases hm:m=n
   ·subst hm;rw[bA,p5,<-g5]
   ·rw[be (λe=>SV (m:=m) (n:=n) (c:=jh C cc) I I I hm (by injection e)),g5];exact k2 m h1 I
  unfold qU;rw[jU];by_cases hb:n+1<b
  ·simp only[aP hb]at hG hC⊢;exact⟨hG,hC,I,hb⟩
  ·simp only[ct hb]at hG hC⊢;exact⟨hG,by rw[show b=n+1 by omega];rw[show b=n+1 by omega]at hC;exact hC⟩
 ·simp only[St.T,St.cc,St.to,St.wr,St.put,St.qR];rw[be pX];exact xd _
 ·intro g hg;simp only[St.to,St.wr,St.put,St.qR];rw[be pX]
 ·intro _ x l hq;refine⟨⟨l,hq⟩,λg hg hx => ?_⟩;simp only[St.T,St.cc,St.to,St.wr,St.put,St.qR];rw[be (e1 _ _ hg)];exact hx
theorem JT(h:DT C s)(hi:i<C.N){c b t cc d}(hp:s.pc i= .pG c b t cc):DT C (aH C s i d).s:=by
 have H:=h.1 i hi;have P:=H.ph;unfold qU at P;rw[hp]at P;simp only at P;obtain⟨⟨g1,g2,g3,g4,g5,g6,g7⟩,⟨k1,k2⟩⟩:=P;have c1:=H.zu _ (j5 (s.cur i));obtain⟨b1,b2⟩:=IG (C:=C) g7 (by rw[g5];exact c1);unfold aH;rw[hp];simp only;rw[g5]at b1 b2;simp only[St.B,St.T,St.L,St.cc]at *;refine h.mine hi (λa ha=>nj (λe=>ha (by rw[e];rfl))) (λj hj=>be hj) (λj hj=>rfl) (λj hj=>rfl) (λj hj=>rfl) (λj hj=>oE hj) ⟨?_,?_,?_,?_,?_,?_⟩ ⟨?_,?_,?_,?_⟩ (Th.plain (by rw[jU];trivial))
 ·simp only[St.T,St.cc,St.to,St.wr,St.put,St.qR];rw[be pX];exact H.t0
 ·intro g hg;simp only[St.T,St.cc,St.to,St.wr,St.put,St.qR];rw[be pX];simp only[St.to,bA]at hg;by_cases e:g=s.cur i+1
  ·rw[e,k1];omega
  ·exact H.zu g I
 ·simp only[St.cc,St.to,bA];rw[nj pX,k1];exact b2
 ·simp only[St.to,bA];simp only[St.T,St.cc,St.to,St.wr,St.put,St.qR];exact bA _ _ _
 ·intro n hn;simp only[St.T,St.cc,St.to,bA]at hn⊢;rw[nj pX,nj pX,nj pX,k1,k2 _ I (by simp only[St.L,St.wr]at *;omega)];exact H.els n hn
 ·unfold qU;rw[jU];simp only[St.B,St.T,St.L,St.cc,St.to,St.wr,bA]at *;rw[be pX,be pX,be pX,k1,g5];exact⟨g1,g2,I,rfl⟩
 ·simp only[St.T,St.cc,St.to,St.wr,St.put,St.qR];rw[be pX];exact xd _
 ·simp only[St.to,bA];omega
 ·intro g hg;simp only[St.to,St.wr,St.put,St.qR];rw[be pX]
 ·intro _ x l hq;refine⟨⟨l,hq⟩,λg hg hx => ?_⟩;simp only[St.T,St.cc,St.to,St.wr,St.put,St.qR];rw[be pX];exact hx
theorem HX(h:DT C s)(hi:i<C.N){c b cc d}(hp:s.pc i= .mE c b cc):DT C (aH C s i d).s:=by
 have H:=h.1 i hi;have P:=H.ph;unfold qU at P;rw[hp]at P;simp only at P;obtain⟨g1,g2,g3,g4⟩:=P;have c1:=H.zu _ (j5 (s.cur i));have E:=H.els;have t0:=H.t0;unfold aH;rw[hp];simp only;simp only[St.B,St.T,St.L,St.cc]at *;refine h.mine hi (λa ha=>nj (λe=>ha (by rw[e];rfl))) (λj hj=>rfl) (λj hj=>rfl) (λj hj=>rfl) (λj hj=>rfl) (λj hj=>oE hj) ⟨?_,?_,?_,?_,?_,?_⟩ ⟨?_,j5 _,?_,?_⟩ (Th.plain (by rw[jU];trivial))
 ·simp only[St.T,St.cc,St.to,St.wr,St.put,St.qR];rw[be pX];exact H.t0
 ·intro g hg;simp only[St.T,St.cc,St.to,St.wr,St.put,St.qR];rw[be pX];exact H.zu g hg
 ·simp only[St.T,St.cc,St.to,St.wr,St.put,St.qR];rw[be pX];exact H.Ce
 ·simp only[St.T,St.cc,St.to,St.wr,St.put,St.qR];rw[be pX];exact H.Ei
 ·intro n hn;simp only[St.T,St.cc,St.to,St.wr,St.put,St.qR]at hn⊢;rw[be (a:=uv.el i (s.cur i) (ix b cc)) (x:=uv.top i) pX,be (x:=uv.cap i (s.cur i)) pX,g4];have hn':n<(s.q i).length:=hn;rw[be (λe=>SV (m:=s.mem (.top i)+n) (n:=b) (c:=s.mem (.cap i (s.cur i))) I I I I (by injection e))];exact E n hn
 ·unfold qU;rw[jU];simp only[St.B,St.T,St.L,St.cc,St.to,St.wr,bA]at *;rw[be pX,be pX,be pX,g4,bA];exact⟨g1,g2,I,rfl⟩
 ·simp only[St.T,St.cc,St.to,St.wr,St.put,St.qR];rw[be pX];exact xd _
 ·intro g hg;simp only[St.to,St.wr,St.put,St.qR];rw[be pX]
 ·intro ht x l hq;refine⟨⟨l,hq⟩,λg hg hx => ?_⟩;simp only[St.T,St.cc,St.to,St.wr,St.put,St.qR];have hl:1<=(s.q i).length:=by rw[hq];simp
  by_cases eg:g=s.cur i
  ·subst eg;rw[be (λe=>SV (m:=s.mem (.top i)) (n:=b) (c:=s.mem (.cap i (s.cur i))) I I I I (by rw[g4]at e;injection e))];exact hx
  ·rw[be (λe=>eg (by injection e))];exact hx
theorem JU(h:DT C s)(hi:i<C.N){c b d}(hp:s.pc i= .rh c b):DT C (aH C s i d).s:=by
 have H:=h.1 i hi;have P:=H.ph;unfold qU at P;rw[hp]at P;simp only at P;obtain⟨g1,g2,g3,g4⟩:=P;have E:=H.els;have t0:=H.t0;unfold aH;rw[hp];simp only;simp only[St.B,St.T,St.L,St.cc]at *;refine h.mine hi (λa ha=>nj (λe=>ha (by rw[e];rfl))) (λj hj=>rfl) (λj hj=>rfl) (λj hj=>be hj) (λj hj=>rfl) (λj hj=>oE hj) ⟨?_,?_,?_,?_,?_,?_⟩ ⟨?_,j5 _,?_,?_⟩ (Th.plain (by rw[jU];trivial))
 ·simp only[St.T,St.cc,St.to,St.wr,St.put,St.qR];rw[be pX];exact H.t0
 ·intro g hg;simp only[St.T,St.cc,St.to,St.wr,St.put,St.qR];rw[be pX];exact H.zu g hg
 ·simp only[St.T,St.cc,St.to,St.wr,St.put,St.qR];rw[be pX];exact H.Ce
 ·simp only[St.T,St.cc,St.to,St.wr,St.put,St.qR];rw[be pX];exact H.Ei
 ·intro n hn;simp only[St.T,St.cc,St.to,St.put,St.qR,St.wr,bA]at hn⊢;rw[be pX,be pX,be pX];rw[jM,FH]at hn;by_cases e:n<(s.q i).length
  ·rw[List.getD_eq_getElem?_getD,List.getElem?_append_left e,<-List.getD_eq_getElem?_getD];exact E n e
  ·have:n=(s.q i).length:=by omega
   subst this;rw[List.getD_eq_getElem?_getD,List.getElem?_append_right (j5 _)];simp only[Nat.sub_self,List.getElem?_cons_zero,oJ];rw[g2];exact g4
 ·refine(qU.idle (by rw[jU];trivial)).2 ?_;simp only[St.B,St.T,St.L,St.cc,St.to,St.put,St.qR,St.wr,bA,jM,FH]at *;rw[be pX,be pX];constructor<;>omega
 ·simp only[St.T,St.cc,St.to,St.wr,St.put,St.qR];rw[be pX];exact xd _
 ·intro g hg;simp only[St.to,St.wr,St.put,St.qR];rw[be pX]
 ·intro ht x l hq;simp only[St.to,St.put,St.qR,bA];refine⟨⟨l++[c],by rw[hq];rfl⟩,λg hg hx => ?_⟩;simp only[St.T,St.cc,St.to,St.wr,St.put,St.qR];rw[be pX];exact hx
end
section
variable {C:kH}{s:St}{i:Nat}
theorem DT.JV{s':St}(h:DT C s)(hi:i<C.N){v:Int}(hm:s'.mem=cY s.mem (.bot i) v)(h1:s'.cur=s.cur)(h2:s'.base=s.base)(h3:s'.q=s.q)(h4:∀j,j≠i->s'.pop j=s.pop j)
 (hp:∀j,j≠i->s'.pc j=s.pc j) (hd:qU C s' i) (ht:Th C s' i):DT C s':=by
 have H:=h.1 i hi;have e:∀a,a≠.bot i->s'.mem a=s.mem a:=λa ha=>by rw[hm];exact be ha
 refine h.mine hi (λa ha=>e a (λe=>ha (by rw[e];rfl))) (λj _=>by rw[h1]) (λj _=>by rw[h2]) (λj _=>by rw[h3]) h4 hp ⟨?_,?_,?_,?_,?_,hd⟩ ⟨?_,by rw[h1];exact j5 _,?_,?_⟩ ht
 ·simp only[St.T];rw[e _ pX];exact H.t0
 ·intro g hg;rw[e _ pX];rw[h1]at hg;exact H.zu g hg
 ·simp only[St.cc,h1];rw[e _ pX];exact H.Ce
 ·rw[e _ pX,h1,h2];exact H.Ei
 ·intro n hn;simp only[St.T,St.cc,h1,h3]at hn⊢;rw[e _ pX,e _ pX,e _ pX];exact H.els n hn
 ·simp only[St.T];rw[e _ pX];exact xd _
 ·intro g hg;rw[e _ pX]
 ·intro _ x l hq;refine⟨⟨l,by rw[h3];exact hq⟩,λg hg hx => ?_⟩;rw[e _ pX];exact hx
theorem Nr:∀(l:List Nat) (n:Nat),n+1=l.length->l.getD n 0=l.getLastD 0
 | [],n,h=>by simp at h
 | a::l,n,h=>by
  simp only[zS]at h;have:n=l.length:=by omega
  subst this;rw[List.getLastD_cons,List.getD_eq_getElem?_getD,List.getElem?_eq_getElem (by simp),oJ,Oa,List.getLast?_eq_getElem?];cases l with
  | nil=>rfl
  | cons b l=>simp
theorem HY(l:List Nat)(n:Nat)(h:n+1<l.length):l.dropLast.getD n 0=l.getD n 0:=by
 simp only[List.getD_eq_getElem?_getD];rw[List.getElem?_dropLast,pR]
theorem Qp(h:DT C s)(hi:i<C.N){b d}(hp:s.pc i= .Dg b):DT C (aH C s i d).s:=by
 have H:=h.1 i hi;have P:=H.ph;unfold qU at P;rw[hp]at P;simp only at P;obtain⟨g1,g2,g3⟩:=P;have E:=H.els;have t0:=H.t0;unfold aH;rw[hp];simp only;simp only[St.B,St.T,St.L,St.cc]at *;split
 ·rename_i hb;have hl:((s.q i).length-1)+1=(s.q i).length:=by omega
  have hdl:(s.q i).dropLast.length=(s.q i).length-1:=by simp
  refine h.mine hi (λa ha=>rfl) (λj hj=>rfl) (λj hj=>rfl) (λj hj=>be hj) (λj hj=>be hj) (λj hj=>oE hj) ⟨H.t0,H.zu,H.Ce,H.Ei,?_,?_⟩ ⟨xd _,j5 _,λ_ _=>rfl,?_⟩ (Th.plain (by simp[St.mL,St.put,St.qR,St.to]))
  ·intro n hn;simp only[St.T,St.cc,St.to,St.put,St.qR,St.mL,bA]at hn⊢;rw[hdl]at hn;rw[HY _ _ I];exact E n I
  ·unfold qU;simp only[St.mL,St.put,St.qR,St.to,bA,vY,St.B,St.T,St.L,St.cc,hdl];refine⟨g1,I,I,λ_=>⟨I,I,_,rfl,?_⟩,λe=>I⟩;rw[<-Nr _ _ hl,<-E _ I];rw[show s.mem (.top i)+(((s.q i).length-1:Nat):Int)=b by omega]
  ·intro _ x l hq;simp only[St.mL,St.put,St.qR,St.to,bA];refine⟨?_,λg hg hx=>hx⟩;rw[hq]at hl g2⊢;cases l with
   | nil=>simp at g2;omega
   | cons y l=>exact⟨_,rfl⟩
 ·split
  ·rename_i hn ht;refine h.reads hi rfl rfl rfl rfl rfl (λj hj=>oE hj) ?_ (Th.plain (by rw[jU];trivial));unfold qU;simp only[St.to,bA,vY,St.B,St.T,St.L,St.cc];exact⟨g1,I,I,λe=>I,λ_=>⟨g2,I,g3⟩⟩
  ·rename_i hn ht;refine h.reads hi rfl rfl rfl rfl rfl (λj hj=>oE hj) ?_ (Th.plain (by rw[jU];trivial));unfold qU;simp only[St.to,bA,St.B,St.T,St.L,St.cc];exact⟨trivial,I,I⟩
theorem HZ(h:DT C s)(hi:i<C.N){b d}(hp:s.pc i= .rD b):DT C (aH C s i d).s:=by
 have H:=h.1 i hi;have P:=H.ph;unfold qU at P;rw[hp]at P;simp only at P;obtain⟨g1,g2,g3⟩:=P;unfold aH;rw[hp];simp only;refine h.JV hi rfl rfl rfl rfl (λ_ _=>rfl) (λj hj=>oE hj) ?_ (Th.plain (by rw[jU];trivial));unfold qU;simp only[St.to,St.wr,bA,St.B,St.T,St.L,St.cc]at *;rw[be pX,be pX];exact⟨trivial,g2,g3⟩
theorem O6{s:St}:(GG s C i).pc i=if C.N=1 then .flag else .oC:=bA _ _ _
theorem Ej{s:St}:Idle ((GG s C i).pc i):=by rw[O6];split<;>trivial
theorem JW{s:St}:Th C (GG s C i) i:=by
 unfold Th;rw[O6];by_cases h:C.N=1
 ·rw[aP h];trivial
 ·rw[ct h];exact h
theorem H6(h:DT C s)(hi:i<C.N){t d}(hp:s.pc i= .qt t):DT C (aH C s i d).s:=by
 have H:=h.1 i hi;have P:=H.ph;unfold qU at P;rw[hp]at P;simp only at P;obtain⟨g1,g2,g3⟩:=P;have c1:=H.zu _ (j5 (s.cur i));unfold aH;rw[hp];simp only;refine h.JV hi rfl rfl rfl rfl (λ_ _=>rfl) (λj hj=>be hj) ((qU.idle Ej).2 ?_) JW;simp only[GG,St.to,St.wr,St.tA,bA,St.B,St.T,St.L,St.cc]at *;rw[be pX,be pX];exact⟨I,I⟩
theorem JX(h:DT C s)(hi:i<C.N){b t cc d}(hp:s.pc i= .rS b t cc):DT C (aH C s i d).s:=by
 have H:=h.1 i hi;have P:=H.ph;unfold qU at P;rw[hp]at P;simp only[vY]at P;obtain⟨⟨g1,g2,g3,g4,g5⟩,g6⟩:=P;unfold aH;rw[hp];simp only;have E:=H.els;split
 ·rename_i hb;obtain⟨k1,k2,k3⟩:=g4 hb;refine h.mine hi (λa ha=>rfl) (λj hj=>rfl) (λj hj=>rfl) (λj hj=>rfl) (λj hj=>be hj) (λj hj=>be hj) ⟨H.t0,H.zu,H.Ce,H.Ei,E,?_⟩ ⟨xd _,j5 _,λ_ _=>rfl,?_⟩ (Th.plain (by simp[got,St.mL,St.put,St.holds,St.to]))
  ·refine(qU.idle (by simp[got,St.mL,St.put,St.holds,St.to,Idle])).2 ?_;simp only[got,St.mL,St.put,St.holds,St.to,St.B,St.T,St.L,St.cc]at *;exact⟨I,I⟩
  ·intro _ x l hq;exact⟨⟨l,hq⟩,λg hg hx=>hx⟩
 ·rename_i hb;have e:t=b:=by omega
  obtain⟨k1,k2,k3⟩:=g5 e;refine h.reads hi rfl rfl rfl rfl rfl (λj hj=>oE hj) ?_ (Th.plain (by rw[jU];trivial));unfold qU;simp only[St.to,bA,St.B,St.T,St.L,St.cc]at *;refine⟨g1,e,k1,k2,λht => ?_,k3⟩;have hl:(s.q i).length=1:=by omega
  obtain⟨x,hx⟩:=List.length_eq_one_iff.1 hl;have:=E 0 I;rw[hx]at this;simp only[List.getD_cons_zero]at this;rw[show s.mem (.top i)+((0:Nat):Int)=b by omega,<-g6]at this;rw[this,hx];exact⟨rfl,I⟩
theorem LR(h:DT C s)(hi:i<C.N){b t x d}(hp:s.pc i= .uh b t x):DT C (aH C s i d).s:=by
 have H:=h.1 i hi;have P:=H.ph;unfold qU at P;rw[hp]at P;simp only at P;obtain⟨g1,g2,g3,g4,g5,g6⟩:=P;have t0:=H.t0;have c1:=H.zu _ (j5 (s.cur i));unfold aH;rw[hp];simp only;simp only[St.B,St.T,St.L,St.cc]at *;split
 ·rename_i ht;obtain⟨k1,k2⟩:=g5 ht;refine h.mine hi (λa ha=>nj (λe=>ha (by rw[e];rfl))) (λj hj=>rfl) (λj hj=>rfl) (λj hj=>be hj) (λj hj=>be hj) (λj hj=>be hj) ⟨?_,?_,?_,?_,?_,?_⟩ ⟨?_,j5 _,?_,?_⟩ (Th.plain (by simp[St.mL,St.put,St.qR,St.to]))
  ·simp only[St.T,St.mL,St.put,St.qR,St.to,St.wr,bA];omega
  ·intro g hg;simp only[St.mL,St.put,St.qR,St.to,St.wr];rw[be pX];exact H.zu g hg
  ·simp only[St.cc,St.mL,St.put,St.qR,St.to,St.wr];rw[be pX];exact H.Ce
  ·simp only[St.mL,St.put,St.qR,St.to,St.wr];rw[be pX];exact H.Ei
  ·intro n hn;simp[St.mL,St.put,St.qR,St.to]at hn
  ·unfold qU;simp only[St.mL,St.put,St.qR,St.to,bA,St.B,St.T,St.L,St.cc,St.wr];rw[be pX];exact⟨I,trivial,by simp,λ_=>⟨trivial,k2⟩⟩
  ·simp only[St.T,St.mL,St.put,St.qR,St.to,St.wr,bA];omega
  ·intro g hg;simp only[St.mL,St.put,St.qR,St.to,St.wr];rw[be pX]
  ·intro ht' ;simp only[St.T,St.mL,St.put,St.qR,St.to,St.wr,bA]at ht';omega
 ·rename_i ht;refine h.reads hi rfl rfl rfl rfl rfl (λj hj=>oE hj) ?_ (Th.plain (by rw[jU];trivial));unfold qU;simp only[St.to,bA,St.B,St.T,St.L,St.cc]at *;exact⟨I,I,I,λe=>Bool.noConfusion e⟩
theorem LS(h:DT C s)(hi:i<C.N){t x Ae d}(hp:s.pc i= .sL t x Ae):DT C (aH C s i d).s:=by
 have H:=h.1 i hi;have P:=H.ph;unfold qU at P;rw[hp]at P;simp only at P;obtain⟨g1,g2,g3,g4⟩:=P;have c1:=H.zu _ (j5 (s.cur i));unfold aH;rw[hp];simp only;cases Ae
 ·refine h.JV hi rfl rfl rfl rfl (λ_ _=>rfl) (λj hj=>be hj) ((qU.idle Ej).2 ?_) JW;simp only[GG,St.to,St.wr,St.tA,bA,St.B,St.T,St.L,St.cc,Ih,if_false]at *;rw[be pX,be pX];exact⟨I,I⟩
 ·refine h.JV hi rfl rfl rfl rfl (λj hj=>be hj) (λj hj=>be hj) ((qU.idle (by simp[got,St.mL,St.put,St.holds,St.to,Idle])).2 ?_) (Th.plain (by simp[got,St.mL,St.put,St.holds,St.to]));simp only[got,St.to,St.wr,St.tA,St.mL,St.put,St.holds,bA,St.B,St.T,St.L,St.cc,if_true]at *;rw[be pX,be pX];exact⟨I,I⟩
theorem D.Yy{s':St}{v:Nat}{x:Nat}{l:List Nat}(H:D C s v)(hq:s.q v=x::l)(hm:s'.mem=cY s.mem (.top v) (s.T v+1))(h1:s'.cur=s.cur)(h2:s'.base=s.base)(h3:s'.q v=l)(h4:s'.pop v=s.pop v)(hp:s'.pc v=s.pc v):D C s' v:=by
 have e:∀a,a≠.top v->s'.mem a=s.mem a:=λa ha=>by rw[hm];exact be ha
 have et:s'.mem (.top v)=s.mem (.top v)+1:=by rw[hm];exact bA _ _ _
 have E:=H.els;have t0:=H.t0;have eb:=e (.bot v) pX;have ec:=λg=>e (.cap v g) pX;have ee:=λg n=>e (.el v g n) pX;have hl:(s.q v).length=l.length+1:=by rw[hq];rfl
 have P:=H.ph;refine⟨?_,?_,?_,?_,?_,?_⟩
 ·simp only[St.T]at *;rw[et];omega
 ·intro g hg;rw[ec];rw[h1]at hg;exact H.zu g hg
 ·simp only[St.cc,h1];rw[ec];exact H.Ce
 ·rw[e _ pX,h1,h2];exact H.Ei
 ·intro n hn;rw[h3]at hn;simp only[St.T,St.cc,h1,h3]at *;rw[ee,ec,et];have:=E (n+1) I;rw[hq]at this;simp only[List.getD_cons_succ]at this;rw[<-this,show s.mem (.top v)+1+(n:Int)=s.mem (.top v)+((n+1:Nat):Int) by omega]
 ·unfold qU at P⊢;rw[hp];simp only[Di,AY,vY,St.B,St.T,St.L,St.cc,h1,h3,h4,et,eb,ec,ee]at P⊢;rw[hl]at P;split<;>rename_i hh<;>simp only[hh]at P<;>try omega
  ·refine⟨I,⟨P.2.1.1,λm a b=>P.2.1.2 m I b⟩,I⟩
  ·refine⟨I,⟨P.2.1.1,λm a b=>P.2.1.2 m I b⟩,P.2.2.1,P.2.2.2.1,P.2.2.2.2⟩
  ·refine⟨I,⟨P.2.1,λm a b=>P.2.2 m I b⟩⟩
  ·refine⟨P.1,P.2.1,P.2.2.1,λhb => ?_,λhb => ?_⟩
   ·obtain⟨a1,a2,a3⟩:=P.2.2.2.1 hb;exact⟨I,I,a3⟩
   ·obtain⟨a1,a2,a3⟩:=P.2.2.2.2 hb;exact⟨I,I,I⟩
  ·refine⟨⟨P.1.1,P.1.2.1,P.1.2.2.1,λhb => ?_,λhb => ?_⟩,P.2⟩
   ·obtain⟨a1,a2,a3⟩:=P.1.2.2.2.1 hb;exact⟨I,I,a3⟩
   ·obtain⟨a1,a2,a3⟩:=P.1.2.2.2.2 hb;exact⟨I,I,I⟩
end
section
variable {C:kH}{s:St}{i:Nat}
theorem ne1{v:Nat}(hi:i<C.N)(hv:v<C.N)(h:v≠i):C.N≠1:=by omega
theorem H7(h:DT C s)(hi:i<C.N){v t x d}(hp:s.pc i= .oD v t x):DT C (aH C s i d).s:=by
 have P:=h.2 i hi;unfold Th at P;rw[hp]at P;simp only at P;obtain⟨g1,g2,g3,g4⟩:=P;have Hv:=h.1 v g1;have Hi:=h.1 i hi;unfold aH;rw[hp];simp only;split
 ·rename_i ht;obtain⟨y,l,hq,hx⟩:=g4 ht.symm;have ep:∀j,j≠i->(got ((s.wr (.top v) (t+1)).qR v (s.q v).tail) i x v).pc j=s.pc j:=λj hj=>be hj;have em:∀a,a≠.top v->(got ((s.wr (.top v) (t+1)).qR v (s.q v).tail) i x v).mem a=s.mem a:=λa ha=>be ha;have eS:∀j,j≠v->AZ s (got ((s.wr (.top v) (t+1)).qR v (s.q v).tail) i x v) j:=λj hj=>AZ.of (λa ha=>em a (λe=>hj (by rw[e]at ha;exact(Option.some.inj ha).symm))) rfl rfl (be hj) rfl;refine⟨λj hj => ?_,λk hk => ?_⟩
  ·by_cases e:j=v
   ·subst e;exact Hv.Yy hq (by rw[St.T,ht];rfl) rfl rfl (by show(cY s.q j (s.q j).tail) j=l;rw[bA,hq];rfl) rfl (be g2)
   ·by_cases e':j=i
    ·subst e';have hI:Idle (s.pc j):=by rw[hp];trivial
     refine Hi.idle (s':=got ((s.wr (.top v) (t+1)).qR v (s.q v).tail) j x v) ?_ hI (by simp[got,St.put,St.holds,St.to,Idle])
     ·exact AZ.of (λa ha=>em a (λe=>by rw[e]at ha;exact g2 (Option.some.inj ha))) rfl rfl (be e) rfl
    ·exact(h.1 j hj).WT (eS j e) (ep j e')
  ·by_cases e:k=i
   ·subst e;exact Th.plain (by simp[got,St.mL,St.put,St.holds,St.to])
   ·refine(h.2 k hk).calm (λj hj => ?_) (ep k e);by_cases e':j=v
    ·subst e';refine⟨?_,j5 _,λg hg=>em _ pX,λhT => ?_⟩
     ·show s.mem (.top j)<=cY s.mem (.top j) (t+1) (.top j);rw[bA];omega
     ·have:s.mem (.top j)=cY s.mem (.top j) (t+1) (.top j):=hT;rw[bA]at this;omega
    ·exact(eS j e').calm
 ·refine h.gE hi (λ_ _=>rfl) rfl rfl rfl rfl (λj hj=>oE hj) (by rw[hp];trivial) (by rw[jU];trivial) (by unfold Th;rw[jU];exact ne1 hi g1 g2)
theorem Qq(hi:i<C.N)(hN:C.N≠1)(d:Int):(i+1+(d%((C.N:Int)-1)).toNat)%C.N<C.N/\(i+1+(d%((C.N:Int)-1)).toNat)%C.N≠i:=by
 have h1:=EA d (b:=(C.N:Int)-1) I;have h2:=EB d (b:=(C.N:Int)-1) I;generalize hr:(d%((C.N:Int)-1)).toNat=r;have XA:r<C.N-1:=by omega
 refine⟨Nat.mod_lt _ I,?_⟩;by_cases h:i+1+r<C.N
 ·rw[FJ h];omega
 ·rw[Nat.mod_eq_sub_mod I,FJ I];omega
theorem D.bot_le{j:Nat}(h:D C s j):s.B j<=s.T j+s.L j:=by
 have P:=h.ph;unfold qU at P;split at P<;>simp only[Di,vY,St.B,St.T,St.L,St.cc]at * <;> first
  | omega
  | (rcases Int.lt_or_eq_of_le P.2.1 with e | e
     ·have:=P.2.2.2.1 e;omega
     ·have:=P.2.2.2.2 e;omega)
  | (rcases Int.lt_or_eq_of_le P.1.2.1 with e | e
     ·have:=P.1.2.2.2.1 e;omega
     ·have:=P.1.2.2.2.2 e;omega)
def Far:Pc->Prop
 | .oC | .Eh | .vC .. | .rE .. | .qu .. | .oa .. | .oD .. => False
 | _=>True
theorem DT.oL{s':St}{p:Pc}(h:DT C s)(hi:i<C.N)(hm:∀a,a.own≠none->s'.mem a=s.mem a)(h1:s'.cur=s.cur)(h2:s'.base=s.base)(h3:s'.q=s.q)(h4:s'.pop=s.pop)
 (hp:s'.pc=cY s.pc i p) (hid:Idle (s.pc i)) (Yx:Idle p) (hf:Far p):DT C s':=by
 have e:s'.pc i=p:=by rw[hp];exact bA _ _ _
 refine h.gE hi hm h1 h2 h3 h4 (λj hj=>by rw[hp];exact be hj) hid (by rw[e];exact Yx) (Th.plain ?_);rw[e];cases p<;>first | exact hf | trivial
theorem DT.Ns{s':St}(h:DT C s)(hi:i<C.N)(hm:∀a,a.own≠none->s'.mem a=s.mem a)(h1:s'.cur=s.cur)(h2:s'.base=s.base)(h3:s'.q=s.q)(h4:s'.pop=s.pop)
 (hp:s'.pc=s.pc) (hid:Idle (s.pc i)):DT C (GG s' C i):=
 h.gE hi hm h1 h2 h3 h4 (λj hj=>by show cY s'.pc i _ j=s.pc j;rw[be hj,hp]) hid Ej JW
theorem DT.same{s':St}(h:DT C s)(hi:i<C.N)(hm:∀a,a.own≠none->s'.mem a=s.mem a)(h1:s'.cur=s.cur)(h2:s'.base=s.base)(h3:s'.q=s.q)(h4:s'.pop=s.pop)(hp:s'.pc=s.pc)(hr:s.pc i= .run):DT C s':=
 h.gE hi hm h1 h2 h3 h4 (λj hj=>by rw[hp]) (by rw[hr];trivial) (by rw[hp,hr];trivial) (Th.plain (by rw[hp,hr];trivial))
theorem Nt(h:DT C s)(hi:i<C.N)(hp:s.pc i= .run):DT C (instr C s i).s:=by
 unfold instr;simp only;split
 ·exact h.same hi (λ_ _=>rfl) rfl rfl rfl rfl rfl hp
 ·exact h.same hi (λ_ _=>rfl) rfl rfl rfl rfl rfl hp
 ·exact h.same hi (λ_ _=>rfl) rfl rfl rfl rfl rfl hp
 ·exact h.same hi (λ_ _=>rfl) rfl rfl rfl rfl rfl hp
 ·exact h.same hi (λ_ _=>rfl) rfl rfl rfl rfl rfl hp
 ·exact h.same hi (λ_ _=>rfl) rfl rfl rfl rfl rfl hp
 ·exact h.same hi (λ_ _=>rfl) rfl rfl rfl rfl rfl hp
 ·split
  ·exact DT.oL h hi (by intro a ha;exact nj (by intro e;rw[e]at ha;exact ha rfl)) rfl rfl rfl rfl rfl (by rw[hp];trivial) trivial trivial
  ·exact DT.oL h hi (by intro a ha;exact nj (by intro e;rw[e]at ha;exact ha rfl)) rfl rfl rfl rfl rfl (by rw[hp];trivial) trivial trivial
 ·split
  ·exact DT.oL h hi (by intro a ha;exact nj (by intro e;rw[e]at ha;exact ha rfl)) rfl rfl rfl rfl rfl (by rw[hp];trivial) trivial trivial
  ·exact DT.oL h hi (by intro a ha;exact nj (by intro e;rw[e]at ha;exact ha rfl)) rfl rfl rfl rfl rfl (by rw[hp];trivial) trivial trivial
 ·split
  ·exact DT.oL h hi (by intro a ha;exact nj (by intro e;rw[e]at ha;exact ha rfl)) rfl rfl rfl rfl rfl (by rw[hp];trivial) trivial trivial
  ·exact DT.oL h hi (by intro a ha;exact nj (by intro e;rw[e]at ha;exact ha rfl)) rfl rfl rfl rfl rfl (by rw[hp];trivial) trivial trivial
theorem DT.aH(h:DT C s)(hi:i<C.N)(d:Int):DT C (aH C s i d).s:=by
 have H:=h.1 i hi;have HT:=h.2 i hi;have P:=H.ph;cases hp:s.pc i with
 | grow=>exact Qo h hi hp
 | pF=>exact JS h hi hp
 | mD=>exact HW h hi hp
 | mK=>exact GH h hi hp
 | pG=>exact JT h hi hp
 | mE=>exact HX h hi hp
 | rh=>exact JU h hi hp
 | Dg=>exact Qp h hi hp
 | rD=>exact HZ h hi hp
 | qt=>exact H6 h hi hp
 | rS=>exact JX h hi hp
 | uh=>exact LR h hi hp
 | sL=>exact LS h hi hp
 | oD=>exact H7 h hi hp
 | halted=>unfold Am.aH;rw[hp];exact h
 | full=>unfold Am.aH;rw[hp];exact h
 | Cd c =>
  unfold Am.aH;rw[hp];refine h.reads hi rfl rfl rfl rfl rfl (λj hj=>oE hj) ?_ (Th.plain (by rw[jU];trivial));have:=(qU.idle (by rw[hp];trivial)).1 P;unfold qU;simp only[St.to,bA,St.B,St.T,St.L,St.cc]at *;exact⟨trivial,this.1.symm,this.2⟩
 | zR c b =>
  unfold Am.aH;rw[hp];refine h.reads hi rfl rfl rfl rfl rfl (λj hj=>oE hj) ?_ (Th.plain (by rw[jU];trivial));unfold qU at P⊢;rw[hp]at P;simp only[St.to,bA,St.B,St.T,St.L,St.cc]at *;exact⟨P.1,P.2.1,P.2.2,xd _,I⟩
 | tg c b t =>
  unfold Am.aH;rw[hp];refine h.reads hi rfl rfl rfl rfl rfl (λj hj=>oE hj) ?_ (Th.plain (by rw[jU];trivial));unfold qU at P⊢;rw[hp]at P;simp only[St.to,bA,St.B,St.T,St.L,St.cc]at *;exact P
 | th c b t =>
  unfold Am.aH;rw[hp];simp only;unfold qU at P;rw[hp]at P;simp only at P;split
  ·refine h.reads hi rfl rfl rfl rfl rfl (λj hj=>oE hj) ?_ (Th.plain (by rw[jU];trivial));unfold qU;simp only[St.to,bA,St.B,St.T,St.L,St.cc]at *;exact⟨P.1,P.2.1,I,cz⟩
  ·split
   ·refine h.reads hi rfl rfl rfl rfl rfl (λj hj=>oE hj) ?_ (Th.plain (by rw[jU];trivial));refine(qU.idle (by rw[jU];trivial)).2 ?_;simp only[St.to,bA,St.B,St.T,St.L,St.cc]at *;exact⟨I,P.2.2.1⟩
   ·refine h.reads hi rfl rfl rfl rfl rfl (λj hj=>oE hj) ?_ (Th.plain (by rw[jU];trivial));unfold qU;simp only[Di,St.to,bA,St.B,St.T,St.L,St.cc]at *;exact⟨P.1,P.2.1,P.2.2.1,P.2.2.2.1,trivial,I,I⟩
 | Fg =>
  unfold Am.aH;rw[hp];refine h.reads hi rfl rfl rfl rfl rfl (λj hj=>oE hj) ?_ (Th.plain (by rw[jU];trivial));have:=(qU.idle (by rw[hp];trivial)).1 P;unfold qU;simp only[St.to,bA,St.B,St.T,St.L,St.cc]at *;exact⟨I,I,this.2⟩
 | wO b =>
  unfold Am.aH;rw[hp];refine h.reads hi rfl rfl rfl rfl rfl (λj hj=>oE hj) ?_ (Th.plain (by rw[jU];trivial));unfold qU at P⊢;rw[hp]at P;simp only[St.to,bA,St.B,St.T,St.L,St.cc]at *;exact P
 | vA b t =>
  unfold Am.aH;rw[hp];refine h.reads hi rfl rfl rfl rfl rfl (λj hj=>oE hj) ?_ (Th.plain (by rw[jU];trivial));unfold qU at P⊢;rw[hp]at P;simp only[vY,St.to,bA,St.B,St.T,St.L,St.cc]at *;exact⟨P,cz⟩
 | oC =>
  have hN:C.N≠1:=by unfold Th at HT;rw[hp]at HT;exact HT
  unfold Am.aH;rw[hp];simp only;have hv:=Qq hi hN d;refine h.gE hi (λ_ _=>rfl) rfl rfl rfl rfl (λj hj=>oE hj) (by rw[hp];trivial) (by rw[jU];trivial) ?_;unfold Th;rw[jU];exact⟨hv.1,hv.2,xd _⟩
 | vC v t =>
  unfold Th at HT;rw[hp]at HT;simp only at HT;unfold Am.aH;rw[hp];simp only;split
  ·refine h.gE hi (λ_ _=>rfl) rfl rfl rfl rfl (λj hj=>oE hj) (by rw[hp];trivial) (by rw[jU];trivial) ?_;unfold Th;rw[jU];exact ne1 hi HT.1 HT.2.1
  ·rename_i hb;refine h.gE hi (λ_ _=>rfl) rfl rfl rfl rfl (λj hj=>oE hj) (by rw[hp];trivial) (by rw[jU];trivial) ?_;unfold Th;rw[jU];refine⟨HT.1,HT.2.1,HT.2.2,λht => ?_⟩;have hB:=(h.1 v HT.1).bot_le;intro hq;have hB:s.B v<=s.T v+s.L v:=hB;have:s.L v=0:=by show((s.q v).length:Int)=0;rw[show s.q v=[]from hq];rfl
   have ht':t=s.T v:=ht;simp only[St.B]at hB;omega
 | rE v t =>
  unfold Th at HT;rw[hp]at HT;simp only at HT;unfold Am.aH;rw[hp];simp only;refine h.gE hi (λ_ _=>rfl) rfl rfl rfl rfl (λj hj=>oE hj) (by rw[hp];trivial) (by rw[jU];trivial) ?_;unfold Th;rw[jU];refine⟨HT.1,HT.2.1,HT.2.2.1,j5 _,λht => ?_⟩;obtain⟨x,l,hq⟩:=List.exists_cons_of_ne_nil (HT.2.2.2 ht);refine⟨x,l,hq,?_⟩;have:=(h.1 v HT.1).els 0 (by rw[hq];simp);rw[hq]at this;have ht':t=s.T v:=ht;simp only[St.T,St.cc,List.getD_cons_zero]at this ht';rw[ht']
  simpa [St.to]using this
 | qu v t g =>
  unfold Th at HT;rw[hp]at HT;simp only at HT;unfold Am.aH;rw[hp];simp only;refine h.gE hi (λ_ _=>rfl) rfl rfl rfl rfl (λj hj=>oE hj) (by rw[hp];trivial) (by rw[jU];trivial) ?_;unfold Th;rw[jU];exact⟨HT.1,HT.2.1,HT.2.2.1,HT.2.2.2.1,rfl,HT.2.2.2.2⟩
 | oa v t g cc =>
  unfold Th at HT;rw[hp]at HT;simp only at HT;unfold Am.aH;rw[hp];simp only;refine h.gE hi (λ_ _=>rfl) rfl rfl rfl rfl (λj hj=>oE hj) (by rw[hp];trivial) (by rw[jU];trivial) ?_;unfold Th;rw[jU];refine⟨HT.1,HT.2.1,HT.2.2.1,λht => ?_⟩;obtain⟨x,l,hq,hx⟩:=HT.2.2.2.2.2 ht;exact⟨x,l,hq,by rw[HT.2.2.2.2.1];exact hx⟩
 | Eh =>
  have hN:C.N≠1:=by unfold Th at HT;rw[hp]at HT;exact HT
  unfold Am.aH;rw[hp];simp only;split
  ·exact h.gE hi (λ_ _=>rfl) rfl rfl rfl rfl (λj hj=>oE hj) (by rw[hp];trivial) (by rw[jU];trivial) (Th.plain (by rw[jU];trivial))
  ·refine h.gE hi (λ_ _=>rfl) rfl rfl rfl rfl (λj hj=>oE hj) (by rw[hp];trivial) (by rw[jU];split<;>trivial) ?_;unfold Th;rw[jU];by_cases h3:s.fX i<3
   ·simp only[aP h3];exact hN
   ·simp only[ct h3]
 | run =>
  unfold Am.aH;rw[hp];simp only;exact Nt h hi hp
 | tell j =>
  unfold Am.aH;rw[hp];simp only[oG];split
  ·exact DT.oL h hi (by intro a ha;exact nj (by intro e;rw[e]at ha;exact ha rfl)) rfl rfl rfl rfl rfl (by rw[hp];trivial) trivial trivial
  ·split
   ·exact DT.oL h hi (λ_ _=>rfl) rfl rfl rfl rfl rfl (by rw[hp];trivial) trivial trivial
   ·exact DT.oL h hi (λ_ _=>rfl) rfl rfl rfl rfl rfl (by rw[hp];trivial) trivial trivial
 | xz j =>
  unfold Am.aH;rw[hp];simp only[oG];split<;>exact DT.oL h hi (by intro a ha;exact nj (by intro e;rw[e]at ha;exact ha rfl)) rfl rfl rfl rfl rfl (by rw[hp];trivial) trivial trivial
 | done =>
  unfold Am.aH;rw[hp];simp only[oG];split<;>exact DT.oL h hi (by intro a ha;exact nj (by intro e;rw[e]at ha;exact ha rfl)) rfl rfl rfl rfl rfl (by rw[hp];trivial) trivial trivial
 | out p c =>
  unfold Am.aH;rw[hp];simp only;split<;>exact DT.oL h hi (by intro a ha;exact nj (by intro e;rw[e]at ha;exact ha rfl)) rfl rfl rfl rfl rfl (by rw[hp];trivial) trivial trivial
 | HU =>
  unfold Am.aH;rw[hp];simp only;refine DT.oL h hi (λ_ _=>rfl) rfl rfl rfl rfl rfl (by rw[hp];trivial) ?_ ?_<;>split<;>trivial
 | ug j =>
  unfold Am.aH;rw[hp];simp only;split
  ·exact DT.oL h hi (by intro a ha;exact nj (by intro e;rw[e]at ha;exact ha rfl)) rfl rfl rfl rfl rfl (by rw[hp];trivial) trivial trivial
  ·refine DT.oL h hi (λ_ _=>rfl) rfl rfl rfl rfl rfl (by rw[hp];trivial) ?_ ?_<;>split<;>trivial
 | vp =>
  unfold Am.aH;rw[hp];simp only[looking];split
  ·exact DT.oL h hi (λ_ _=>rfl) rfl rfl rfl rfl rfl (by rw[hp];trivial) trivial trivial
  ·split<;>exact DT.oL h hi (λ_ _=>rfl) rfl rfl rfl rfl rfl (by rw[hp];trivial) trivial trivial
 | Dh j t =>
  unfold Am.aH;rw[hp];simp only[looking];split
  ·exact DT.oL h hi (λ_ _=>rfl) rfl rfl rfl rfl rfl (by rw[hp];trivial) trivial trivial
  ·split<;>exact DT.oL h hi (λ_ _=>rfl) rfl rfl rfl rfl rfl (by rw[hp];trivial) trivial trivial
 | parked =>
  unfold Am.aH;rw[hp];simp only;split
  ·exact h
  ·exact DT.Ns h hi (s':=s.tA i 0) (λ_ _=>rfl) rfl rfl rfl rfl rfl (by rw[hp];trivial)
 | back b =>
  unfold Am.aH;rw[hp];simp only[Cu];split
  ·exact DT.oL h hi (by intro a ha;exact nj (by intro e;rw[e]at ha;exact ha rfl)) rfl rfl rfl rfl rfl (by rw[hp];trivial) trivial trivial
  ·split
   ·exact DT.oL h hi (λ_ _=>rfl) rfl rfl rfl rfl rfl (by rw[hp];trivial) trivial trivial
   ·exact DT.Ns h hi (s':=s.tA i 0) (λ_ _=>rfl) rfl rfl rfl rfl rfl (by rw[hp];trivial)
 | vX b =>
  unfold Am.aH;rw[hp];simp only[Cu];split
  ·exact DT.oL h hi (by intro a ha;exact nj (by intro e;rw[e]at ha;exact ha rfl)) rfl rfl rfl rfl rfl (by rw[hp];trivial) trivial trivial
  ·exact DT.Ns h hi (s':=(s.wr .tJ (s.mem .tJ-1)).tA i 0) (by intro a ha;exact nj (by intro e;rw[e]at ha;exact ha rfl)) rfl rfl rfl rfl rfl (by rw[hp];trivial)
 | start x=>unfold Am.aH;rw[hp];exact DT.oL h hi (by intro a ha;exact nj (by intro e;rw[e]at ha;exact ha rfl)) rfl rfl rfl rfl rfl (by rw[hp];trivial) trivial trivial
 | fork c=>unfold Am.aH;rw[hp];exact DT.oL h hi (by intro a ha;exact nj (by intro e;rw[e]at ha;exact ha rfl)) rfl rfl rfl rfl rfl (by rw[hp];trivial) trivial trivial
 | rR=>unfold Am.aH;rw[hp];exact DT.oL h hi (by intro a ha;exact nj (by intro e;rw[e]at ha;exact ha rfl)) rfl rfl rfl rfl rfl (by rw[hp];trivial) trivial trivial
 | take p c=>unfold Am.aH;rw[hp];exact DT.oL h hi (by intro a ha;exact nj (by intro e;rw[e]at ha;exact ha rfl)) rfl rfl rfl rfl rfl (by rw[hp];trivial) trivial trivial
 | vW j=>unfold Am.aH;rw[hp];exact DT.oL h hi (by intro a ha;exact nj (by intro e;rw[e]at ha;exact ha rfl)) rfl rfl rfl rfl rfl (by rw[hp];trivial) trivial trivial
 | flag=>unfold Am.aH;rw[hp];exact DT.oL h hi (by intro a ha;exact nj (by intro e;rw[e]at ha;exact ha rfl)) rfl rfl rfl rfl rfl (by rw[hp];trivial) trivial trivial
 | sleep=>unfold Am.aH;rw[hp];exact DT.oL h hi (by intro a ha;exact nj (by intro e;rw[e]at ha;exact ha rfl)) rfl rfl rfl rfl rfl (by rw[hp];trivial) trivial trivial
 | EG j=>unfold Am.aH;rw[hp];exact DT.oL h hi (λ_ _=>rfl) rfl rfl rfl rfl rfl (by rw[hp];trivial) trivial trivial
end
inductive Yz | none | full | start | run | fork (c:Nat) | push (c:Nat) | one | out (p c:Nat) | take (p c:Nat)
deriving DecidableEq
def sig:Pc->Yz
 | .start _=>.start
 | .run | .HU | .ug _ | .vW _=>.run
 | .fork c=>.fork c
 | .Cd c | .zR c _ | .tg c _ _ | .th c _ _ | .grow c _ _ _ | .pF c _ _ _ | .mD c _ _ _ _
 | .mK c _ _ _ _ _ | .pG c _ _ _ | .mE c _ _ | .rh c _=>.push c
 | .rR=>.one
 | .out p c=>.out p c
 | .take p c=>.take p c
 | .full=>.full
 | _=>.none
structure V where
 g:Nat->Yz
 hold:Nat->Option Nat
 loc:Nat->Loc
 par:Nat->Nat
 nf:Nat
 bt:Nat->List Nat
 q:Nat->List Nat
 pop:Nat->Option Nat
 join:Nat->Int
 mark:Nat->Int
 next:Int
def afq(l:Loc)(n:Int)(k:List Nat):Prop:=
 match l with
 | .waiting=>n=k.length/\k≠[]
 | .rj _ | .sM _=>n=0/\k=[]
 | _=>n=1+k.length
def early:Loc->Bool
 | .free | .bU _ | .Nq _ | .pop _=>true
 | _=>false
def busy:Yz->Bool
 | .start | .run | .fork _ | .push _ | .one=>true
 | _=>false
def rest:Yz->Bool
 | .none | .out _ _ | .take _ _=>true
 | _=>false
def Nu(N:Nat)(g:Nat->Yz)(c:Nat):Loc->Prop
 | .bU j=>j<N/\g j= .fork c
 | _=>False
structure V.FI(N F:Nat)(v:V):Prop where
 zw:1<=v.nf
 wj:v.nf<=F
 nx:v.next=v.nf∨(v.nf=F/\(F:Int)<=v.next)
 free:∀f,v.nf<=f->v.loc f= .free
 used:∀f,f<v.nf->v.loc f≠.free
 new:∀f,v.nf<=f->v.bt f=[]/\v.join f=1
 hold:∀i f,i<N->v.hold i=some f->(v.g i= .one/\v.loc f= .rj i)∨(v.g i≠.one/\v.loc f= .held i)
 hs:∀i,i<N->busy (v.g i)=true->v.hold i≠.none
 hr:∀i,i<N->rest (v.g i)=true->v.hold i= .none
 fk:∀i c,i<N->v.g i= .fork c->c≠0/\v.loc c= .bU i/\v.hold i=some (v.par c)/\∀p,c∉v.bt p
 ps:∀i c,i<N->v.g i= .push c->c≠0/\v.loc c= .bU i/\v.hold i=some (v.par c)/\c∈v.bt (v.par c)
 q:∀j x,j<N->x∈v.q j->x≠0/\v.loc x= .Nq j
 qn:∀j,j<N->(v.q j).Nodup
 pop:∀i x,i<N->v.pop i=some x->x≠0/\v.loc x= .pop i
 tk:∀i p c,i<N->v.g i= .take p c->v.loc p= .sM i
 tp:∀i p c,i<N->v.g i= .take p c->c≠0/\c<v.nf/\p=v.par c
 out:∀i p c,i<N->v.g i= .out p c->c≠0/\v.loc c= .fin i/\p=v.par c
 G:∀p,(v.bt p).Nodup
 kd:∀p c,c∈v.bt p->c≠0/\v.par c=p/\v.loc c≠.gone/\v.loc c≠.free
 un:∀c,c≠0->c<v.nf->v.loc c≠.gone->c∈v.bt (v.par c)∨Nu N v.g c (v.loc c)
 pr:∀c,c<v.nf->v.par c<v.nf
 jn:∀f,f<v.nf->afq (v.loc f) (v.join f) (v.bt f)
 yO:∀f,early (v.loc f)=true->v.mark f=0
 yP:∀i f,i<N->v.g i= .start->v.hold i=some f->v.mark f=0
attribute [grind =] cC
attribute [grind] early busy rest
theorem SW{N g c l}:Nu N g c l=match (l:Loc)with | .bU j=>j<N/\g j= .fork c | _=>False:=by cases l<;>rfl
theorem J_d{l n k}:afq l n k=match (l:Loc)with | .waiting=>n=k.length/\k≠[] | .rj _ | .sM _=>n=0/\k=[] | _=>n=1+(k.length:Int):=by cases l<;>rfl
attribute [grind =] SW J_d
namespace V
variable {N F:Nat}{v:V}{i:Nat}
theorem FI.gE(h:v.FI N F)(hi:i<N){p:Yz}(hb:busy p=true)(hg:busy (v.g i)=true)(hp:p= .run∨p= .full)(h1:v.g i≠.one)(hn:∀c,v.g i≠.fork c) :
 FI N F {v with g:=cY v.g i p} where
 zw:=h.zw
 wj:=h.wj
 nx:=h.nx
 free:=h.free
 used:=h.used
 new:=h.new
 hold:=by have:=h.hold;grind
 hs:=by have:=h.hs;grind
 hr:=by have:=h.hr;grind
 fk:=by have:=h.fk;grind
 ps:=by have:=h.ps;grind
 q:=h.q
 qn:=h.qn
 pop:=h.pop
 tk:=by have:=h.tk;grind
 out:=by have:=h.out;grind
 tp:=by have:=h.tp;grind
 G:=h.G
 kd:=h.kd
 un:=by have:=h.un;grind
 pr:=h.pr
 jn:=h.jn
 yO:=h.yO
 yP:=by have:=h.yP;grind
theorem FI.full(h:v.FI N F)(hi:i<N)(hg:busy (v.g i)=true)(h1:v.g i≠.one)(hn:∀c,v.g i≠.fork c) :
 FI N F {v with g:=cY v.g i .full} where
 zw:=h.zw
 wj:=h.wj
 nx:=h.nx
 free:=h.free
 used:=h.used
 new:=h.new
 hold:=by have:=h.hold;grind
 hs:=by have:=h.hs;grind
 hr:=by have:=h.hr;grind
 fk:=by have:=h.fk;grind
 ps:=by have:=h.ps;grind
 q:=h.q
 qn:=h.qn
 pop:=h.pop
 tk:=by have:=h.tk;grind
 out:=by have:=h.out;grind
 tp:=by have:=h.tp;grind
 G:=h.G
 kd:=h.kd
 un:=by have:=h.un;grind
 pr:=h.pr
 jn:=h.jn
 yO:=h.yO
 yP:=by have:=h.yP;grind
theorem FI.start(h:v.FI N F)(hi:i<N)(hg:v.g i= .start){f:Nat}(hf:v.hold i=some f){m:Int} :
 FI N F {v with g:=cY v.g i .run,mark:=cY v.mark f m} where
 zw:=h.zw
 wj:=h.wj
 nx:=h.nx
 free:=h.free
 used:=h.used
 new:=h.new
 hold:=by have:=h.hold;grind
 hs:=by have:=h.hs;grind
 hr:=by have:=h.hr;grind
 fk:=by have:=h.fk;grind
 ps:=by have:=h.ps;grind
 q:=h.q
 qn:=h.qn
 pop:=h.pop
 tk:=by have:=h.tk;grind
 out:=by have:=h.out;grind
 tp:=by have:=h.tp;grind
 G:=h.G
 kd:=h.kd
 un:=by have:=h.un;grind
 pr:=h.pr
 jn:=h.jn
 yO:=by have:=h.yO;have:=h.hold;grind
 yP:=by have:=h.yP;have:=h.hold;grind
theorem FI.spawn(h:v.FI N F)(hi:i<N)(hg:v.g i= .run){f:Nat}(hf:v.hold i=some f)(hn:v.next<F) :
 FI N F {v with g:=cY v.g i (.fork v.nf),next:=v.next+1,nf:=v.nf+1,par:=cY v.par v.nf f,loc:=cY v.loc v.nf (.bU i)} where
 zw:=by have:=h.zw;have:=h.free;have:=h.used;grind
 wj:=by have:=h.wj;have:=h.free;have:=h.used;have:=h.nx;grind
 nx:=by have:=h.nx;have:=h.free;have:=h.used;have:=h.wj;grind
 free:=by have:=h.free;have:=h.used;grind
 used:=by have:=h.used;have:=h.free;grind
 new:=by have:=h.new;have:=h.free;have:=h.used;grind
 hold:=by have:=h.hold;have:=h.free;have:=h.used;grind
 hs:=by have:=h.hs;have:=h.free;have:=h.used;grind
 hr:=by have:=h.hr;have:=h.free;have:=h.used;grind
 fk:=by have:=h.fk;have:=h.free;have:=h.used;have:=h.kd;have:=h.new;have:=h.hold;grind
 ps:=by have:=h.ps;have:=h.free;have:=h.used;have:=h.kd;grind
 q:=by have:=h.q;have:=h.free;have:=h.used;grind
 qn:=h.qn
 pop:=by have:=h.pop;have:=h.free;have:=h.used;grind
 tk:=by have:=h.tk;have:=h.free;have:=h.used;grind
 out:=by have:=h.out;have:=h.free;have:=h.used;have:=h.pr;grind
 tp:=by have:=h.tp;have:=h.free;have:=h.used;grind
 G:=h.G
 kd:=by have:=h.kd;have:=h.free;have:=h.used;have:=h.new;grind
 un:=by have:=h.un;have:=h.free;have:=h.used;grind
 pr:=by have:=h.pr;have:=h.free;have:=h.used;have:=h.hold;grind
 jn:=by have:=h.jn;have:=h.free;have:=h.used;have:=h.new;grind
 yO:=by have:=h.yO;have:=h.free;have:=h.used;grind
 yP:=by have:=h.yP;have:=h.free;have:=h.used;grind
theorem FI.zx(h:v.FI N F)(hi:i<N)(hg:v.g i= .run)(hn:(F:Int)<=v.next) :
 FI N F {v with g:=cY v.g i .full,next:=v.next+1} where
 zw:=h.zw
 wj:=h.wj
 nx:=by have:=h.nx;have:=h.wj;grind
 free:=h.free
 used:=h.used
 new:=h.new
 hold:=by have:=h.hold;grind
 hs:=by have:=h.hs;grind
 hr:=by have:=h.hr;grind
 fk:=by have:=h.fk;grind
 ps:=by have:=h.ps;grind
 q:=h.q
 qn:=h.qn
 pop:=h.pop
 tk:=by have:=h.tk;grind
 out:=by have:=h.out;grind
 tp:=by have:=h.tp;grind
 G:=h.G
 kd:=h.kd
 un:=by have:=h.un;grind
 pr:=h.pr
 jn:=h.jn
 yO:=h.yO
 yP:=by have:=h.yP;grind
theorem FI.fork(h:v.FI N F)(hi:i<N){c f:Nat}(hg:v.g i= .fork c)(hf:v.hold i=some f) :
 FI N F {v with g:=cY v.g i (.push c),join:=cY v.join f (v.join f+1),bt:=cY v.bt f (c::v.bt f)} where
 zw:=h.zw
 wj:=h.wj
 nx:=h.nx
 free:=h.free
 used:=h.used
 new:=by have:=h.new;have:=h.fk;have:=h.hold;have:=h.free;grind
 hold:=by have:=h.hold;have:=h.fk;grind
 hs:=by have:=h.hs;have:=h.fk;have:=h.hold;grind
 hr:=by have:=h.hr;have:=h.fk;have:=h.hold;grind
 fk:=by have:=h.fk;have:=h.hold;grind
 ps:=by have:=h.ps;have:=h.fk;have:=h.hold;grind
 q:=h.q
 qn:=h.qn
 pop:=h.pop
 tk:=by have:=h.tk;have:=h.fk;have:=h.hold;grind
 out:=by have:=h.out;have:=h.fk;have:=h.hold;grind
 tp:=by have:=h.tp;have:=h.fk;have:=h.hold;grind
 G:=by have:=h.G;have:=h.fk;have:=h.hold;grind
 kd:=by have:=h.kd;have:=h.fk;have:=h.hold;grind
 un:=by have:=h.un;have:=h.fk;have:=h.hold;grind
 pr:=h.pr
 jn:=by have:=h.jn;have:=h.fk;have:=h.hold;grind
 yO:=h.yO
 yP:=by have:=h.yP;have:=h.fk;have:=h.hold;grind
theorem FI.push(h:v.FI N F)(hi:i<N){c:Nat}(hg:v.g i= .push c) :
 FI N F {v with g:=cY v.g i .run,q:=cY v.q i (v.q i++[c]),loc:=cY v.loc c (.Nq i)} where
 zw:=h.zw
 wj:=h.wj
 nx:=h.nx
 free:=by have:=h.free;have:=h.ps;grind
 used:=by have:=h.used;have:=h.ps;grind
 new:=h.new
 hold:=by have:=h.hold;have:=h.ps;grind
 hs:=by have:=h.hs;have:=h.ps;grind
 hr:=by have:=h.hr;have:=h.ps;grind
 fk:=by have:=h.fk;have:=h.ps;grind
 ps:=by have:=h.ps;grind
 q:=by have:=h.q;have:=h.ps;grind
 qn:=by have:=h.qn;have:=h.ps;have:=h.q;grind
 pop:=by have:=h.pop;have:=h.ps;grind
 tk:=by have:=h.tk;have:=h.ps;grind
 out:=by have:=h.out;have:=h.ps;grind
 tp:=by have:=h.tp;have:=h.ps;grind
 G:=h.G
 kd:=by have:=h.kd;have:=h.ps;grind
 un:=by have:=h.un;have:=h.ps;have:=h.hold;grind
 pr:=h.pr
 jn:=by have:=h.jn;have:=h.ps;grind
 yO:=by have:=h.yO;have:=h.ps;grind
 yP:=by have:=h.yP;have:=h.ps;have:=h.hold;grind
theorem FI.wait(h:v.FI N F)(hi:i<N){f:Nat}(hg:v.g i= .run)(hf:v.hold i=some f)(hk:0<v.join f-1) :
 FI N F {v with g:=cY v.g i .none,hold:=cY v.hold i none,join:=cY v.join f (v.join f-1),loc:=cY v.loc f .waiting} where
 zw:=h.zw
 wj:=h.wj
 nx:=h.nx
 free:=by have:=h.free;have:=h.hold;grind
 used:=by have:=h.used;have:=h.hold;grind
 new:=by have:=h.new;have:=h.hold;have:=h.free;grind
 hold:=by have:=h.hold;grind
 hs:=by have:=h.hs;have:=h.hold;grind
 hr:=by have:=h.hr;have:=h.hold;grind
 fk:=by have:=h.fk;have:=h.hold;grind
 ps:=by have:=h.ps;have:=h.hold;grind
 q:=by have:=h.q;have:=h.hold;grind
 qn:=h.qn
 pop:=by have:=h.pop;have:=h.hold;grind
 tk:=by have:=h.tk;have:=h.hold;grind
 out:=by have:=h.out;have:=h.hold;grind
 tp:=by have:=h.tp;have:=h.hold;grind
 G:=h.G
 kd:=by have:=h.kd;have:=h.hold;grind
 un:=by have:=h.un;have:=h.hold;grind
 pr:=h.pr
 jn:=by have:=h.jn;have:=h.hold;grind
 yO:=by have:=h.yO;have:=h.hold;grind
 yP:=by have:=h.yP;have:=h.hold;grind
theorem FI.pass(h:v.FI N F)(hi:i<N){f:Nat}(hg:v.g i= .run)(hf:v.hold i=some f)(hk:¬0<v.join f-1) :
 FI N F {v with g:=cY v.g i .one,join:=cY v.join f (v.join f-1),loc:=cY v.loc f (.rj i)} where
 zw:=h.zw
 wj:=h.wj
 nx:=h.nx
 free:=by have:=h.free;have:=h.hold;grind
 used:=by have:=h.used;have:=h.hold;grind
 new:=by have:=h.new;have:=h.hold;have:=h.free;grind
 hold:=by have:=h.hold;grind
 hs:=by have:=h.hs;have:=h.hold;grind
 hr:=by have:=h.hr;have:=h.hold;grind
 fk:=by have:=h.fk;have:=h.hold;grind
 ps:=by have:=h.ps;have:=h.hold;grind
 q:=by have:=h.q;have:=h.hold;grind
 qn:=h.qn
 pop:=by have:=h.pop;have:=h.hold;grind
 tk:=by have:=h.tk;have:=h.hold;grind
 out:=by have:=h.out;have:=h.hold;grind
 tp:=by have:=h.tp;have:=h.hold;grind
 G:=h.G
 kd:=by have:=h.kd;have:=h.hold;grind
 un:=by have:=h.un;have:=h.hold;grind
 pr:=h.pr
 jn:=by have:=h.jn;have:=h.hold;grind [List.length_eq_zero_iff]
 yO:=by have:=h.yO;have:=h.hold;grind
 yP:=by have:=h.yP;have:=h.hold;grind
theorem FI.one(h:v.FI N F)(hi:i<N){f:Nat}(hg:v.g i= .one)(hf:v.hold i=some f) :
 FI N F {v with g:=cY v.g i .run,join:=cY v.join f 1,loc:=cY v.loc f (.held i)} where
 zw:=h.zw
 wj:=h.wj
 nx:=h.nx
 free:=by have:=h.free;have:=h.hold;grind
 used:=by have:=h.used;have:=h.hold;grind
 new:=by have:=h.new;have:=h.hold;have:=h.free;grind
 hold:=by have:=h.hold;grind
 hs:=by have:=h.hs;have:=h.hold;grind
 hr:=by have:=h.hr;have:=h.hold;grind
 fk:=by have:=h.fk;have:=h.hold;grind
 ps:=by have:=h.ps;have:=h.hold;grind
 q:=by have:=h.q;have:=h.hold;grind
 qn:=h.qn
 pop:=by have:=h.pop;have:=h.hold;grind
 tk:=by have:=h.tk;have:=h.hold;grind
 out:=by have:=h.out;have:=h.hold;grind
 tp:=by have:=h.tp;have:=h.hold;grind
 G:=h.G
 kd:=by have:=h.kd;have:=h.hold;grind
 un:=by have:=h.un;have:=h.hold;grind
 pr:=h.pr
 jn:=by have:=h.jn;have:=h.hold;grind
 yO:=by have:=h.yO;have:=h.hold;grind
 yP:=by have:=h.yP;have:=h.hold;grind
theorem FI.H8(h:v.FI N F)(hi:i<N)(hg:v.g i= .run)(hf:v.hold i=some 0) :
 FI N F {v with g:=cY v.g i .none,hold:=cY v.hold i none,loc:=cY v.loc 0 (.fin i)} where
 zw:=h.zw
 wj:=h.wj
 nx:=h.nx
 free:=by have:=h.free;have:=h.hold;grind
 used:=by have:=h.used;have:=h.hold;grind
 new:=h.new
 hold:=by have:=h.hold;grind
 hs:=by have:=h.hs;have:=h.hold;grind
 hr:=by have:=h.hr;have:=h.hold;grind
 fk:=by have:=h.fk;have:=h.hold;grind
 ps:=by have:=h.ps;have:=h.hold;grind
 q:=by have:=h.q;have:=h.hold;grind
 qn:=h.qn
 pop:=by have:=h.pop;have:=h.hold;grind
 tk:=by have:=h.tk;have:=h.hold;grind
 out:=by have:=h.out;have:=h.hold;grind
 tp:=by have:=h.tp;have:=h.hold;grind
 G:=h.G
 kd:=by have:=h.kd;have:=h.hold;grind
 un:=by have:=h.un;have:=h.hold;grind
 pr:=h.pr
 jn:=by have:=h.jn;have:=h.hold;grind
 yO:=by have:=h.yO;have:=h.hold;grind
 yP:=by have:=h.yP;have:=h.hold;grind
theorem FI.ret(h:v.FI N F)(hi:i<N)(hg:v.g i= .run){f:Nat}(hf:v.hold i=some f)(h0:f≠0) :
 FI N F {v with g:=cY v.g i (.out (v.par f) f),hold:=cY v.hold i none,loc:=cY v.loc f (.fin i)} where
 zw:=h.zw
 wj:=h.wj
 nx:=h.nx
 free:=by have:=h.free;have:=h.hold;grind
 used:=by have:=h.used;have:=h.hold;grind
 new:=h.new
 hold:=by have:=h.hold;grind
 hs:=by have:=h.hs;have:=h.hold;grind
 hr:=by have:=h.hr;have:=h.hold;grind
 fk:=by have:=h.fk;have:=h.hold;grind
 ps:=by have:=h.ps;have:=h.hold;grind
 q:=by have:=h.q;have:=h.hold;grind
 qn:=h.qn
 pop:=by have:=h.pop;have:=h.hold;grind
 tk:=by have:=h.tk;have:=h.hold;grind
 out:=by have:=h.out;have:=h.hold;grind
 tp:=by have:=h.tp;have:=h.hold;grind
 G:=h.G
 kd:=by have:=h.kd;have:=h.hold;grind
 un:=by have:=h.un;have:=h.hold;grind
 pr:=h.pr
 jn:=by have:=h.jn;have:=h.hold;grind
 yO:=by have:=h.yO;have:=h.hold;grind
 yP:=by have:=h.yP;have:=h.hold;grind
theorem FI.gO(h:v.FI N F)(hi:i<N){p c:Nat}(hg:v.g i= .out p c):c∈v.bt p/\c<v.nf/\p<v.nf/\p=v.par c/\v.loc c= .fin i/\c≠0:=by
 have z0:=h.out i p c hi hg;have z1:=h.free c;have z2:=h.un c;have z3:=h.pr c;grind
theorem FI.iz(h:v.FI N F)(hi:i<N){p c:Nat}(hg:v.g i= .out p c)(hn:v.join p-1=0):v.loc p= .waiting/\v.bt p=[c]/\p≠c:=by
 obtain⟨a1,a2,a3,a4,a5,a6⟩:=h.gO hi hg;have z:=h.jn p a3;rw[J_d]at z;have hl:0<(v.bt p).length:=List.length_pos_of_mem a1;split at z
 ·rename_i hw;refine⟨hw,?_,?_⟩
  ·have:(v.bt p).length=1:=by omega
   obtain⟨y,hy⟩:=List.length_eq_one_iff.1 this;rw[hy]at a1⊢;rw[List.mem_singleton.1 a1]
  ·rintro rfl;rw[hw]at a5;cases a5
 ·rw[z.2]at a1;cases a1
 ·rw[z.2]at a1;cases a1
 ·omega
theorem FI.LU(h:v.FI N F)(hi:i<N){p c:Nat}(hg:v.g i= .out p c)(hn:v.join p-1≠0) :
 FI N F {v with g:=cY v.g i .none,join:=cY v.join p (v.join p-1),bt:=cY v.bt p ((v.bt p).erase c),loc:=cY v.loc c .gone} where
 zw:=h.zw
 wj:=h.wj
 nx:=h.nx
 free:=by have y1:=h.gO hi hg;have:=h.free;have:=h.out;grind [List.length_erase_of_mem,List.Nodup.mem_erase_iff,List.Nodup.erase,List.length_eq_zero_iff]
 used:=by have y1:=h.gO hi hg;have:=h.used;have:=h.out;grind [List.length_erase_of_mem,List.Nodup.mem_erase_iff,List.Nodup.erase,List.length_eq_zero_iff]
 new:=by have y1:=h.gO hi hg;have:=h.new;have:=h.out;have:=h.free;grind [List.length_erase_of_mem,List.Nodup.mem_erase_iff,List.Nodup.erase,List.length_eq_zero_iff]
 hold:=by have y1:=h.gO hi hg;have:=h.hold;have:=h.out;grind [List.length_erase_of_mem,List.Nodup.mem_erase_iff,List.Nodup.erase,List.length_eq_zero_iff]
 hs:=by have y1:=h.gO hi hg;have:=h.hs;have:=h.out;grind [List.length_erase_of_mem,List.Nodup.mem_erase_iff,List.Nodup.erase,List.length_eq_zero_iff]
 hr:=by have y1:=h.gO hi hg;have:=h.hr;have:=h.out;grind [List.length_erase_of_mem,List.Nodup.mem_erase_iff,List.Nodup.erase,List.length_eq_zero_iff]
 fk:=by have y1:=h.gO hi hg;have:=h.fk;have:=h.out;grind [List.length_erase_of_mem,List.Nodup.mem_erase_iff,List.Nodup.erase,List.length_eq_zero_iff]
 ps:=by have y1:=h.gO hi hg;have:=h.ps;have:=h.out;grind [List.length_erase_of_mem,List.Nodup.mem_erase_iff,List.Nodup.erase,List.length_eq_zero_iff]
 q:=by have y1:=h.gO hi hg;have:=h.q;have:=h.out;grind [List.length_erase_of_mem,List.Nodup.mem_erase_iff,List.Nodup.erase,List.length_eq_zero_iff]
 qn:=h.qn
 pop:=by have y1:=h.gO hi hg;have:=h.pop;have:=h.out;grind [List.length_erase_of_mem,List.Nodup.mem_erase_iff,List.Nodup.erase,List.length_eq_zero_iff]
 tk:=by have y1:=h.gO hi hg;have:=h.tk;have:=h.out;grind [List.length_erase_of_mem,List.Nodup.mem_erase_iff,List.Nodup.erase,List.length_eq_zero_iff]
 out:=by have y1:=h.gO hi hg;have:=h.out;grind [List.length_erase_of_mem,List.Nodup.mem_erase_iff,List.Nodup.erase,List.length_eq_zero_iff]
 tp:=by have y1:=h.gO hi hg;have:=h.tp;have:=h.out;grind [List.length_erase_of_mem,List.Nodup.mem_erase_iff,List.Nodup.erase,List.length_eq_zero_iff]
 G:=by have y1:=h.gO hi hg;have:=h.G;have:=h.out;grind [List.length_erase_of_mem,List.Nodup.mem_erase_iff,List.Nodup.erase,List.length_eq_zero_iff]
 kd:=by have y1:=h.gO hi hg;have:=h.kd;have:=h.out;have:=h.G;grind [List.length_erase_of_mem,List.Nodup.mem_erase_iff,List.Nodup.erase,List.length_eq_zero_iff]
 un:=λx h0 hxn hl=>by
  have hne:x≠c:=by rintro rfl;exact hl (bA _ _ _)
  have hl':cY v.loc c .gone x=v.loc x:=be hne;show x∈cY v.bt p ((v.bt p).erase c) (v.par x)∨Nu N (cY v.g i .none) x (cY v.loc c .gone x);change cY v.loc c .gone x≠.gone at hl;rw[hl']at hl⊢;rcases h.un x h0 hxn hl with a | a
  ·left;rw[cC];split
   ·next e=>exact(List.mem_erase_of_ne hne).2 (e▸ a)
   ·exact a
  ·right;clear hl';revert a;cases v.loc x<;>grind
 pr:=h.pr
 jn:=by have y1:=h.gO hi hg;have:=h.jn;have:=h.out;have:=h.G;grind [List.length_erase_of_mem,List.Nodup.mem_erase_iff,List.Nodup.erase,List.length_eq_zero_iff]
 yO:=by have y1:=h.gO hi hg;have:=h.yO;have:=h.out;grind [List.length_erase_of_mem,List.Nodup.mem_erase_iff,List.Nodup.erase,List.length_eq_zero_iff]
 yP:=by have y1:=h.gO hi hg;have:=h.yP;have:=h.out;grind [List.length_erase_of_mem,List.Nodup.mem_erase_iff,List.Nodup.erase,List.length_eq_zero_iff]
theorem FI.LV(h:v.FI N F)(hi:i<N){p c:Nat}(hg:v.g i= .out p c)(hn:v.join p-1=0) :
 FI N F {v with g:=cY v.g i (.take p c),join:=cY v.join p (v.join p-1),bt:=cY v.bt p ((v.bt p).erase c),loc:=cY (cY v.loc c .gone) p (.sM i)} where
 zw:=h.zw
 wj:=h.wj
 nx:=h.nx
 free:=by have y1:=h.gO hi hg;have y2:=h.iz hi hg hn;have:=h.free;grind [List.erase_cons_head]
 used:=by have y1:=h.gO hi hg;have y2:=h.iz hi hg hn;have:=h.used;grind [List.erase_cons_head]
 new:=by have y1:=h.gO hi hg;have y2:=h.iz hi hg hn;have:=h.new;have:=h.free;grind [List.erase_cons_head]
 hold:=by have y1:=h.gO hi hg;have y2:=h.iz hi hg hn;have:=h.hold;grind [List.erase_cons_head]
 hs:=by have y1:=h.gO hi hg;have y2:=h.iz hi hg hn;have:=h.hs;grind [List.erase_cons_head]
 hr:=by have y1:=h.gO hi hg;have y2:=h.iz hi hg hn;have:=h.hr;grind [List.erase_cons_head]
 fk:=by have y1:=h.gO hi hg;have y2:=h.iz hi hg hn;have:=h.fk;grind [List.erase_cons_head]
 ps:=by have y1:=h.gO hi hg;have y2:=h.iz hi hg hn;have:=h.ps;grind [List.erase_cons_head]
 q:=by have y1:=h.gO hi hg;have y2:=h.iz hi hg hn;have:=h.q;grind [List.erase_cons_head]
 qn:=h.qn
 pop:=by have y1:=h.gO hi hg;have y2:=h.iz hi hg hn;have:=h.pop;grind [List.erase_cons_head]
 tk:=by have y1:=h.gO hi hg;have y2:=h.iz hi hg hn;have:=h.tk;grind [List.erase_cons_head]
 out:=by have y1:=h.gO hi hg;have y2:=h.iz hi hg hn;have:=h.out;grind [List.erase_cons_head]
 tp:=by have y1:=h.gO hi hg;have y2:=h.iz hi hg hn;have:=h.tp;grind [List.erase_cons_head]
 G:=by have y1:=h.gO hi hg;have y2:=h.iz hi hg hn;have:=h.G;grind [List.erase_cons_head]
 kd:=by have y1:=h.gO hi hg;have y2:=h.iz hi hg hn;have:=h.kd;grind [List.erase_cons_head]
 un:=by have y1:=h.gO hi hg;have y2:=h.iz hi hg hn;have:=h.un;have:=h.kd;grind [List.erase_cons_head]
 pr:=h.pr
 jn:=by have y1:=h.gO hi hg;have y2:=h.iz hi hg hn;have:=h.jn;grind [List.erase_cons_head]
 yO:=by have y1:=h.gO hi hg;have y2:=h.iz hi hg hn;have:=h.yO;grind [List.erase_cons_head]
 yP:=by have y1:=h.gO hi hg;have y2:=h.iz hi hg hn;have:=h.yP;grind [List.erase_cons_head]
theorem FI.take(h:v.FI N F)(hi:i<N){p c:Nat}(hg:v.g i= .take p c) :
 FI N F {v with g:=cY v.g i .run,hold:=cY v.hold i (some p),join:=cY v.join p 1,loc:=cY v.loc p (.held i)} where
 zw:=h.zw
 wj:=h.wj
 nx:=h.nx
 free:=by have:=h.free;have:=h.tk;have:=h.hold;grind
 used:=by have:=h.used;have:=h.tk;have:=h.hold;grind
 new:=by have:=h.new;have:=h.tk;have:=h.hold;have:=h.free;grind
 hold:=by have:=h.hold;have:=h.tk;grind
 hs:=by have:=h.hs;have:=h.tk;have:=h.hold;grind
 hr:=by have:=h.hr;have:=h.tk;have:=h.hold;grind
 fk:=by have:=h.fk;have:=h.tk;have:=h.hold;grind
 ps:=by have:=h.ps;have:=h.tk;have:=h.hold;grind
 q:=by have:=h.q;have:=h.tk;have:=h.hold;grind
 qn:=h.qn
 pop:=by have:=h.pop;have:=h.tk;have:=h.hold;grind
 tk:=by have:=h.tk;have:=h.hold;grind
 out:=by have:=h.out;have:=h.tk;have:=h.hold;grind
 tp:=by have:=h.tp;have:=h.tk;have:=h.hold;grind
 G:=h.G
 kd:=by have:=h.kd;have:=h.tk;have:=h.hold;grind
 un:=by have:=h.un;have:=h.tk;have:=h.hold;grind
 pr:=h.pr
 jn:=by have:=h.jn;have:=h.tk;have:=h.hold;grind
 yO:=by have:=h.yO;have:=h.tk;have:=h.hold;grind
 yP:=by have:=h.yP;have:=h.tk;have:=h.hold;grind
theorem FI.mL(h:v.FI N F)(hi:i<N){x:Nat}{l:List Nat}(hg:v.g i= .none)(hq:v.q i=l++[x]) :
 FI N F {v with q:=cY v.q i l,loc:=cY v.loc x (.pop i),pop:=cY v.pop i (some x)} where
 zw:=h.zw
 wj:=h.wj
 nx:=h.nx
 free:=by have:=h.free;have:=h.q;grind [List.nodup_append]
 used:=by have:=h.used;have:=h.q;grind [List.nodup_append]
 new:=h.new
 hold:=by have:=h.hold;have:=h.q;grind [List.nodup_append]
 hs:=h.hs
 hr:=h.hr
 fk:=by have:=h.fk;have:=h.q;grind [List.nodup_append]
 ps:=by have:=h.ps;have:=h.q;grind [List.nodup_append]
 q:=by have:=h.q;have:=h.qn;grind [List.nodup_append]
 qn:=by have:=h.qn;have:=h.q;grind [List.nodup_append]
 pop:=by have:=h.pop;have:=h.q;grind [List.nodup_append]
 tk:=by have:=h.tk;have:=h.q;grind [List.nodup_append]
 out:=by have:=h.out;have:=h.q;grind [List.nodup_append]
 tp:=h.tp
 G:=h.G
 kd:=by have:=h.kd;have:=h.q;grind [List.nodup_append]
 un:=by have:=h.un;have:=h.q;grind [List.nodup_append]
 pr:=h.pr
 jn:=by have:=h.jn;have:=h.q;grind [List.nodup_append]
 yO:=by have:=h.yO;have:=h.q;grind [List.nodup_append]
 yP:=h.yP
theorem FI.LW(h:v.FI N F)(hi:i<N){x:Nat}(hg:v.g i= .none)(hq:v.q i=[x]) :
 FI N F {v with q:=cY v.q i [],loc:=cY v.loc x (.pop i),pop:=cY v.pop i (some x)} where
 zw:=h.zw
 wj:=h.wj
 nx:=h.nx
 free:=by have:=h.free;have:=h.q;grind
 used:=by have:=h.used;have:=h.q;grind
 new:=h.new
 hold:=by have:=h.hold;have:=h.q;grind
 hs:=h.hs
 hr:=h.hr
 fk:=by have:=h.fk;have:=h.q;grind
 ps:=by have:=h.ps;have:=h.q;grind
 q:=by have:=h.q;have:=h.qn;grind
 qn:=by have:=h.qn;have:=h.q;grind
 pop:=by have:=h.pop;have:=h.q;grind
 tk:=by have:=h.tk;have:=h.q;grind
 out:=by have:=h.out;have:=h.q;grind
 tp:=h.tp
 G:=h.G
 kd:=by have:=h.kd;have:=h.q;grind
 un:=by have:=h.un;have:=h.q;grind
 pr:=h.pr
 jn:=by have:=h.jn;have:=h.q;grind
 yO:=by have:=h.yO;have:=h.q;grind
 yP:=h.yP
theorem FI.got(h:v.FI N F)(hi:i<N){x:Nat}(hg:v.g i= .none)(hx:v.pop i=some x) :
 FI N F {v with g:=cY v.g i .start,hold:=cY v.hold i (some x),loc:=cY v.loc x (.held i),pop:=cY v.pop i none} where
 zw:=h.zw
 wj:=h.wj
 nx:=h.nx
 free:=by have:=h.free;have:=h.pop;grind
 used:=by have:=h.used;have:=h.pop;grind
 new:=h.new
 hold:=by have:=h.hold;have:=h.pop;grind
 hs:=by have:=h.hs;have:=h.pop;grind
 hr:=by have:=h.hr;have:=h.pop;grind
 fk:=by have:=h.fk;have:=h.pop;grind
 ps:=by have:=h.ps;have:=h.pop;grind
 q:=by have:=h.q;have:=h.pop;grind
 qn:=h.qn
 pop:=by have:=h.pop;grind
 tk:=by have:=h.tk;have:=h.pop;grind
 out:=by have:=h.out;have:=h.pop;grind
 tp:=by have:=h.tp;have:=h.pop;grind
 G:=h.G
 kd:=by have:=h.kd;have:=h.pop;grind
 un:=by have:=h.un;have:=h.pop;grind
 pr:=h.pr
 jn:=by have:=h.jn;have:=h.pop;grind
 yO:=by have:=h.yO;have:=h.pop;grind
 yP:=by have:=h.yP;have:=h.pop;have:=h.yO;have:=h.hold;grind
theorem FI.EH(h:v.FI N F)(hi:i<N){x w:Nat}{l:List Nat}(hw:w<N)(hg:v.g i= .none)(hx:v.q w=x::l) :
 FI N F {v with g:=cY v.g i .start,hold:=cY v.hold i (some x),loc:=cY v.loc x (.held i),q:=cY v.q w l} where
 zw:=h.zw
 wj:=h.wj
 nx:=h.nx
 free:=by have:=h.free;have:=h.q;grind [List.nodup_cons]
 used:=by have:=h.used;have:=h.q;grind [List.nodup_cons]
 new:=h.new
 hold:=by have:=h.hold;have:=h.q;grind [List.nodup_cons]
 hs:=by have:=h.hs;have:=h.q;grind [List.nodup_cons]
 hr:=by have:=h.hr;have:=h.q;grind [List.nodup_cons]
 fk:=by have:=h.fk;have:=h.q;grind [List.nodup_cons]
 ps:=by have:=h.ps;have:=h.q;grind [List.nodup_cons]
 q:=by have:=h.q;have:=h.qn;grind [List.nodup_cons]
 qn:=by have:=h.qn;have:=h.q;grind [List.nodup_cons]
 pop:=by have:=h.pop;have:=h.q;grind [List.nodup_cons]
 tk:=by have:=h.tk;have:=h.q;grind [List.nodup_cons]
 out:=by have:=h.out;have:=h.q;grind [List.nodup_cons]
 tp:=by have:=h.tp;have:=h.q;grind [List.nodup_cons]
 G:=h.G
 kd:=by have:=h.kd;have:=h.q;grind [List.nodup_cons]
 un:=by have:=h.un;have:=h.q;grind [List.nodup_cons]
 pr:=h.pr
 jn:=by have:=h.jn;have:=h.q;grind [List.nodup_cons]
 yO:=by have:=h.yO;have:=h.q;grind [List.nodup_cons]
 yP:=by have:=h.yP;have:=h.q;have:=h.yO;have:=h.hold;grind [List.nodup_cons]
end V
def view(s:St):V:=⟨λi=>sig (s.pc i),s.hold,s.loc,λf=>(s.fr f).par,s.nf,s.bt,s.q,s.pop,λf=>s.mem (.join f),λf=>s.mem (.mark f),s.mem .next⟩
theorem qv{α β:Type}[DecidableEq α](f:α->β)(a:α):cY f a (f a)=f:=by
 funext x;simp only[cC];split
 ·next e=>rw[e]
 ·rfl
def uv.ZM:uv->Bool
 | .join _ | .mark _ | .next=>true
 | _=>false
structure afs where
 v:V
 nA:Nat->Int
 kc:Nat->Nat
 fx:Nat->Int
def vq:Pc->Int
 | .start x=>x
 | _=>0
def wv(s:St):afs:=⟨view s,λf=>(s.fr f).nA,λf=>(s.fr f).bt,λi=>vq (s.pc i)⟩
def quiet:Option Ev->Bool
 | none=>true
 | some x=>x.kind==3||x.kind==9||x.kind==10
inductive Tr(C:kH)(i:Nat)(w:afs):Option Ev->afs->Prop
 | gE (e:Option Ev) (he:quiet e=true):Tr C i w e w
 | full (c:Nat) (hg:w.v.g i= .push c):Tr C i w (ev 11 c 1 0) {w with v:={w.v with g:=cY w.v.g i .full}}
 | start (f:Nat) (hg:w.v.g i= .start) (hf:w.v.hold i=some f):Tr C i w (ev 1 f (w.fx i) (w.v.mark f+1))
  { w with v:={w.v with g:=cY w.v.g i .run,mark:=cY w.v.mark f (w.v.mark f+1)},fx:=cY w.fx i 0}
 | spawn (f:Nat) (hg:w.v.g i= .run) (hf:w.v.hold i=some f) (hn:w.v.next<C.F):Tr C i w none
  { w with v:={w.v with g:=cY w.v.g i (.fork w.v.nf),next:=w.v.next+1,nf:=w.v.nf+1,par:=cY w.v.par w.v.nf f,loc:=cY w.v.loc w.v.nf (.bU i)},nA:=cY w.nA w.v.nf (C.pd (w.nA f) (w.kc f)),kc:=cY (cY w.kc f (w.kc f+1)) w.v.nf 0}
 | zx (hg:w.v.g i= .run) (hn:(C.F:Int)<=w.v.next):Tr C i w (ev 11 (-1) 0 0) {w with v:={w.v with g:=cY w.v.g i .full,next:=w.v.next+1}}
 | fork (c f:Nat) (hg:w.v.g i= .fork c) (hf:w.v.hold i=some f):Tr C i w none
  { w with v:={w.v with g:=cY w.v.g i (.push c),join:=cY w.v.join f (w.v.join f+1),bt:=cY w.v.bt f (c::w.v.bt f)}}
 | push (c f:Nat) (hg:w.v.g i= .push c) (hf:w.v.hold i=some f):Tr C i w (ev 2 c f (w.nA c)) {w with v:={w.v with g:=cY w.v.g i .run,q:=cY w.v.q i (w.v.q i++[c]),loc:=cY w.v.loc c (.Nq i)}}
 | wait (f:Nat) (hg:w.v.g i= .run) (hf:w.v.hold i=some f) (hk:0<w.v.join f-1):Tr C i w (ev 4 f 0 0)
  { w with v:={w.v with g:=cY w.v.g i .none,hold:=cY w.v.hold i none,join:=cY w.v.join f (w.v.join f-1),loc:=cY w.v.loc f .waiting}}
 | pass (f:Nat) (hg:w.v.g i= .run) (hf:w.v.hold i=some f) (hk:¬0<w.v.join f-1):Tr C i w none
  { w with v:={w.v with g:=cY w.v.g i .one,join:=cY w.v.join f (w.v.join f-1),loc:=cY w.v.loc f (.rj i)}}
 | one (f:Nat) (hg:w.v.g i= .one) (hf:w.v.hold i=some f):Tr C i w (ev 5 f 0 0)
  { w with v:={w.v with g:=cY w.v.g i .run,join:=cY w.v.join f 1,loc:=cY w.v.loc f (.held i)}}
 | H8 (v:Int) (hg:w.v.g i= .run) (hf:w.v.hold i=some 0):Tr C i w (ev 6 0 (-1) v)
  { w with v:={w.v with g:=cY w.v.g i .none,hold:=cY w.v.hold i none,loc:=cY w.v.loc 0 (.fin i)}}
 | ret (f:Nat) (v:Int) (hg:w.v.g i= .run) (hf:w.v.hold i=some f) (h0:f≠0):Tr C i w (ev 6 f (w.v.par f) v)
  { w with v:={w.v with g:=cY w.v.g i (.out (w.v.par f) f),hold:=cY w.v.hold i none,loc:=cY w.v.loc f (.fin i)}}
 | LU (p c:Nat) (hg:w.v.g i= .out p c) (hn:w.v.join p-1≠0):Tr C i w none
  { w with v:={w.v with g:=cY w.v.g i .none,join:=cY w.v.join p (w.v.join p-1),bt:=cY w.v.bt p ((w.v.bt p).erase c),loc:=cY w.v.loc c .gone}}
 | LV (p c:Nat) (hg:w.v.g i= .out p c) (hn:w.v.join p-1=0):Tr C i w none
  { w with v:={w.v with g:=cY w.v.g i (.take p c),join:=cY w.v.join p (w.v.join p-1),bt:=cY w.v.bt p ((w.v.bt p).erase c),loc:=cY (cY w.v.loc c .gone) p (.sM i)}}
 | take (p c:Nat) (hg:w.v.g i= .take p c):Tr C i w (ev 7 p c 0)
  { w with v:={w.v with g:=cY w.v.g i .run,hold:=cY w.v.hold i (some p),join:=cY w.v.join p 1,loc:=cY w.v.loc p (.held i)}}
 | mL (x:Nat) (l:List Nat) (hg:w.v.g i= .none) (hq:w.v.q i=l++[x]):Tr C i w none {w with v:={w.v with q:=cY w.v.q i l,loc:=cY w.v.loc x (.pop i),pop:=cY w.v.pop i (some x)}}
 | LW (x:Nat) (hg:w.v.g i= .none) (hq:w.v.q i=[x]):Tr C i w none {w with v:={w.v with q:=cY w.v.q i [],loc:=cY w.v.loc x (.pop i),pop:=cY w.v.pop i (some x)}}
 | got (x:Nat) (hg:w.v.g i= .none) (hx:w.v.pop i=some x):Tr C i w none
  { w with v:={w.v with g:=cY w.v.g i .start,hold:=cY w.v.hold i (some x),loc:=cY w.v.loc x (.held i),pop:=cY w.v.pop i none},fx:=cY w.fx i (-1)}
 | EH (k x:Nat) (l:List Nat) (hk:k<C.N) (I7:k≠i) (hg:w.v.g i= .none) (hx:w.v.q k=x::l):Tr C i w (ev 8 x k 0)
  { w with v:={w.v with g:=cY w.v.g i .start,hold:=cY w.v.hold i (some x),loc:=cY w.v.loc x (.held i),q:=cY w.v.q k l},fx:=cY w.fx i k}
theorem Tr.fi{C:kH}{i:Nat}{w w':afs}{e:Option Ev}(t:Tr C i w e w')(hi:i<C.N)(h:w.v.FI C.N C.F):w'.v.FI C.N C.F:=by
 cases t with
 | gE _=>exact h
 | full c hg=>exact h.full hi (by rw[hg];rfl) (by rw[hg];simp) (by rw[hg];simp)
 | start f hg hf=>exact h.start hi hg hf
 | spawn f hg hf hn=>exact h.spawn hi hg hf hn
 | zx hg hn=>exact h.zx hi hg hn
 | fork c f hg hf=>exact h.fork hi hg hf
 | push c f hg hf=>exact h.push hi hg
 | wait f hg hf hk=>exact h.wait hi hg hf hk
 | pass f hg hf hk=>exact h.pass hi hg hf hk
 | one f hg hf=>exact h.one hi hg hf
 | H8 v hg hf=>exact h.H8 hi hg hf
 | ret f v hg hf h0=>exact h.ret hi hg hf h0
 | LU p c hg hn=>exact h.LU hi hg hn
 | LV p c hg hn=>exact h.LV hi hg hn
 | take p c hg=>exact h.take hi hg
 | mL x l hg hq=>exact h.mL hi hg hq
 | LW x hg hq=>exact h.LW hi hg hq
 | got x hg hx=>exact h.got hi hg hx
 | EH k x l hk I7 hg hx=>exact h.EH hi hk hg hx
theorem s7{C:kH}{i:Nat}{w w' w'':afs}{e:Option Ev}(h:w''=w')(t:Tr C i w e w'):Tr C i w e w'':=h▸ t
def GI(x:Fr):Nat×Int×Nat:=(x.par,x.nA,x.bt)
section
variable {C:kH}{s:St}{i:Nat}{N F:Nat}
theorem WU{s':St}(h0:∀j,sig (s'.pc j)=sig (s.pc j))(hx:∀j,vq (s'.pc j)=vq (s.pc j))(h1:s'.hold=s.hold)(h2:s'.loc=s.loc)(h3:∀f,GI (s'.fr f)=GI (s.fr f))(h4:s'.nf=s.nf)(h5:s'.bt=s.bt)
 (h6:s'.q=s.q) (h7:s'.pop=s.pop) (hm:∀a,a.ZM=true->s'.mem a=s.mem a):wv s'=wv s:=by
 have a1:(λf=>(s'.fr f).par)=λf=>(s.fr f).par:=funext λf=>mX (·.1) (h3 f);have a2:(λf=>(s'.fr f).nA)=λf=>(s.fr f).nA:=funext λf=>mX (·.2.1) (h3 f);have a3:(λf=>(s'.fr f).bt)=λf=>(s.fr f).bt:=funext λf=>mX (·.2.2) (h3 f);unfold wv view;rw[h1,h2,h4,h5,h6,h7,hm .next rfl,funext h0,funext hx,a1,a2,a3,funext (λf=>hm (.join f) rfl),funext (λf=>hm (.mark f) rfl)]
theorem gE{s':St}{p:Pc}{e:Option Ev}(hp:s'.pc=cY s.pc i p)(hs:sig p=sig (s.pc i)/\vq p=vq (s.pc i))(h1:s'.hold=s.hold)(h2:s'.loc=s.loc)(h3:∀f,GI (s'.fr f)=GI (s.fr f))(h4:s'.nf=s.nf)(h5:s'.bt=s.bt)
 (h6:s'.q=s.q) (h7:s'.pop=s.pop) (hm:∀a,a.ZM=true->s'.mem a=s.mem a) (he:quiet e=true):Tr C i (wv s) e (wv s'):=by
 refine s7 (WU (λj => ?_) (λj => ?_) h1 h2 h3 h4 h5 h6 h7 hm) (.gE _ he)
 ·rw[hp,cC];split
  ·next e=>rw[e];exact hs.1
  ·rfl
 ·rw[hp,cC];split
  ·next e=>rw[e];exact hs.2
  ·rfl
theorem GJ{s':St}{e:Option Ev}(hp:s'.pc=s.pc)(h1:s'.hold=s.hold)(h2:s'.loc=s.loc)(h3:∀f,GI (s'.fr f)=GI (s.fr f))(h4:s'.nf=s.nf)(h5:s'.bt=s.bt)
 (h6:s'.q=s.q) (h7:s'.pop=s.pop) (hm:∀a,a.ZM=true->s'.mem a=s.mem a) (he:quiet e=true):Tr C i (wv s) e (wv s'):=
 s7 (WU (λj=>by rw[hp]) (λj=>by rw[hp]) h1 h2 h3 h4 h5 h6 h7 hm) (.gE _ he)
theorem sg{a x:uv}{v:Int}(h:a.ZM=false):x.ZM=true->(s.wr a v).mem x=s.mem x:=λhx=>nj (by rintro rfl;rw[h]at hx;cases hx)
theorem zy{f:Nat}{x:Fr}(h:GI x=GI (s.fr f))(j:Nat):GI ((s.lay f x).fr j)=GI (s.fr j):=by
 show GI (cY s.fr f x j)=_;rw[cC];split
 ·next e=>rw[e,h]
 ·rfl
theorem sA(hf:(view s).FI N F)(hi:i<N)(hb:busy (sig (s.pc i))=true) :∃f,s.hold i=some f:=by
 have:=hf.hs i hi hb;exact Option.ne_none_iff_exists'.1 this
theorem uj{w w':afs}(h1:∀j,w.v.g j=w'.v.g j)(h2:∀j,w.v.hold j=w'.v.hold j)(h3:∀j,w.v.loc j=w'.v.loc j)(h4:∀j,w.v.par j=w'.v.par j)(h5:w.v.nf=w'.v.nf)(h6:∀j,w.v.bt j=w'.v.bt j)
 (h7:∀j,w.v.q j=w'.v.q j) (h8:∀j,w.v.pop j=w'.v.pop j) (h9:∀j,w.v.join j=w'.v.join j) (h10:∀j,w.v.mark j=w'.v.mark j) (h11:w.v.next=w'.v.next) (h12:∀j,w.nA j=w'.nA j) (ZN:∀j,w.kc j=w'.kc j) (h14:∀j,w.fx j=w'.fx j):w=w':=by
 obtain⟨⟨⟩⟩:=w;obtain⟨⟨⟩⟩:=w';simp only[afs.mk.injEq,V.mk.injEq];exact⟨⟨funext h1,funext h2,funext h3,funext h4,h5,funext h6,funext h7,funext h8,funext h9,funext h10,h11⟩,funext h12,funext ZN,funext h14⟩
theorem SX(hf:(view s).FI C.N C.F)(hi:i<C.N)(hp:s.pc i= .run):Tr C i (wv s) (instr C s i).ev (wv (instr C s i).s):=by
 have hg:(view s).g i= .run:=by show sig (s.pc i)=_;rw[hp];rfl
 obtain⟨f,hh⟩:=sA hf hi (by rw[hp];rfl);have hh':(view s).hold i=some f:=hh;unfold Am.instr;simp only[hh,oJ];split
 ·exact GJ rfl rfl rfl (zy rfl) rfl rfl rfl rfl (λ_ _=>rfl) rfl
 ·exact GJ rfl rfl rfl (zy rfl) rfl rfl rfl rfl (λ_ _=>rfl) rfl
 ·exact GJ rfl rfl rfl (zy rfl) rfl rfl rfl rfl (λ_ _=>rfl) rfl
 ·exact GJ rfl rfl rfl (zy rfl) rfl rfl rfl rfl (λ_ _=>rfl) rfl
 ·exact GJ rfl rfl rfl (zy (by split<;>rfl)) rfl rfl rfl rfl (λ_ _=>rfl) rfl
 ·exact GJ rfl rfl rfl (zy rfl) rfl rfl rfl rfl (λ_ _=>rfl) rfl
 ·exact GJ rfl rfl rfl (zy rfl) rfl rfl rfl rfl (λ_ _=>rfl) rfl
 ·rename_i sl g c hc;split
  ·rename_i hn;refine s7 ?_ (Tr.zx hg (by show(C.F:Int)<=s.mem .next;omega))
   apply uj<;>(try intro j)<;>simp only[wv,view,St.wr,St.lay,St.to,St.put,St.holds,St.qR,St.mL,St.Fh,St.tA,got,cC,cO]<;>grind [sig,vq,lf]
  ·rename_i hn;refine s7 ?_ (Tr.spawn f hg hh' (by show s.mem .next<(C.F:Int);omega))
   apply uj<;>(try intro j)<;>simp only[wv,view,St.wr,St.lay,St.to,St.put,St.holds,St.qR,St.mL,St.Fh,St.tA,got,cC,cO]<;>grind [sig,vq,lf]
 ·split
  ·rename_i hn;refine s7 ?_ (Tr.wait f hg hh' (by simpa [wv,view]using hn))
   apply uj<;>(try intro j)<;>simp only[wv,view,St.wr,St.lay,St.to,St.put,St.holds,St.qR,St.mL,St.Fh,St.tA,got,cC,cO]<;>grind [sig,vq,lf]
  ·rename_i hn;refine s7 ?_ (Tr.pass f hg hh' (by simpa [wv,view]using hn))
   apply uj<;>(try intro j)<;>simp only[wv,view,St.wr,St.lay,St.to,St.put,St.holds,St.qR,St.mL,St.Fh,St.tA,got,cC,cO]<;>grind [sig,vq,lf]
 ·split
  ·rename_i h0;subst h0;refine s7 ?_ (Tr.H8 _ hg hh')
   apply uj<;>(try intro j)<;>simp only[wv,view,St.wr,St.lay,St.to,St.put,St.holds,St.qR,St.mL,St.Fh,St.tA,got,cC,cO]<;>grind [sig,vq,lf]
  ·rename_i h0;refine s7 ?_ (Tr.ret f _ hg hh' h0)
   apply uj<;>(try intro j)<;>simp only[wv,view,St.wr,St.lay,St.to,St.put,St.holds,St.qR,St.mL,St.Fh,St.tA,got,cC,cO]<;>grind [sig,vq,lf]
theorem Fy(hf:(view s).FI C.N C.F)(hd:DT C s)(hi:i<C.N)(d:Int):Tr C i (wv s) (aH C s i d).ev (wv (aH C s i d).s):=by
 cases hp:s.pc i with
 | Cd c =>
  unfold Am.aH;rw[hp];simp only;exact gE rfl (by rw[hp];exact⟨rfl,rfl⟩) rfl rfl (λ_=>rfl) rfl rfl rfl rfl (λ_ _=>rfl) rfl
 | zR c b =>
  unfold Am.aH;rw[hp];simp only;exact gE rfl (by rw[hp];exact⟨rfl,rfl⟩) rfl rfl (λ_=>rfl) rfl rfl rfl rfl (λ_ _=>rfl) rfl
 | tg c b t =>
  unfold Am.aH;rw[hp];simp only;exact gE rfl (by rw[hp];exact⟨rfl,rfl⟩) rfl rfl (λ_=>rfl) rfl rfl rfl rfl (λ_ _=>rfl) rfl
 | Fg =>
  unfold Am.aH;rw[hp];simp only;exact gE rfl (by rw[hp];exact⟨rfl,rfl⟩) rfl rfl (λ_=>rfl) rfl rfl rfl rfl (λ_ _=>rfl) rfl
 | wO b =>
  unfold Am.aH;rw[hp];simp only;exact gE rfl (by rw[hp];exact⟨rfl,rfl⟩) rfl rfl (λ_=>rfl) rfl rfl rfl rfl (λ_ _=>rfl) rfl
 | vA b t =>
  unfold Am.aH;rw[hp];simp only;exact gE rfl (by rw[hp];exact⟨rfl,rfl⟩) rfl rfl (λ_=>rfl) rfl rfl rfl rfl (λ_ _=>rfl) rfl
 | oC =>
  unfold Am.aH;rw[hp];simp only;exact gE rfl (by rw[hp];exact⟨rfl,rfl⟩) rfl rfl (λ_=>rfl) rfl rfl rfl rfl (λ_ _=>rfl) rfl
 | rE v t =>
  unfold Am.aH;rw[hp];simp only;exact gE rfl (by rw[hp];exact⟨rfl,rfl⟩) rfl rfl (λ_=>rfl) rfl rfl rfl rfl (λ_ _=>rfl) rfl
 | qu v t g =>
  unfold Am.aH;rw[hp];simp only;exact gE rfl (by rw[hp];exact⟨rfl,rfl⟩) rfl rfl (λ_=>rfl) rfl rfl rfl rfl (λ_ _=>rfl) rfl
 | oa v t g cc =>
  unfold Am.aH;rw[hp];simp only;exact gE rfl (by rw[hp];exact⟨rfl,rfl⟩) rfl rfl (λ_=>rfl) rfl rfl rfl rfl (λ_ _=>rfl) rfl
 | EG j =>
  unfold Am.aH;rw[hp];simp only;exact gE rfl (by rw[hp];exact⟨rfl,rfl⟩) rfl rfl (λ_=>rfl) rfl rfl rfl rfl (λ_ _=>rfl) rfl
 | mD c b t cc n =>
  unfold Am.aH;rw[hp];simp only;exact gE rfl (by rw[hp];exact⟨rfl,rfl⟩) rfl rfl (λ_=>rfl) rfl rfl rfl rfl (λ_ _=>rfl) rfl
 | pF c b t cc =>
  unfold Am.aH;rw[hp];simp only;exact gE rfl (by rw[hp];exact⟨rfl,rfl⟩) rfl rfl (λ_=>rfl) rfl rfl rfl rfl (λ_=>sg rfl) rfl
 | pG c b t cc =>
  unfold Am.aH;rw[hp];simp only;exact gE rfl (by rw[hp];exact⟨rfl,rfl⟩) rfl rfl (λ_=>rfl) rfl rfl rfl rfl (λ_=>sg rfl) rfl
 | mE c b cc =>
  unfold Am.aH;rw[hp];simp only;exact gE rfl (by rw[hp];exact⟨rfl,rfl⟩) rfl rfl (λ_=>rfl) rfl rfl rfl rfl (λ_=>sg rfl) rfl
 | rD b =>
  unfold Am.aH;rw[hp];simp only;exact gE rfl (by rw[hp];exact⟨rfl,rfl⟩) rfl rfl (λ_=>rfl) rfl rfl rfl rfl (λ_=>sg rfl) rfl
 | flag =>
  unfold Am.aH;rw[hp];simp only;exact gE rfl (by rw[hp];exact⟨rfl,rfl⟩) rfl rfl (λ_=>rfl) rfl rfl rfl rfl (λ_=>sg rfl) rfl
 | sleep =>
  unfold Am.aH;rw[hp];simp only;exact gE rfl (by rw[hp];exact⟨rfl,rfl⟩) rfl rfl (λ_=>rfl) rfl rfl rfl rfl (λ_=>sg rfl) rfl
 | vW j =>
  unfold Am.aH;rw[hp];simp only;exact gE rfl (by rw[hp];exact⟨rfl,rfl⟩) rfl rfl (λ_=>rfl) rfl rfl rfl rfl (λ_=>sg rfl) rfl
 | grow c b t cc =>
  unfold Am.aH;rw[hp];simp only;exact gE rfl (by rw[hp];exact⟨rfl,rfl⟩) rfl rfl (λ_=>rfl) rfl rfl rfl rfl (λa ha=>by cases a<;>first | rfl | (simp[uv.ZM]at ha)) rfl
 | mK c b t cc n x =>
  unfold Am.aH;rw[hp];simp only;refine gE rfl (by rw[hp];split<;>exact⟨rfl,rfl⟩) rfl rfl (λ_=>rfl) rfl rfl rfl rfl (λ_=>sg rfl) rfl
 | HU =>
  unfold Am.aH;rw[hp];simp only;refine gE rfl (by rw[hp];split<;>exact⟨rfl,rfl⟩) rfl rfl (λ_=>rfl) rfl rfl rfl rfl (λ_ _=>rfl) rfl
 | ug j =>
  unfold Am.aH;rw[hp];simp only;split
  ·exact gE rfl (by rw[hp];exact⟨rfl,rfl⟩) rfl rfl (λ_=>rfl) rfl rfl rfl rfl (λ_=>sg rfl) rfl
  ·exact gE rfl (by rw[hp];split<;>exact⟨rfl,rfl⟩) rfl rfl (λ_=>rfl) rfl rfl rfl rfl (λ_ _=>rfl) rfl
 | qt t =>
  unfold Am.aH;rw[hp];simp only;exact gE rfl (by rw[hp];split<;>exact⟨rfl,rfl⟩) rfl rfl (λ_=>rfl) rfl rfl rfl rfl (λ_=>sg rfl) rfl
 | vC v t =>
  unfold Am.aH;rw[hp];simp only;split<;>exact gE rfl (by rw[hp];exact⟨rfl,rfl⟩) rfl rfl (λ_=>rfl) rfl rfl rfl rfl (λ_ _=>rfl) rfl
 | Eh =>
  unfold Am.aH;rw[hp];simp only;split
  ·exact gE rfl (by rw[hp];exact⟨rfl,rfl⟩) rfl rfl (λ_=>rfl) rfl rfl rfl rfl (λ_ _=>rfl) rfl
  ·exact gE rfl (by rw[hp];split<;>exact⟨rfl,rfl⟩) rfl rfl (λ_=>rfl) rfl rfl rfl rfl (λ_ _=>rfl) rfl
 | vp =>
  unfold Am.aH;rw[hp];simp only[looking];split
  ·exact gE rfl (by rw[hp];exact⟨rfl,rfl⟩) rfl rfl (λ_=>rfl) rfl rfl rfl rfl (λ_ _=>rfl) rfl
  ·split<;>exact gE rfl (by rw[hp];exact⟨rfl,rfl⟩) rfl rfl (λ_=>rfl) rfl rfl rfl rfl (λ_ _=>rfl) rfl
 | Dh j t =>
  unfold Am.aH;rw[hp];simp only[looking];split
  ·exact gE rfl (by rw[hp];exact⟨rfl,rfl⟩) rfl rfl (λ_=>rfl) rfl rfl rfl rfl (λ_ _=>rfl) rfl
  ·split<;>exact gE rfl (by rw[hp];exact⟨rfl,rfl⟩) rfl rfl (λ_=>rfl) rfl rfl rfl rfl (λ_ _=>rfl) rfl
 | parked =>
  unfold Am.aH;rw[hp];simp only;split
  ·exact .gE none rfl
  ·exact gE rfl (by rw[hp];split<;>exact⟨rfl,rfl⟩) rfl rfl (λ_=>rfl) rfl rfl rfl rfl (λ_ _=>rfl) rfl
 | back b =>
  unfold Am.aH;rw[hp];simp only[Cu];split
  ·exact gE rfl (by rw[hp];exact⟨rfl,rfl⟩) rfl rfl (λ_=>rfl) rfl rfl rfl rfl (λ_=>sg rfl) rfl
  ·split
   ·exact gE rfl (by rw[hp];exact⟨rfl,rfl⟩) rfl rfl (λ_=>rfl) rfl rfl rfl rfl (λ_ _=>rfl) rfl
   ·exact gE rfl (by rw[hp];split<;>exact⟨rfl,rfl⟩) rfl rfl (λ_=>rfl) rfl rfl rfl rfl (λ_ _=>rfl) rfl
 | vX b =>
  unfold Am.aH;rw[hp];simp only[Cu];split
  ·exact gE rfl (by rw[hp];exact⟨rfl,rfl⟩) rfl rfl (λ_=>rfl) rfl rfl rfl rfl (λ_=>sg rfl) rfl
  ·exact gE rfl (by rw[hp];split<;>exact⟨rfl,rfl⟩) rfl rfl (λ_=>rfl) rfl rfl rfl rfl (λ_=>sg rfl) rfl
 | done =>
  unfold Am.aH;rw[hp];simp only[oG];split<;>exact gE rfl (by rw[hp];exact⟨rfl,rfl⟩) rfl rfl (λ_=>rfl) rfl rfl rfl rfl (λ_=>sg rfl) rfl
 | tell j =>
  unfold Am.aH;rw[hp];simp only[oG];split
  ·exact gE rfl (by rw[hp];exact⟨rfl,rfl⟩) rfl rfl (λ_=>rfl) rfl rfl rfl rfl (λ_=>sg rfl) rfl
  ·split<;>exact gE rfl (by rw[hp];exact⟨rfl,rfl⟩) rfl rfl (λ_=>rfl) rfl rfl rfl rfl (λ_ _=>rfl) rfl
 | xz j =>
  unfold Am.aH;rw[hp];simp only[oG];split<;>exact gE rfl (by rw[hp];exact⟨rfl,rfl⟩) rfl rfl (λ_=>rfl) rfl rfl rfl rfl (λ_=>sg rfl) rfl
 | th c b t =>
  have hg:(view s).g i= .push c:=by show sig (s.pc i)=_;rw[hp];rfl
  unfold Am.aH;rw[hp];simp only;split
  ·exact gE rfl (by rw[hp];exact⟨rfl,rfl⟩) rfl rfl (λ_=>rfl) rfl rfl rfl rfl (λ_ _=>rfl) rfl
  ·split
   ·refine s7 ?_ (Tr.full c hg)
    apply uj<;>(try intro j)<;>simp only[wv,view,St.wr,St.lay,St.to,St.put,St.holds,St.qR,St.mL,St.Fh,St.tA,got,cC,cO]<;>grind [sig,vq,lf]
   ·exact gE rfl (by rw[hp];exact⟨rfl,rfl⟩) rfl rfl (λ_=>rfl) rfl rfl rfl rfl (λ_ _=>rfl) rfl
 | halted=>unfold Am.aH;rw[hp];exact .gE none rfl
 | full=>unfold Am.aH;rw[hp];exact .gE none rfl
 | run=>unfold Am.aH;rw[hp];exact SX hf hi hp
 | start x =>
  have hg:(view s).g i= .start:=by show sig (s.pc i)=_;rw[hp];rfl
  obtain⟨f,hh⟩:=sA hf hi (by rw[hp];rfl);unfold Am.aH;rw[hp];simp only[hh,oJ];have hx:x=(wv s).fx i:=by show x=vq (s.pc i);rw[hp];rfl
  rw[hx];refine s7 ?_ (Tr.start f hg hh)
  apply uj<;>(try intro j)<;>simp only[wv,view,St.wr,St.lay,St.to,St.put,St.holds,St.qR,St.mL,St.Fh,St.tA,got,cC,cO]<;>grind [sig,vq,lf]
 | fork c =>
  have hg:(view s).g i= .fork c:=by show sig (s.pc i)=_;rw[hp];rfl
  obtain⟨f,hh⟩:=sA hf hi (by rw[hp];rfl);unfold Am.aH;rw[hp];simp only[hh,oJ];refine s7 ?_ (Tr.fork c f hg hh)
  apply uj<;>(try intro j)<;>simp only[wv,view,St.wr,St.lay,St.to,St.put,St.holds,St.qR,St.mL,St.Fh,St.tA,got,cC,cO]<;>grind [sig,vq,lf]
 | rR =>
  have hg:(view s).g i= .one:=by show sig (s.pc i)=_;rw[hp];rfl
  obtain⟨f,hh⟩:=sA hf hi (by rw[hp];rfl);unfold Am.aH;rw[hp];simp only[hh,oJ];refine s7 ?_ (Tr.one f hg hh)
  apply uj<;>(try intro j)<;>simp only[wv,view,St.wr,St.lay,St.to,St.put,St.holds,St.qR,St.mL,St.Fh,St.tA,got,cC,cO]<;>grind [sig,vq,lf]
 | out p c =>
  have hg:(view s).g i= .out p c:=by show sig (s.pc i)=_;rw[hp];rfl
  unfold Am.aH;rw[hp];simp only;split
  ·rename_i hn;refine s7 ?_ (Tr.LV p c hg hn)
   apply uj<;>(try intro j)<;>simp only[wv,view,St.wr,St.lay,St.to,St.put,St.holds,St.qR,St.mL,St.Fh,St.tA,got,cC,cO]<;>grind [sig,vq,lf]
  ·rename_i hn;refine s7 ?_ (Tr.LU p c hg hn)
   apply uj<;>(try intro j)<;>simp only[wv,view,St.wr,St.lay,St.to,St.put,St.holds,St.qR,St.mL,St.Fh,St.tA,got,cC,cO]<;>grind [sig,vq,lf]
 | take p c =>
  have hg:(view s).g i= .take p c:=by show sig (s.pc i)=_;rw[hp];rfl
  unfold Am.aH;rw[hp];simp only;refine s7 ?_ (Tr.take p c hg)
  apply uj<;>(try intro j)<;>simp only[wv,view,St.wr,St.lay,St.to,St.put,St.holds,St.qR,St.mL,St.Fh,St.tA,got,cC,cO]<;>grind [sig,vq,lf]
 | rh c b =>
  have hg:(view s).g i= .push c:=by show sig (s.pc i)=_;rw[hp];rfl
  obtain⟨f,hh⟩:=sA hf hi (by rw[hp];rfl);unfold Am.aH;rw[hp];simp only[hh,oJ];refine s7 ?_ (Tr.push c f hg hh)
  apply uj<;>(try intro j)<;>simp only[wv,view,St.wr,St.lay,St.to,St.put,St.holds,St.qR,St.mL,St.Fh,St.tA,got,cC,cO]<;>grind [sig,vq,lf]
 | Dg b =>
  have hg:(view s).g i= .none:=by show sig (s.pc i)=_;rw[hp];rfl
  have P:=(hd.1 i hi).ph;unfold qU at P;rw[hp]at P;simp only at P;unfold Am.aH;rw[hp];simp only;split
  ·rename_i hlt;have hne:s.q i≠[]:=by
    intro e;simp only[St.L,St.T,e,yj]at P;omega
   have hq:s.q i=(s.q i).dropLast++[(s.q i).getLastD 0]:=by
    rw[Oa,List.getLast?_eq_some_getLast hne];exact(List.dropLast_concat_getLast hne).symm
   refine s7 ?_ (Tr.mL ((s.q i).getLastD 0) ((s.q i).dropLast) hg hq)
   apply uj<;>(try intro j)<;>simp only[wv,view,St.wr,St.lay,St.to,St.put,St.holds,St.qR,St.mL,St.Fh,St.tA,got,cC,cO]<;>grind [sig,vq,lf]
  ·split<;>exact gE rfl (by rw[hp];exact⟨rfl,rfl⟩) rfl rfl (λ_=>rfl) rfl rfl rfl rfl (λ_ _=>rfl) rfl
 | rS b t cc =>
  have hg:(view s).g i= .none:=by show sig (s.pc i)=_;rw[hp];rfl
  have P:=(hd.1 i hi).ph;unfold qU at P;rw[hp]at P;simp only at P;unfold Am.aH;rw[hp];simp only;split
  ·rename_i hlt;obtain⟨x,hx,he⟩:=(P.1.2.2.2.1 hlt).2.2;rw[<-P.2]at he;rw[he];refine s7 ?_ (Tr.got x hg hx)
   apply uj<;>(try intro j)<;>simp only[wv,view,St.wr,St.lay,St.to,St.put,St.holds,St.qR,St.mL,St.Fh,St.tA,got,cC,cO]<;>grind [sig,vq,lf]
  ·exact gE rfl (by rw[hp];exact⟨rfl,rfl⟩) rfl rfl (λ_=>rfl) rfl rfl rfl rfl (λ_ _=>rfl) rfl
 | uh b t x =>
  have hg:(view s).g i= .none:=by show sig (s.pc i)=_;rw[hp];rfl
  have P:=(hd.1 i hi).ph;unfold qU at P;rw[hp]at P;simp only at P;unfold Am.aH;rw[hp];simp only;split
  ·rename_i ht;have hq:=(P.2.2.2.2.1 ht).1;refine s7 ?_ (Tr.LW x.toNat hg hq)
   apply uj<;>(try intro j)<;>simp only[wv,view,St.wr,St.lay,St.to,St.put,St.holds,St.qR,St.mL,St.Fh,St.tA,got,cC,cO]<;>grind [sig,vq,lf]
  ·exact gE rfl (by rw[hp];exact⟨rfl,rfl⟩) rfl rfl (λ_=>rfl) rfl rfl rfl rfl (λ_ _=>rfl) rfl
 | sL t x Ae =>
  have hg:(view s).g i= .none:=by show sig (s.pc i)=_;rw[hp];rfl
  have P:=(hd.1 i hi).ph;unfold qU at P;rw[hp]at P;simp only at P;unfold Am.aH;rw[hp];simp only;split
  ·rename_i hw;refine s7 ?_ (Tr.got x.toNat hg (P.2.2.2 hw).1)
   apply uj<;>(try intro j)<;>simp only[wv,view,St.wr,St.lay,St.to,St.put,St.holds,St.qR,St.mL,St.Fh,St.tA,got,cC,cO]<;>grind [sig,vq,lf]
  ·exact gE rfl (by rw[hp];split<;>exact⟨rfl,rfl⟩) rfl rfl (λ_=>rfl) rfl rfl rfl rfl (λ_=>sg rfl) rfl
 | oD v t x =>
  have hg:(view s).g i= .none:=by show sig (s.pc i)=_;rw[hp];rfl
  have HT:=hd.2 i hi;unfold Th at HT;rw[hp]at HT;simp only at HT;unfold Am.aH;rw[hp];simp only;split
  ·rename_i ht;obtain⟨y,l,hq,hx⟩:=HT.2.2.2 ht.symm;subst hx;refine s7 ?_ (Tr.EH v y l HT.1 HT.2.1 hg hq)
   apply uj<;>(try intro j)<;>simp only[wv,view,St.wr,St.lay,St.to,St.put,St.holds,St.qR,St.mL,St.Fh,St.tA,got,cC,cO]<;>grind [sig,vq,lf]
  ·exact gE rfl (by rw[hp];exact⟨rfl,rfl⟩) rfl rfl (λ_=>rfl) rfl rfl rfl rfl (λ_ _=>rfl) rfl
theorem FI.aH(hf:(view s).FI C.N C.F)(hd:DT C s)(hi:i<C.N)(d:Int):(view (aH C s i d).s).FI C.N C.F:=(Fy hf hd hi d).fi hi hf
end
def O7(C:kH)(g a:Nat):Prop:=
 match C.code g a with
 | .const x _=>x<C.cU g/\a+1<C.len g
 | .nA x=>x<C.cU g/\a+1<C.len g
 | .move x y=>x<C.cU g/\y<C.cU g/\a+1<C.len g
 | .arith op x y z=>x<C.cU g/\y<C.cU g/\z<C.cU g/\a+1<C.len g
 | .jump t=>t<C.len g
 | .branch x t=>x<C.cU g/\t<C.len g/\a+1<C.len g
 | .spawn s f c=>s<8/\f<C.O5/\(C.params f=0∨c+C.params f<=C.cU g)/\a+1<C.len g
 | .sync=>a+1<C.len g
 | .load x s=>x<C.cU g/\s<8/\a+1<C.len g
 | .ret x=>x<C.cU g
structure kH.OK(C:kH):Prop where
 n1:1<=C.N
 n64:C.N<=64
 f1:1<=C.F
 f4:C.F<=4096
 c1:1<=C.first
 cm:C.first<=C.most
 m4:C.most<=4096
 fn0:0<C.O5
 YA:∀g,g<C.O5->0<C.len g
 JY:∀g,g<C.O5->C.params g<=C.cU g/\C.cU g<=16
 ins:∀g,g<C.O5->∀a,a<C.len g->O7 C g a
def live:Loc->Bool
 | .fin _ | .gone=>false
 | _=>true
def FR1(C:kH)(x:Fr)(l:Loc):Prop:=x.fn<C.O5/\x.slot<8/\(live l=true->x.J<C.len x.fn)
def FR(C:kH)(s:St):Prop:=∀f,f<s.nf->FR1 C (s.fr f) (s.loc f)
section
variable {C:kH}{s:St}{i:Nat}
theorem FR.gE{s':St}(h:FR C s)(h1:s'.nf=s.nf)(h2:s'.fr=s.fr)(h3:s'.loc=s.loc):FR C s':=by
 intro f hf;rw[h2,h3];exact h f (h1▸ hf)
theorem FR.put{s':St}{f:Nat}{l:Loc}(h:FR C s)(h1:s'.nf=s.nf)(h2:s'.fr=s.fr)(h3:s'.loc=cY s.loc f l)(hl:live l=true->live (s.loc f)=true):FR C s':=by
 intro g hg;rw[h2,h3,cC];have:=h g (h1▸ hg);split
 ·next e=>subst e;exact⟨this.1,this.2.1,λhh=>this.2.2 (hl hh)⟩
 ·exact this
theorem FR.lay{s':St}{f:Nat}{x:Fr}(h:FR C s)(h1:s'.nf=s.nf)(h2:s'.fr=cY s.fr f x)(h3:s'.loc=s.loc)(hx:f<s.nf->FR1 C x (s.loc f)):FR C s':=by
 intro g hg;rw[h2,h3,cC];have Ky:=h1▸ hg;split
 ·next e=>subst e;exact hx Ky
 ·exact h g Ky
theorem rF(hf:(view s).FI C.N C.F)(hi:i<C.N){f:Nat}(hh:s.hold i=some f):live (s.loc f)=true/\f<s.nf:=by
 have a:=hf.hold i f hi hh;have e:s.loc f= .rj i∨s.loc f= .held i:=a.elim (λa=>.inl a.2) (λa=>.inr a.2);refine⟨by rcases e with e | e<;>rw[e]<;>rfl,?_⟩;rcases zG f s.nf with h | h
 ·exact h
 ·have:=hf.free f h;change s.loc f=_ at this;rw[this]at e;rcases e with e | e<;>cases e
theorem FR.instr(hC:C.OK)(h:FR C s)(hf:(view s).FI C.N C.F)(hi:i<C.N)(hp:s.pc i= .run):FR C (instr C s i).s:=by
 obtain⟨f,hh⟩:=sA hf hi (by rw[hp];rfl);obtain⟨hl,hn⟩:=rF hf hi hh;obtain⟨a1,a2,a3⟩:=h f hn;have a3:=a3 hl;have ok:=hC.ins _ a1 _ a3;unfold O7 at ok;unfold Am.instr;simp only[hh,oJ];split<;>rename_i hc<;>rw[hc]at ok<;>simp only at ok
 ·exact h.lay rfl rfl rfl (λ_=>⟨a1,a2,λ_=>ok.2⟩)
 ·exact h.lay rfl rfl rfl (λ_=>⟨a1,a2,λ_=>ok.2.2⟩)
 ·exact h.lay rfl rfl rfl (λ_=>⟨a1,a2,λ_=>ok.2.2.2⟩)
 ·exact h.lay rfl rfl rfl (λ_=>⟨a1,a2,λ_=>ok⟩)
 ·exact h.lay rfl rfl rfl (λ_=>by
   split
   ·exact⟨a1,a2,λ_=>ok.2.1⟩
   ·exact⟨a1,a2,λ_=>ok.2.2⟩)
 ·exact h.lay rfl rfl rfl (λ_=>⟨a1,a2,λ_=>ok.2⟩)
 ·exact h.lay rfl rfl rfl (λ_=>⟨a1,a2,λ_=>ok.2.2⟩)
 ·split
  ·exact h.lay rfl rfl rfl (λ_=>⟨a1,a2,λ_=>ok.2.2.2⟩)
  ·intro g hg;simp only[St.wr,St.lay,St.to,St.put,cC];split
   ·next e=>subst e;exact⟨ok.2.1,ok.1,λ_=>hC.YA _ ok.2.1⟩
   ·next e =>
    have Ky:g<s.nf:=by have:g<s.nf+1:=hg;omega
    split
    ·next e=>subst e;exact⟨a1,a2,λ_=>ok.2.2.2⟩
    ·exact h g Ky
 ·split
  ·intro g hg;simp only[St.wr,St.lay,St.to,St.put,St.holds,cC];split
   ·next e=>exact⟨a1,a2,λ_=>ok⟩
   ·exact h g hg
  ·intro g hg;simp only[St.wr,St.lay,St.to,St.put,St.holds,cC];split
   ·next e=>exact⟨a1,a2,λ_=>ok⟩
   ·exact h g hg
 ·split
  ·next e0 =>
   subst e0;intro g hg;simp only[St.wr,St.lay,St.to,St.put,St.holds,cC];split
   ·next e=>exact⟨a1,a2,λe=>by cases e⟩
   ·exact h g hg
  ·intro g hg;simp only[St.wr,St.lay,St.to,St.put,St.holds,cC];split
   ·next e=>exact⟨a1,a2,λe=>by cases e⟩
   ·exact h g hg
theorem FR.aH(hC:C.OK)(h:FR C s)(hf:(view s).FI C.N C.F)(hd:DT C s)(hi:i<C.N)(d:Int):FR C (aH C s i d).s:=by
 cases hp:s.pc i with
 | run=>unfold Am.aH;rw[hp];exact FR.instr hC h hf hi hp
 | rR =>
  obtain⟨f,hh⟩:=sA hf hi (by rw[hp];rfl);unfold Am.aH;rw[hp];simp only[hh,oJ];exact h.put rfl rfl rfl (λ_=>(rF hf hi hh).1)
 | out p c =>
  have hg:(view s).g i= .out p c:=by show sig (s.pc i)=_;rw[hp];rfl
  unfold Am.aH;rw[hp];simp only;split
  ·rename_i hn;have hw:s.loc p= .waiting:=(hf.iz hi hg hn).1;have h1:FR C (s.put c .gone):=h.put rfl rfl rfl (λe=>by cases e);refine FR.put (f:=p) (l:=.sM i) h1 rfl rfl rfl (λ_ => ?_);show live (cY s.loc c .gone p)=true;rw[be (hf.iz hi hg hn).2.2,hw];rfl
  ·exact h.put rfl rfl rfl (λe=>by cases e)
 | take p c =>
  have hg:(view s).g i= .take p c:=by show sig (s.pc i)=_;rw[hp];rfl
  unfold Am.aH;rw[hp];simp only;exact h.put rfl rfl rfl (λ_=>by rw[show s.loc p= .sM i from hf.tk i p c hi hg];rfl)
 | rh c b =>
  have hg:(view s).g i= .push c:=by show sig (s.pc i)=_;rw[hp];rfl
  unfold Am.aH;rw[hp];simp only;exact h.put rfl rfl rfl (λ_=>by rw[show s.loc c= .bU i from(hf.ps i c hi hg).2.1];rfl)
 | Dg b =>
  have P:=(hd.1 i hi).ph;unfold qU at P;rw[hp]at P;simp only at P;unfold Am.aH;rw[hp];simp only;split
  ·rename_i hlt;have hne:s.q i≠[]:=by
    intro e;simp only[St.L,St.T,e,yj]at P;omega
   have hm:(s.q i).getLastD 0∈s.q i:=by
    rw[Oa,List.getLast?_eq_some_getLast hne];exact List.getLast_mem hne
   exact h.put rfl rfl rfl (λ_=>by rw[show s.loc _= .Nq i from(hf.q i _ hi hm).2];rfl)
  ·split<;>exact h.gE rfl rfl rfl
 | rS b t cc =>
  have P:=(hd.1 i hi).ph;unfold qU at P;rw[hp]at P;simp only at P;unfold Am.aH;rw[hp];simp only;split
  ·rename_i hlt;obtain⟨x,hx,he⟩:=(P.1.2.2.2.1 hlt).2.2;rw[<-P.2]at he;rw[he];refine h.put (f:=x) (l:=.held i) rfl rfl (by simp only[got,St.put,St.mL,St.to,St.holds,cO]) (λ_ => ?_);rw[show s.loc x= .pop i from(hf.pop i x hi hx).2];rfl
  ·exact h.gE rfl rfl rfl
 | uh b t x =>
  have P:=(hd.1 i hi).ph;unfold qU at P;rw[hp]at P;simp only at P;unfold Am.aH;rw[hp];simp only;split
  ·rename_i ht;have hq:=(P.2.2.2.2.1 ht).1;exact h.put rfl rfl rfl (λ_=>by rw[show s.loc x.toNat= .Nq i from(hf.q i _ hi (by show x.toNat∈s.q i;rw[hq];simp)).2];rfl)
  ·exact h.gE rfl rfl rfl
 | sL t x Ae =>
  have P:=(hd.1 i hi).ph;unfold qU at P;rw[hp]at P;simp only at P;unfold Am.aH;rw[hp];simp only;split
  ·rename_i hw;exact h.put (f:=x.toNat) (l:=.held i) rfl rfl rfl (λ_=>by rw[show s.loc x.toNat= .pop i from(hf.pop i _ hi (P.2.2.2 hw).1).2];rfl)
  ·exact h.gE rfl rfl rfl
 | oD v t x =>
  have HT:=hd.2 i hi;unfold Th at HT;rw[hp]at HT;simp only at HT;unfold Am.aH;rw[hp];simp only;split
  ·rename_i ht;obtain⟨y,l,hq,hx⟩:=HT.2.2.2 ht.symm;exact h.put (f:=x.toNat) (l:=.held i) rfl rfl rfl (λ_=>by rw[show s.loc x.toNat= .Nq v from(hf.q v _ HT.1 (by show x.toNat∈s.q v;rw[hq,hx];simp)).2];rfl)
  ·exact h.gE rfl rfl rfl
 | _ =>
  unfold Am.aH;rw[hp];simp only[oG,looking,Cu]
  repeat' split
  all_goals exact h.gE rfl rfl rfl
end
def uA(C:kH):Nat->Nat
 | 0=>C.first
 | g+1=>min (2*uA C g) C.most
def lj:Pc->Bool
 | .pF .. | .mD .. | .mK .. | .pG .. => true
 | _=>false
def gen(s:St)(j:Nat):Nat:=s.cur j+(if lj (s.pc j)then 1 else 0)
def tot(C:kH):Nat->Nat
 | 0=>0
 | g+1=>tot C g+1+uA C (g+1)
def S0(C:kH):Nat:=4+10*C.F+C.N+C.N*(4+C.first)
def vD(C:kH)(j:Nat):Nat:=4+10*C.F+C.N+j*(4+C.first)
def Ek(f:Nat->Nat):Nat->Nat
 | 0=>0
 | n+1=>Ek f n+f n
theorem Cv{f g:Nat->Nat}:∀{n:Nat},(∀j,j<n->f j=g j)->Ek f n=Ek g n
 | 0,_=>rfl
 | n+1,h=>by simp only[Ek];rw[Cv (λj hj=>h j I),h n I]
theorem LX{f g:Nat->Nat}{i k:Nat}:∀{n:Nat},i<n->(∀j,j≠i->g j=f j)->g i=f i+k->Ek g n=Ek f n+k
 | n+1,hi,h,e=>by
  simp only[Ek];by_cases hn:i=n
  ·subst hn;rw[Cv (f:=g) (g:=f) (λj hj=>h j I),e];omega
  ·rw[LX (n:=n) I h e,h n I];omega
theorem O8{f:Nat->Nat}{k:Nat}:∀{n:Nat},(∀j,j<n->f j<=k)->Ek f n<=n*k
 | 0,_=>by simp[Ek]
 | n+1,h=>by simp only[Ek];have:=O8 (n:=n) (λj hj=>h j I);have:=h n I;rw[Ez];omega
theorem zz(C:kH)(g:Nat):jh C (uA C g)=(uA C (g+1):Int):=by
 unfold jh;simp only[uA];split<;>omega
theorem Fz{C:kH}(h:C.OK):∀g,1<=uA C g
 | 0=>h.c1
 | g+1=>by have:=Fz h g;have:=h.c1;have:=h.cm;simp only[uA];omega
theorem Nv{C:kH}(h:C.OK):∀g,uA C g<=C.most
 | 0=>h.cm
 | g+1=>by simp only[uA];omega
structure SZ(C:kH)(s:St):Prop where
 cap:∀j,j<C.N->∀g,g<=s.cur j->s.mem (.cap j g)=uA C g
 SY:∀j,j<C.N->s.base j 0=vD C j+3
 size:s.size=S0 C+Ek (λj=>tot C (gen s j)) C.N
 bs:∀j,j<C.N->∀g,1<=g->g<=gen s j->(S0 C:Int)<=s.base j g/\s.base j g+1+uA C g<=s.size
 dj:∀j j' g g',j<C.N->j'<C.N->1<=g->1<=g'->g<=gen s j->g'<=gen s j'->(j≠j'∨g≠g')->s.base j g+1+uA C g<=s.base j' g'∨s.base j' g'+1+uA C g'<=s.base j g
 gm:∀j,j<C.N->∀g,g<gen s j->uA C g<C.most
section
variable {C:kH}{s:St}{i:Nat}
theorem SZ.of{s':St}(h:SZ C s)(h1:s'.cur=s.cur)(h2:∀j,lj (s'.pc j)=lj (s.pc j))(h3:s'.base=s.base)(h4:s'.size=s.size)
 (h5:∀j g,g<=s.cur j->s'.mem (.cap j g)=s.mem (.cap j g)):SZ C s':=by
 obtain⟨a1,a2,a3,a4,a5,a6⟩:=h;have hg:gen s'=gen s:=by funext j;unfold gen;rw[h1,h2]
 exact⟨λj hj g Nw=>by rw[h1]at Nw;rw[h5 j g Nw];exact a1 j hj g Nw,by rw[h3];exact a2,by rw[h4,hg];exact a3,by rw[h3,h4,hg];exact a4,by rw[h3,hg];exact a5,by rw[hg];exact a6⟩
def uv.O9:uv->Bool
 | .cap .. => true
 | _=>false
theorem LY{s':St}{p:Pc}(h:s'.pc=cY s.pc i p)(hp:lj p=lj (s.pc i))(j:Nat):lj (s'.pc j)=lj (s.pc j):=by
 rw[h,cC];split
 ·next e=>rw[e,hp]
 ·rfl
theorem SZ.gE{s':St}{p:Pc}(h:SZ C s)(hp:s'.pc=cY s.pc i p)(hg:lj p=lj (s.pc i))(h1:s'.cur=s.cur)(h3:s'.base=s.base)(h4:s'.size=s.size)
 (hm:∀a,a.O9=true->s'.mem a=s.mem a):SZ C s':=
 h.of h1 (LY hp hg) h3 h4 (λ_ _ _=>hm _ rfl)
theorem vE{a x:uv}{v:Int}(h:a.O9=false):x.O9=true->(s.wr a v).mem x=s.mem x:=λhx=>nj (by rintro rfl;rw[h]at hx;cases hx)
theorem SZ.same{s':St}(h:SZ C s)(hp:s'.pc=s.pc)(h1:s'.cur=s.cur)(h3:s'.base=s.base)(h4:s'.size=s.size)
 (hm:∀a,a.O9=true->s'.mem a=s.mem a):SZ C s':=
 h.of h1 (λj=>by rw[hp]) h3 h4 (λ_ _ _=>hm _ rfl)
theorem SZ.instr(h:SZ C s)(hp:s.pc i= .run):SZ C (instr C s i).s:=by
 unfold Am.instr;simp only;split
 ·exact h.same rfl rfl rfl rfl (λ_ _=>rfl)
 ·exact h.same rfl rfl rfl rfl (λ_ _=>rfl)
 ·exact h.same rfl rfl rfl rfl (λ_ _=>rfl)
 ·exact h.same rfl rfl rfl rfl (λ_ _=>rfl)
 ·exact h.same rfl rfl rfl rfl (λ_ _=>rfl)
 ·exact h.same rfl rfl rfl rfl (λ_ _=>rfl)
 ·exact h.same rfl rfl rfl rfl (λ_ _=>rfl)
 ·split<;>exact h.gE rfl (by rw[hp];rfl) rfl rfl rfl (λ_=>vE rfl)
 ·split<;>exact h.gE rfl (by rw[hp];rfl) rfl rfl rfl (λ_=>vE rfl)
 ·split<;>exact h.gE rfl (by rw[hp];rfl) rfl rfl rfl (λ_=>vE rfl)
theorem El(h:SZ C s)(hi:i<C.N):s.cc i=uA C (s.cur i):=h.cap i hi _ (j5 _)
theorem SZ.aH(hC:C.OK)(h:SZ C s)(hd:DT C s)(hi:i<C.N)(d:Int):SZ C (aH C s i d).s:=by
 have P:=(hd.1 i hi).ph;cases hp:s.pc i with
 | run=>unfold Am.aH;rw[hp];exact h.instr hp
 | halted=>unfold Am.aH;rw[hp];exact h
 | full=>unfold Am.aH;rw[hp];exact h
 | parked =>
  unfold Am.aH;rw[hp];simp only;split
  ·exact h
  ·exact h.gE rfl (by rw[hp];split<;>rfl) rfl rfl rfl (λ_ _=>rfl)
 | grow c b t cc =>
  unfold qU at P;rw[hp]at P;simp only at P;have hg:gen s i=s.cur i:=by unfold gen;rw[hp];rfl
  have Q8:cc=uA C (s.cur i):=by rw[P.2.2.2.2.1];exact El h hi
  have hb:jh C cc=uA C (s.cur i+1):=by rw[Q8];exact zz C _
  unfold Am.aH;rw[hp];simp only;obtain⟨a1,a2,a3,a4,a5,a6⟩:=h;have hs:(S0 C:Int)<=s.size:=by rw[a3];omega
  refine⟨?_,?_,?_,?_,?_,?_⟩
  ·intro j hj g Nw;simp only[St.to]at Nw⊢;rw[ct (by rintro⟨rfl,rfl⟩;omega)];exact a1 j hj g Nw
  ·intro j hj;simp only[St.to,cC];split
   ·next e=>subst e;rw[be I];exact a2 j hj
   ·exact a2 j hj
  ·simp only[St.to];rw[LX (f:=λj=>tot C (gen s j)) (i:=i) (k:=1+uA C (s.cur i+1)) hi,a3,hb]
   ·omega
   ·intro j hj;unfold gen;simp only[be hj]
   ·unfold gen;simp only[bA,lj,if_true,hp];simp only[tot,Ih,if_false,Ex];omega
  ·intro j hj g h1 h2;simp only[St.to]at h2⊢;by_cases e:j=i
   ·subst e;simp only[gen,bA,lj,if_true]at h2;simp only[bA];by_cases e2:g=s.cur j+1
    ·subst e2;rw[bA,hb];exact⟨hs,I⟩
    ·rw[be e2,hb];have:=a4 j hj g h1 (by rw[hg];omega);exact⟨this.1,I⟩
   ·simp only[gen,be e]at h2;simp only[be e];have:=a4 j hj g h1 (by unfold gen;exact h2);exact⟨this.1,I⟩
  ·intro j j' g g' hj hj' h1 h1' h2 ZR hne;simp only[St.to]at h2 ZR⊢;have key:∀k x,k<C.N->1<=x->x<=gen s k->s.base k x+1+uA C x<=s.size:=λk x hk h1 h2=>(a4 k hk x h1 h2).2;have gk:∀k x,x<=gen {s with base:=cY s.base i (cY (s.base i) (s.cur i+1) s.size),pc:=cY s.pc i (.pF c b t cc)} k->(k=i/\x=s.cur i+1)∨(x<=gen s k/\¬(k=i/\x=s.cur i+1)):=by
    intro k x hx;by_cases e:k=i
    ·subst e;simp only[gen,bA,lj,if_true]at hx;by_cases e2:x=s.cur k+1
     ·exact .inl ⟨rfl,e2⟩
     ·exact .inr ⟨by rw[hg];omega,λh=>e2 h.2⟩
    ·simp only[gen,be e]at hx;exact .inr ⟨hx,λh=>e h.1⟩
   have bk:∀k x,¬(k=i/\x=s.cur i+1)->cY s.base i (cY (s.base i) (s.cur i+1) s.size) k x=s.base k x:=by
    intro k x hx;simp only[cC];split
    ·next e=>subst e;rw[be (λe=>hx ⟨rfl,e⟩)]
    ·rfl
   have bn:cY s.base i (cY (s.base i) (s.cur i+1) s.size) i (s.cur i+1)=s.size:=by rw[bA,bA]
   rcases gk j g h2 with ⟨rfl,rfl⟩ | ⟨c1,c2⟩
   ·rcases gk j' g' ZR with ⟨rfl,rfl⟩ | ⟨c1',c2'⟩
    ·simp at hne
    ·right;rw[bn,bk _ _ c2'];exact key j' g' hj' h1' c1'
   ·rcases gk j' g' ZR with ⟨rfl,rfl⟩ | ⟨c1',c2'⟩
    ·left;rw[bn,bk _ _ c2];exact key j g hj h1 c1
    ·rw[bk _ _ c2,bk _ _ c2'];exact a5 j j' g g' hj hj' h1 h1' c1 c1' hne
  ·intro j hj g Nw;simp only[St.to]at Nw;by_cases e:j=i
   ·subst e;simp only[gen,bA,lj,if_true]at Nw;by_cases e2:g=s.cur j
    ·have:=P.2.2.2.2.2.2;rw[Q8]at this;rw[e2];omega
    ·exact a6 j hj g (by rw[hg];omega)
   ·simp only[gen,be e]at Nw;exact a6 j hj g Nw
 | pF c b t cc =>
  unfold Am.aH;rw[hp];simp only;refine h.of rfl (LY (p:=.mD c b t cc t) rfl (by rw[hp];rfl)) rfl rfl (λj g hg=>nj (by intro e;cases e;omega))
 | mK c b t cc n x =>
  unfold Am.aH;rw[hp];simp only;exact h.gE rfl (by rw[hp];split<;>rfl) rfl rfl rfl (λ_=>vE rfl)
 | pG c b t cc =>
  unfold qU at P;rw[hp]at P;simp only at P;have hcap:=P.2.1;rw[El h hi,zz]at hcap;unfold Am.aH;rw[hp];simp only;obtain⟨a1,a2,a3,a4,a5,a6⟩:=h;have hg:gen {s.wr (.buf i) (s.base i (s.cur i+1))with cur:=cY s.cur i (s.cur i+1),pc:=cY s.pc i (.mE c b (jh C cc))}=gen s:=by
   funext j;unfold gen
   by_cases e:j=i
   ·subst e;simp only[bA,hp,lj,if_true];rfl
   ·simp only[be e]
  have Ky:gen (({s.wr (.buf i) (s.base i (s.cur i+1))with cur:=cY s.cur i (s.cur i+1)}:St).to i (.mE c b (jh C cc)))=gen s:=hg;refine⟨?_,a2,by rw[Ky];exact a3,by rw[Ky];exact a4,by rw[Ky];exact a5,by rw[Ky];exact a6⟩;intro j hj g Nw;show cY s.mem (.buf i) (s.base i (s.cur i+1)) (.cap j g)=_;rw[be (by simp)];by_cases e:j=i
  ·subst e;simp only[St.to,bA]at Nw;by_cases e2:g=s.cur j+1
   ·rw[e2];exact hcap
   ·exact a1 j hj g I
  ·simp only[St.to,be e]at Nw;exact a1 j hj g Nw
 | back b =>
  unfold Am.aH;rw[hp];simp only[Cu];split
  ·exact h.gE rfl (by rw[hp];rfl) rfl rfl rfl (λ_=>vE rfl)
  ·split
   ·exact h.gE rfl (by rw[hp];rfl) rfl rfl rfl (λ_ _=>rfl)
   ·exact h.gE rfl (by rw[hp];split<;>rfl) rfl rfl rfl (λ_ _=>rfl)
 | vX b =>
  unfold Am.aH;rw[hp];simp only[Cu];split
  ·exact h.gE rfl (by rw[hp];rfl) rfl rfl rfl (λ_=>vE rfl)
  ·exact h.gE rfl (by rw[hp];split<;>rfl) rfl rfl rfl (λ_=>vE rfl)
 | qt t =>
  unfold Am.aH;rw[hp];simp only;exact h.gE rfl (by rw[hp];split<;>rfl) rfl rfl rfl (λ_=>vE rfl)
 | sL t x Ae =>
  unfold Am.aH;rw[hp];simp only;split
  ·exact h.gE rfl (by rw[hp];rfl) rfl rfl rfl (λ_=>vE rfl)
  ·exact h.gE rfl (by rw[hp];split<;>rfl) rfl rfl rfl (λ_=>vE rfl)
 | HU =>
  unfold Am.aH;rw[hp];simp only;exact h.gE rfl (by rw[hp];split<;>rfl) rfl rfl rfl (λ_ _=>rfl)
 | ug j =>
  unfold Am.aH;rw[hp];simp only;split
  ·exact h.gE rfl (by rw[hp];rfl) rfl rfl rfl (λ_=>vE rfl)
  ·exact h.gE rfl (by rw[hp];split<;>rfl) rfl rfl rfl (λ_ _=>rfl)
 | Eh =>
  unfold Am.aH;rw[hp];simp only;split
  ·exact h.gE rfl (by rw[hp];rfl) rfl rfl rfl (λ_ _=>rfl)
  ·exact h.gE rfl (by rw[hp];split<;>rfl) rfl rfl rfl (λ_ _=>rfl)
 | _ =>
  unfold Am.aH;rw[hp];simp only[oG,looking,Cu]
  repeat' split
  all_goals first
   | exact h.gE rfl (by rw[hp];rfl) rfl rfl rfl (λ_ _=>rfl)
   | exact h.gE rfl (by rw[hp];rfl) rfl rfl rfl (λ_=>vE rfl)
end
def uv.LZ:uv->Bool
 | .next | .join _ | .mark _ | .tJ | .top _ | .bot _=>true
 | _=>false
def gL:Pc->List Int
 | .zR _ b=>[b]
 | .tg _ b t | .th _ b t | .grow _ b t _ | .pF _ b t _ | .pG _ b t _=>[b,t]
 | .mD _ b t _ n | .mK _ b t _ n _=>[b,t,n]
 | .mE _ b _ | .rh _ b=>[b]
 | .wO b | .rD b | .Dg b=>[b]
 | .qt t=>[t]
 | .vA b t | .rS b t _ | .uh b t _=>[b,t]
 | .sL t _ _=>[t]
 | .vC _ t | .rE _ t | .qu _ t _ | .oa _ t _ _ | .oD _ t _=>[t]
 | .Dh _ t=>[t]
 | _=>[]
def JZ(x:Int)(n:Nat):Prop:=-(n:Int)<=x/\x<=n
structure BD(s:St)(n:Nat):Prop where
 m:∀a,a.LZ=true->JZ (s.mem a) (n+1)
 r:∀i,∀x∈gL (s.pc i),JZ x (n+1)
 k:∀f,(s.fr f).bt<=n
section
variable {C:kH}{s:St}{i n:Nat}
theorem JZ.mono{x:Int}{m:Nat}(h:JZ x n)(hm:n<=m):JZ x m:=⟨by have:=h.1;omega,by have:=h.2;omega⟩
theorem JZ.inc{x:Int}(h:JZ x n):JZ (x+1) (n+1):=⟨by have:=h.1;omega,by have:=h.2;omega⟩
theorem JZ.dec{x:Int}(h:JZ x n):JZ (x-1) (n+1):=⟨by have:=h.1;omega,by have:=h.2;omega⟩
theorem BD.of{s':St}{p:Pc}(h:BD s n)(hm:∀a,a.LZ=true->JZ (s'.mem a) (n+2))(hp:s'.pc=cY s.pc i p)(hr:∀x∈gL p,JZ x (n+2))(hk:∀f,(s'.fr f).bt<=n+1):BD s' (n+1):=
 ⟨hm,λj x hx=>by
  rw[hp,cC]at hx;split at hx
  ·exact hr x hx
  ·exact(h.r j x hx).mono I,hk⟩
theorem BD.mem(h:BD s n){a:uv}(ha:a.LZ=true):JZ (s.mem a) (n+2):=(h.m a ha).mono I
theorem BD.wr(h:BD s n){b:uv}{v:Int}(hv:b.LZ=true->JZ v (n+2)):∀a,a.LZ=true->JZ ((s.wr b v).mem a) (n+2):=λa ha=>by
 show JZ (cY s.mem b v a) _;rw[cC];split
 ·next e=>exact hv (e▸ ha)
 ·exact h.mem ha
theorem BD.bt(h:BD s n)(f:Nat):(s.fr f).bt<=n+1:=Kq (h.k f)
theorem BD.lay(h:BD s n){g:Nat}{x:Fr}(hx:x.bt<=n+1)(f:Nat):((s.lay g x).fr f).bt<=n+1:=by
 show(cY s.fr g x f).bt<=_;rw[cC];split
 ·exact hx
 ·exact h.bt f
theorem BD.aH(h:BD s n)(d:Int):BD (aH C s i d).s (n+1):=by
 have R:=h.r i;cases hp:s.pc i with
 | run =>
  unfold Am.aH;rw[hp];simp only;unfold instr;simp only;split
  ·exact h.of (p:=s.pc i) (λa ha=>h.mem ha) (qv _ _).symm (λx hx=>(R x hx).mono I) (h.lay (h.bt _))
  ·exact h.of (p:=s.pc i) (λa ha=>h.mem ha) (qv _ _).symm (λx hx=>(R x hx).mono I) (h.lay (h.bt _))
  ·exact h.of (p:=s.pc i) (λa ha=>h.mem ha) (qv _ _).symm (λx hx=>(R x hx).mono I) (h.lay (h.bt _))
  ·exact h.of (p:=s.pc i) (λa ha=>h.mem ha) (qv _ _).symm (λx hx=>(R x hx).mono I) (h.lay (h.bt _))
  ·exact h.of (p:=s.pc i) (λa ha=>h.mem ha) (qv _ _).symm (λx hx=>(R x hx).mono I) (h.lay (by split<;>exact h.bt _))
  ·exact h.of (p:=s.pc i) (λa ha=>h.mem ha) (qv _ _).symm (λx hx=>(R x hx).mono I) (h.lay (h.bt _))
  ·exact h.of (p:=s.pc i) (λa ha=>h.mem ha) (qv _ _).symm (λx hx=>(R x hx).mono I) (h.lay (h.bt _))
  ·split
   ·exact h.of (h.wr (λ_=>(h.m .next rfl).inc)) rfl (λx hx=>by cases hx) (h.lay (h.bt _))
   ·refine h.of (h.wr (λ_=>(h.m .next rfl).inc)) rfl (λx hx=>by cases hx) (λf => ?_);simp only[St.lay,St.wr,St.to,St.put,cC];have k1:=h.k ((s.hold i).getD 0);have k2:=h.bt f;split
    ·exact BT _
    ·split
     ·exact Nat.succ_le_succ k1
     ·exact k2
  ·split<;>exact h.of (h.wr (λ_=>(h.m (.join _) rfl).dec)) rfl (λx hx=>by cases hx) (h.lay (h.bt _))
  ·split<;>exact h.of (h.wr (λe=>by cases e)) rfl (λx hx=>by cases hx) (h.lay (h.bt _))
 | halted=>unfold Am.aH;rw[hp];exact h.of (p:=s.pc i) (λa ha=>h.mem ha) (qv _ _).symm (λx hx=>(R x hx).mono I) h.bt
 | full=>unfold Am.aH;rw[hp];exact h.of (p:=s.pc i) (λa ha=>h.mem ha) (qv _ _).symm (λx hx=>(R x hx).mono I) h.bt
 | parked =>
  unfold Am.aH;rw[hp];simp only;split
  ·exact h.of (p:=s.pc i) (λa ha=>h.mem ha) (qv _ _).symm (λx hx=>(R x hx).mono I) h.bt
  ·exact h.of (λa ha=>h.mem ha) rfl (by intro x hx;split at hx<;>cases hx) h.bt
 | grow c b t cc =>
  unfold Am.aH;rw[hp];simp only;rw[hp]at R;refine h.of (λa ha => ?_) rfl (λx hx=>(R x hx).mono I) h.bt;cases a<;>first | exact h.mem ha | cases ha
 | start x=>unfold Am.aH;rw[hp];exact h.of (h.wr (λ_=>(h.m (.mark _) rfl).inc)) rfl (λx hx=>by cases hx) h.bt
 | fork c=>unfold Am.aH;rw[hp];exact h.of (h.wr (λ_=>(h.m (.join _) rfl).inc)) rfl (λx hx=>by cases hx) h.bt
 | rR=>unfold Am.aH;rw[hp];exact h.of (h.wr (λ_=>⟨I,I⟩)) rfl (λx hx=>by cases hx) h.bt
 | out p c=>unfold Am.aH;rw[hp];simp only;split<;>exact h.of (h.wr (λ_=>(h.m (.join _) rfl).dec)) rfl (λx hx=>by cases hx) h.bt
 | take p c=>unfold Am.aH;rw[hp];exact h.of (h.wr (λ_=>⟨I,I⟩)) rfl (λx hx=>by cases hx) h.bt
 | done=>unfold Am.aH;rw[hp];simp only[oG];split<;>exact h.of (h.wr (λe=>by cases e)) rfl (λx hx=>by cases hx) h.bt
 | tell j =>
  unfold Am.aH;rw[hp];simp only[oG];split
  ·exact h.of (h.wr (λe=>by cases e)) rfl (λx hx=>by cases hx) h.bt
  ·split<;>exact h.of (λa ha=>h.mem ha) rfl (λx hx=>by cases hx) h.bt
 | xz j=>unfold Am.aH;rw[hp];simp only[oG];split<;>exact h.of (h.wr (λ_=>(h.m .tJ rfl).dec)) rfl (λx hx=>by cases hx) h.bt
 | Cd c=>unfold Am.aH;rw[hp];exact h.of (λa ha=>h.mem ha) rfl (λx hx=>by rw[List.mem_singleton.1 hx];exact h.mem (a:=.bot i) rfl) h.bt
 | zR c b =>
  unfold Am.aH;rw[hp];rw[hp]at R;simp only;exact h.of (λa ha=>h.mem ha) rfl (λx hx=>by
   simp only[gL,sC,sD,sE]at hx;rcases hx with rfl | rfl
   ·exact(R _ (by simp[gL])).mono I
   ·exact h.mem (a:=.top i) rfl) h.bt
 | tg c b t =>
  unfold Am.aH;rw[hp];rw[hp]at R;simp only;exact h.of (λa ha=>h.mem ha) rfl (λx hx=>by
   simp only[gL,sC,sD,sE]at hx;rcases hx with rfl | rfl
   ·exact(R _ (by simp[gL])).mono I
   ·exact(R _ (by simp[gL])).mono I) h.bt
 | th c b t =>
  unfold Am.aH;rw[hp];rw[hp]at R;simp only;split
  ·exact h.of (λa ha=>h.mem ha) rfl (λx hx=>by rw[List.mem_singleton.1 hx];exact(R _ (by simp[gL])).mono I) h.bt
  ·split
   ·exact h.of (λa ha=>h.mem ha) rfl (λx hx=>by cases hx) h.bt
   ·exact h.of (λa ha=>h.mem ha) rfl (λx hx=>by
    simp only[gL,sC,sD,sE]at hx;rcases hx with rfl | rfl
    ·exact(R _ (by simp[gL])).mono I
    ·exact(R _ (by simp[gL])).mono I) h.bt
 | pF c b t cc =>
  unfold Am.aH;rw[hp];rw[hp]at R;simp only;exact h.of (h.wr (λe=>by cases e)) rfl (λx hx=>by
   simp only[gL,sC,sD,sE]at hx;rcases hx with rfl | rfl | rfl
   ·exact(R _ (by simp[gL])).mono I
   ·exact(R _ (by simp[gL])).mono I
   ·exact(R _ (by simp[gL])).mono I) h.bt
 | mD c b t cc n =>
  unfold Am.aH;rw[hp];rw[hp]at R;simp only;exact h.of (λa ha=>h.mem ha) rfl (λx hx=>by
   simp only[gL,sC,sD,sE]at hx;rcases hx with rfl | rfl | rfl
   ·exact(R _ (by simp[gL])).mono I
   ·exact(R _ (by simp[gL])).mono I
   ·exact(R _ (by simp[gL])).mono I) h.bt
 | mK c b t cc n x =>
  unfold Am.aH;rw[hp];rw[hp]at R;simp only;refine h.of (h.wr (λe=>by cases e)) rfl (λy hy => ?_) h.bt;split at hy
  ·simp only[gL,sC,sD,sE]at hy;rcases hy with rfl | rfl | rfl
   ·exact(R _ (by simp[gL])).mono I
   ·exact(R _ (by simp[gL])).mono I
   ·exact(R n (by simp[gL])).inc
  ·simp only[gL,sC,sD,sE]at hy;rcases hy with rfl | rfl
   ·exact(R _ (by simp[gL])).mono I
   ·exact(R _ (by simp[gL])).mono I
 | pG c b t cc =>
  unfold Am.aH;rw[hp];rw[hp]at R;simp only;exact h.of (h.wr (λe=>by cases e)) rfl (λx hx=>by rw[List.mem_singleton.1 hx];exact(R _ (by simp[gL])).mono I) h.bt
 | mE c b cc =>
  unfold Am.aH;rw[hp];rw[hp]at R;simp only;exact h.of (h.wr (λe=>by cases e)) rfl (λx hx=>by rw[List.mem_singleton.1 hx];exact(R _ (by simp[gL])).mono I) h.bt
 | rh c b =>
  unfold Am.aH;rw[hp];rw[hp]at R;simp only;exact h.of (h.wr (λ_=>(R b (by simp[gL])).inc)) rfl (λx hx=>by cases hx) h.bt
 | HU =>
  unfold Am.aH;rw[hp];rw[hp]at R;simp only;refine h.of (λa ha=>h.mem ha) rfl (λy hy => ?_) h.bt;split at hy<;>cases hy
 | ug j =>
  unfold Am.aH;rw[hp];rw[hp]at R;simp only;split
  ·exact h.of (h.wr (λe=>by cases e)) rfl (λx hx=>by cases hx) h.bt
  ·refine h.of (λa ha=>h.mem ha) rfl (λy hy => ?_) h.bt;split at hy<;>cases hy
 | vW j =>
  unfold Am.aH;rw[hp];rw[hp]at R;simp only;exact h.of (h.wr (λ_=>(h.m .tJ rfl).dec)) rfl (λx hx=>by cases hx) h.bt
 | Fg =>
  unfold Am.aH;rw[hp];rw[hp]at R;simp only;exact h.of (λa ha=>h.mem ha) rfl (λx hx=>by rw[List.mem_singleton.1 hx];exact(h.m (.bot i) rfl).dec) h.bt
 | wO b =>
  unfold Am.aH;rw[hp];rw[hp]at R;simp only;exact h.of (λa ha=>h.mem ha) rfl (λx hx=>by rw[List.mem_singleton.1 hx];exact(R _ (by simp[gL])).mono I) h.bt
 | rD b =>
  unfold Am.aH;rw[hp];rw[hp]at R;simp only;exact h.of (h.wr (λ_=>(R b (by simp[gL])).mono I)) rfl (λx hx=>by rw[List.mem_singleton.1 hx];exact(R _ (by simp[gL])).mono I) h.bt
 | Dg b =>
  unfold Am.aH;rw[hp];rw[hp]at R;simp only;split
  ·exact h.of (λa ha=>h.mem ha) rfl (λx hx=>by
   simp only[gL,sC,sD,sE]at hx;rcases hx with rfl | rfl
   ·exact(R _ (by simp[gL])).mono I
   ·exact h.mem (a:=.top i) rfl) h.bt
  ·split
   ·exact h.of (λa ha=>h.mem ha) rfl (λx hx=>by
    simp only[gL,sC,sD,sE]at hx;rcases hx with rfl | rfl
    ·exact(R _ (by simp[gL])).mono I
    ·exact h.mem (a:=.top i) rfl) h.bt
   ·exact h.of (λa ha=>h.mem ha) rfl (λx hx=>by rw[List.mem_singleton.1 hx];exact h.mem (a:=.top i) rfl) h.bt
 | qt t =>
  unfold Am.aH;rw[hp];rw[hp]at R;simp only;refine h.of (h.wr (λ_=>(R t (by simp[gL])).mono I)) rfl (λy hy => ?_) h.bt;split at hy<;>cases hy
 | vA b t =>
  unfold Am.aH;rw[hp];rw[hp]at R;simp only;exact h.of (λa ha=>h.mem ha) rfl (λx hx=>by
   simp only[gL,sC,sD,sE]at hx;rcases hx with rfl | rfl
   ·exact(R _ (by simp[gL])).mono I
   ·exact(R _ (by simp[gL])).mono I) h.bt
 | rS b t cc =>
  unfold Am.aH;rw[hp];rw[hp]at R;simp only;split
  ·exact h.of (λa ha=>h.mem ha) rfl (λx hx=>by cases hx) h.bt
  ·exact h.of (λa ha=>h.mem ha) rfl (λx hx=>by
   simp only[gL,sC,sD,sE]at hx;rcases hx with rfl | rfl
   ·exact(R _ (by simp[gL])).mono I
   ·exact(R _ (by simp[gL])).mono I) h.bt
 | uh b t x =>
  unfold Am.aH;rw[hp];rw[hp]at R;simp only;split
  ·exact h.of (h.wr (λ_=>(R t (by simp[gL])).inc)) rfl (λx hx=>by rw[List.mem_singleton.1 hx];exact(R _ (by simp[gL])).mono I) h.bt
  ·exact h.of (λa ha=>h.mem ha) rfl (λx hx=>by rw[List.mem_singleton.1 hx];exact(R _ (by simp[gL])).mono I) h.bt
 | sL t x Ae =>
  unfold Am.aH;rw[hp];rw[hp]at R;simp only;split
  ·exact h.of (h.wr (λ_=>(R t (by simp[gL])).inc)) rfl (λx hx=>by cases hx) h.bt
  ·refine h.of (h.wr (λ_=>(R t (by simp[gL])).inc)) rfl (λy hy => ?_) h.bt;split at hy<;>cases hy
 | oC =>
  unfold Am.aH;rw[hp];rw[hp]at R;simp only;exact h.of (λa ha=>h.mem ha) rfl (λx hx=>by rw[List.mem_singleton.1 hx];exact h.mem (a:=.top _) rfl) h.bt
 | vC v t =>
  unfold Am.aH;rw[hp];rw[hp]at R;simp only;split
  ·exact h.of (λa ha=>h.mem ha) rfl (λx hx=>by cases hx) h.bt
  ·exact h.of (λa ha=>h.mem ha) rfl (λx hx=>by rw[List.mem_singleton.1 hx];exact(R _ (by simp[gL])).mono I) h.bt
 | rE v t =>
  unfold Am.aH;rw[hp];rw[hp]at R;simp only;exact h.of (λa ha=>h.mem ha) rfl (λx hx=>by rw[List.mem_singleton.1 hx];exact(R _ (by simp[gL])).mono I) h.bt
 | qu v t g =>
  unfold Am.aH;rw[hp];rw[hp]at R;simp only;exact h.of (λa ha=>h.mem ha) rfl (λx hx=>by rw[List.mem_singleton.1 hx];exact(R _ (by simp[gL])).mono I) h.bt
 | oa v t g cc =>
  unfold Am.aH;rw[hp];rw[hp]at R;simp only;exact h.of (λa ha=>h.mem ha) rfl (λx hx=>by rw[List.mem_singleton.1 hx];exact(R _ (by simp[gL])).mono I) h.bt
 | oD v t x =>
  unfold Am.aH;rw[hp];rw[hp]at R;simp only;split
  ·exact h.of (h.wr (λ_=>(R t (by simp[gL])).inc)) rfl (λx hx=>by cases hx) h.bt
  ·exact h.of (λa ha=>h.mem ha) rfl (λx hx=>by cases hx) h.bt
 | Eh =>
  unfold Am.aH;rw[hp];rw[hp]at R;simp only;split
  ·exact h.of (λa ha=>h.mem ha) rfl (λx hx=>by cases hx) h.bt
  ·refine h.of (λa ha=>h.mem ha) rfl (λy hy => ?_) h.bt;split at hy<;>cases hy
 | flag =>
  unfold Am.aH;rw[hp];rw[hp]at R;simp only;exact h.of (h.wr (λe=>by cases e)) rfl (λx hx=>by cases hx) h.bt
 | sleep =>
  unfold Am.aH;rw[hp];rw[hp]at R;simp only;exact h.of (h.wr (λ_=>(h.m .tJ rfl).inc)) rfl (λx hx=>by cases hx) h.bt
 | vp =>
  unfold Am.aH;rw[hp];rw[hp]at R;simp only[looking];split
  ·exact h.of (λa ha=>h.mem ha) rfl (λx hx=>by cases hx) h.bt
  ·split<;>exact h.of (λa ha=>h.mem ha) rfl (λx hx=>by cases hx) h.bt
 | EG j =>
  unfold Am.aH;rw[hp];rw[hp]at R;simp only;exact h.of (λa ha=>h.mem ha) rfl (λx hx=>by rw[List.mem_singleton.1 hx];exact h.mem (a:=.top j) rfl) h.bt
 | Dh j t =>
  unfold Am.aH;rw[hp];rw[hp]at R;simp only[looking];split
  ·exact h.of (λa ha=>h.mem ha) rfl (λx hx=>by cases hx) h.bt
  ·split<;>exact h.of (λa ha=>h.mem ha) rfl (λx hx=>by cases hx) h.bt
 | back b =>
  unfold Am.aH;rw[hp];rw[hp]at R;simp only[Cu];split
  ·exact h.of (h.wr (λe=>by cases e)) rfl (λx hx=>by cases hx) h.bt
  ·split
   ·exact h.of (λa ha=>h.mem ha) rfl (λx hx=>by cases hx) h.bt
   ·refine h.of (λa ha=>h.mem ha) rfl (λy hy => ?_) h.bt;split at hy<;>cases hy
 | vX b =>
  unfold Am.aH;rw[hp];rw[hp]at R;simp only[Cu];split
  ·exact h.of (h.wr (λ_=>(h.m .tJ rfl).dec)) rfl (λx hx=>by cases hx) h.bt
  ·refine h.of (h.wr (λ_=>(h.m .tJ rfl).dec)) rfl (λy hy => ?_) h.bt;split at hy<;>cases hy
end
def Em(C:kH)(s:St):uv->Prop
 | .result | .next | .tJ | .Eg=>True
 | .join f | .mark f=>f<C.F
 | .slot f k=>f<C.F/\k<8
 | .flag i | .top i | .bot i | .buf i=>i<C.N
 | .cap i g=>i<C.N/\g<=gen s i
 | .el i g n=>i<C.N/\g<=gen s i/\n<uA C g
def cy(C:kH)(s:St):uv->Int
 | .result=>0
 | .next=>1
 | .join f=>2+10*f
 | .mark f=>3+10*f
 | .slot f k=>4+10*f+k
 | .tJ=>2+10*C.F
 | .Eg=>3+10*C.F
 | .flag i=>4+10*C.F+i
 | .top i=>vD C i
 | .bot i=>vD C i+1
 | .buf i=>vD C i+2
 | .cap i g=>s.base i g
 | .el i g n=>s.base i g+1+n
inductive Nx | fix (x:Int) | dq (i r:Nat) | gr (i g r:Nat)
def L0(C:kH):uv->Nx
 | .result=>.fix 0
 | .next=>.fix 1
 | .join f=>.fix (2+10*f)
 | .mark f=>.fix (3+10*f)
 | .slot f k=>.fix (4+10*f+k)
 | .tJ=>.fix (2+10*C.F)
 | .Eg=>.fix (3+10*C.F)
 | .flag i=>.fix (4+10*C.F+i)
 | .top i=>.dq i 0
 | .bot i=>.dq i 1
 | .buf i=>.dq i 2
 | .cap i g=>if g=0 then .dq i 3 else .gr i g 0
 | .el i g n=>if g=0 then .dq i (4+n)else .gr i g (1+n)
section
variable {C:kH}{s:St}
theorem J0{i:Nat}(h:i<C.N):vD C i+(4+C.first)<=S0 C:=by
 unfold vD S0;have:(i+1)*(4+C.first)<=C.N*(4+C.first):=rm _ h;rw[Ez]at this;omega
theorem Pa(i:Nat):4+10*C.F+C.N<=vD C i:=by unfold vD;omega
theorem II{i j:Nat}(h:i<j):vD C i+(4+C.first)<=vD C j:=by
 unfold vD;have:(i+1)*(4+C.first)<=j*(4+C.first):=rm _ h;rw[Ez]at this;omega
def zin(C:kH)(s:St)(z:Nx)(x:Int):Prop:=
 match z with
 | .fix y=>x=y/\0<=y/\y<4+10*C.F+C.N
 | .dq i r=>i<C.N/\r<4+C.first/\x=vD C i+r
 | .gr i g r=>i<C.N/\1<=g/\g<=gen s i/\r<1+uA C g/\x=s.base i g+r
theorem J1(h:SZ C s){a:uv}(ha:Em C s a):zin C s (L0 C a) (cy C s a):=by
 cases a with
 | result=>exact⟨rfl,I,I⟩
 | next=>exact⟨rfl,I,I⟩
 | tJ=>exact⟨rfl,I,I⟩
 | Eg=>exact⟨rfl,I,I⟩
 | join f=>have:f<C.F:=ha;exact⟨rfl,I,I⟩
 | mark f=>have:f<C.F:=ha;exact⟨rfl,I,I⟩
 | slot f k=>have:f<C.F/\k<8:=ha;exact⟨rfl,I,I⟩
 | flag i=>have:i<C.N:=ha;exact⟨rfl,I,I⟩
 | top i=>exact⟨ha,I,by simp[cy]⟩
 | bot i=>exact⟨ha,I,by simp[cy]⟩
 | buf i=>exact⟨ha,I,by simp[cy]⟩
 | cap i g =>
  by_cases e:g=0
  ·subst e;simp only[L0,if_true];exact⟨ha.1,I,by simp only[cy];rw[h.SY i ha.1];omega⟩
  ·simp only[L0,ct e];exact⟨ha.1,I,ha.2,I,by simp[cy]⟩
 | el i g n =>
  by_cases e:g=0
  ·subst e;simp only[L0,if_true];exact⟨ha.1,by have:=ha.2.2;simp only[uA]at this;omega,by simp only[cy];rw[h.SY i ha.1];omega⟩
  ·simp only[L0,ct e];exact⟨ha.1,I,ha.2.1,by have:=ha.2.2;omega,by simp only[cy];omega⟩
theorem YB(h:SZ C s){z:Nx}{x:Int}(hz:zin C s z x):0<=x/\x<s.size:=by
 have hs:(S0 C:Int)<=s.size:=by rw[h.size];omega
 have h0:4+10*C.F+C.N<=S0 C:=by unfold S0;omega
 cases z with
 | fix y=>obtain⟨rfl,a,b⟩:=hz;omega
 | dq i r=>obtain⟨a,b,rfl⟩:=hz;have:=J0 a;omega
 | gr i g r=>obtain⟨a,b,c,d,rfl⟩:=hz;have:=h.bs i a g b c;omega
theorem Vg(h:SZ C s){z z':Nx}{x:Int}(hz:zin C s z x)(PO:zin C s z' x):z=z':=by
 have h0:4+10*C.F+C.N<=S0 C:=by unfold S0;omega
 cases z with
 | fix y =>
  obtain⟨rfl,a,b⟩:=hz;cases z' with
  | fix y'=>obtain⟨rfl,_,_⟩:=PO;rfl
  | dq i r=>obtain⟨a',b',c'⟩:=PO;have:=Pa (C:=C) i;omega
  | gr i g r=>obtain⟨a',b',c',d',e'⟩:=PO;have:=h.bs i a' g b' c';omega
 | dq i r =>
  obtain⟨a,b,c⟩:=hz;have hi:=J0 a;cases z' with
  | fix y'=>obtain⟨rfl,_,_⟩:=PO;have:=Pa (C:=C) i;omega
  | dq i' r' =>
   obtain⟨a',b',c'⟩:=PO;rcases Nat.lt_trichotomy i i' with e | e | e
   ·have:=II (C:=C) e;omega
   ·subst e;have:r=r':=by omega
    rw[this]
   ·have:=II (C:=C) e;omega
  | gr i' g r'=>obtain⟨a',b',c',d',e'⟩:=PO;have:=h.bs i' a' g b' c';omega
 | gr i g r =>
  obtain⟨a,b,c,d,e⟩:=hz;have hb:=h.bs i a g b c;cases z' with
  | fix y'=>obtain⟨rfl,_,_⟩:=PO;omega
  | dq i' r'=>obtain⟨a',b',c'⟩:=PO;have:=J0 a';omega
  | gr i' g' r' =>
   obtain⟨a',b',c',d',e'⟩:=PO;by_cases hh:i≠i'∨g≠g'
   ·have:=h.dj i i' g g' a a' b b' c c' hh;omega
   ·have e1:i=i':=Decidable.byContradiction λe=>hh (.inl e);have e2:g=g':=Decidable.byContradiction λe=>hh (.inr e);subst e1;subst e2;have:r=r':=by omega
    rw[this]
theorem S1(h:SZ C s){a b:uv}(ha:Em C s a)(hb:Em C s b)(e:L0 C a=L0 C b):a=b:=by
 cases a<;>cases b<;>simp only[L0]at e<;>simp only[Em]at ha hb<;>(try rfl)<;>(repeat' split at e)<;>simp only[Nx.fix.injEq,Nx.dq.injEq,Nx.gr.injEq,reduceCtorEq]at e<;>first
  | omega
  | (exfalso;revert e ha hb;simp;done)
  | (simp only[uv.join.injEq,uv.mark.injEq,uv.slot.injEq,uv.flag.injEq,uv.top.injEq,uv.bot.injEq,uv.buf.injEq,uv.cap.injEq,uv.el.injEq];first | omega | (refine⟨?_,?_⟩<;>omega) | (refine⟨?_,?_,?_⟩<;>omega))
theorem Qr(h:SZ C s){a b:uv}(ha:Em C s a)(hb:Em C s b)(e:cy C s a=cy C s b):a=b:=
 S1 h ha hb (Vg h (J1 h ha) (e▸ J1 h hb))
theorem Dj(h:SZ C s){a:uv}(ha:Em C s a):0<=cy C s a/\cy C s a<s.size:=YB h (J1 h ha)
structure CL(C:kH)(s:St)(c:List Int):Prop where
 len:(c.length:Int)=s.size
 get:∀a,Em C s a->c.getD (cy C s a).toNat 0=s.mem a
theorem CL.En{c:List Int}(h:CL C s c)(hz:SZ C s){a:uv}(ha:Em C s a):0<=cy C s a/\cy C s a<c.length/\(cy C s a).toNat<c.length:=by
 have:=Dj hz ha;have:=h.len;omega
theorem CL.of{s':St}{c:List Int}(h:CL C s c)(h1:s'.mem=s.mem)(h2:s'.size=s.size)(h3:s'.base=s.base)(h4:gen s'=gen s):CL C s' c:=by
 have e1:∀a,Em C s' a=Em C s a:=λa=>by cases a<;>simp only[Em,h4]
 have e2:∀a,cy C s' a=cy C s a:=λa=>by cases a<;>simp only[cy,h3]
 exact⟨by rw[h2];exact h.len,λa ha=>by rw[e2,h1];exact h.get a (e1 a▸ ha)⟩
theorem CL.set{s':St}{c:List Int}{b:uv}{v:Int}(h:CL C s c)(hz:SZ C s)(hb:Em C s b)(h1:s'.mem=cY s.mem b v)(h2:s'.size=s.size)(h3:s'.base=s.base)(h4:gen s'=gen s):CL C s' (c.set (cy C s b).toNat v):=by
 have e1:∀a,Em C s' a=Em C s a:=λa=>by cases a<;>simp only[Em,h4]
 have e2:∀a,cy C s' a=cy C s a:=λa=>by cases a<;>simp only[cy,h3]
 refine⟨by rw[h2,gY];exact h.len,λa ha => ?_⟩;rw[e1]at ha;rw[e2,h1,cC,List.getD_eq_getElem?_getD,List.getElem?_set];have la:=h.En hz ha;have lb:=h.En hz hb;by_cases e:a=b
 ·subst e;rw[aP rfl,aP la.2.2,aP rfl];rfl
 ·have hne:(cy C s b).toNat≠(cy C s a).toNat:=λe'=>e (Qr hz ha hb I);rw[ct hne,ct e,<-List.getD_eq_getElem?_getD];exact h.get a ha
theorem CL.grow{s':St}{c:List Int}{i:Nat}(h:CL C s c)(hz:SZ C s)(hi:i<C.N)(hg:gen s i=s.cur i)
 (h1:∀a,s'.mem a=match a with | .cap i' g'=>if i'=i/\g'=s.cur i+1 then 0 else s.mem a | .el i' g' _=>if i'=i/\g'=s.cur i+1 then 0 else s.mem a | _=>s.mem a)
 (h2:s'.size=s.size+1+uA C (s.cur i+1)) (h3:s'.base=cY s.base i (cY (s.base i) (s.cur i+1) s.size)) (h4:gen s'=cY (gen s) i (s.cur i+1)):CL C s' (c++List.replicate (1+uA C (s.cur i+1)) 0):=by
 have hl:=h.len;have hnew:∀k,c.length<=k->(c++List.replicate (1+uA C (s.cur i+1)) (0:Int)).getD k 0=0:=λk hk=>by
  rw[List.getD_eq_getElem?_getD,List.getElem?_append_right hk,List.getElem?_replicate];split<;>rfl
 have hold:∀k,k<c.length->(c++List.replicate (1+uA C (s.cur i+1)) (0:Int)).getD k 0=c.getD k 0:=λk hk=>by
  rw[List.getD_eq_getElem?_getD,List.getElem?_append_left hk,<-List.getD_eq_getElem?_getD]
 refine⟨by rw[h2,jM,mo];omega,λa ha => ?_⟩;have key:∀a,Em C s a->cy C s' a=cy C s a->s'.mem a=s.mem a->(c++List.replicate (1+uA C (s.cur i+1)) (0:Int)).getD (cy C s' a).toNat 0=s'.mem a:=λa hv hp hm=>by
  rw[hp,hm,hold _ (h.En hz hv).2.2];exact h.get a hv
 cases a with
 | cap j g =>
  have ha1:=ha.1;have YC:=ha.2;rw[h4,cC]at YC;by_cases e:j=i/\g=s.cur i+1
  ·obtain⟨rfl,rfl⟩:=e;rw[h1];simp only[and_self,if_true,cy];rw[h3,bA,bA];exact hnew _ I
  ·refine key _ ⟨ha1,?_⟩ ?_ (by rw[h1];exact ct e)
   ·split at YC
    ·next e'=>subst e';rw[hg];have:g≠s.cur j+1:=λx=>e ⟨rfl,x⟩;omega
    ·exact YC
   ·simp only[cy];rw[h3,cC];split
    ·next e'=>subst e';rw[be (λx=>e ⟨rfl,x⟩)]
    ·rfl
 | el j g n =>
  have ha1:=ha.1;have YC:=ha.2.1;rw[h4,cC]at YC;by_cases e:j=i/\g=s.cur i+1
  ·obtain⟨rfl,rfl⟩:=e;rw[h1];simp only[and_self,if_true,cy];rw[h3,bA,bA];exact hnew _ I
  ·refine key _ ⟨ha1,?_,ha.2.2⟩ ?_ (by rw[h1];exact ct e)
   ·split at YC
    ·next e'=>subst e';rw[hg];have:g≠s.cur j+1:=λx=>e ⟨rfl,x⟩;omega
    ·exact YC
   ·simp only[cy];rw[h3,cC];split
    ·next e'=>subst e';rw[be (λx=>e ⟨rfl,x⟩)]
    ·rfl
 | _=>exact key _ ha rfl (by rw[h1])
end
end Am
end
section
namespace Mo
open Go SL GX
def qW(i:bZ):Am.Yu:=
 if i.aE=0 then .const i.A.toNat i.K else if i.aE=1 then .move i.A.toNat i.B.toNat else if i.aE=2 then .arith i.K i.A.toNat i.B.toNat i.C.toNat
 else if i.aE=3 then .jump i.A.toNat else if i.aE=4 then .branch i.A.toNat i.B.toNat else if i.aE=5 then .spawn i.A.toNat i.B.toNat i.C.toNat
 else if i.aE=6 then .sync else if i.aE=7 then .load i.A.toNat i.B.toNat else if i.aE=8 then .nA i.A.toNat else .ret i.A.toNat
def apv(op x y:Int):Int:=match tE op x y with
 | some r=>r.1
 | none=>0
theorem S2{op:Int}(h0:0<=op)(h1:op<16)(x y:Int):tE op x y=some (apv op x y,0):=by
 have d :∃a b,uL x y=some (a,b):=by
  unfold uL;by_cases h:y=0
  ·rw[aP h];exact⟨_,_,rfl⟩
  ·rw[ct h];split
   ·exact⟨_,_,rfl⟩
   ·exact⟨_,_,rfl⟩
 obtain⟨a,b,d⟩:=d;have e :∃v,AU op x y=some v:=by
  have it:∀{c:Prop} [Decidable c] {x y:Option Int},(∃v,x=some v)->(∃v,y=some v)->∃v,(if c then x else y)=some v:=λhx hy=>by
   split
   ·exact hx
   ·exact hy
  have tr:∀b:Bool,∃v,uM b=some v:=λb=>by cases b<;>exact⟨_,rfl⟩
  have ob:∀{x:Option Int},(∃v,x=some v)->∃v,eV x (λr=>some r)=some v:=λ⟨v,h⟩=>⟨v,by rw[h];rfl⟩;unfold AU;rw[d];exact it ⟨_,rfl⟩ (it ⟨_,rfl⟩ (it ⟨_,rfl⟩ (it ⟨_,rfl⟩ (it ⟨_,rfl⟩ (it ⟨_,rfl⟩ (it ⟨_,rfl⟩ (it ⟨_,rfl⟩ (it ⟨_,rfl⟩ (it ⟨_,rfl⟩ (it ⟨_,rfl⟩ (it ⟨_,rfl⟩ (it (ob (tr _)) (it (ob (tr _)) (it (ob (tr _)) (ob (tr _))))))))))))))))
 obtain⟨v,e⟩:=e;have:tE op x y=some (v,0):=by
  unfold tE C8;rw[aP h0,ax,aP (tP h1),e,ax]
 unfold apv;rw[this]
def cfg(p:aJ)(N F f m:Nat):Am.kH:=
 { N:=N,F:=F,first:=f,most:=m,O5:=p.ah.length,len:=λg=>(J p.ah g).aq.length,params:=λg=>(J p.ah g).aS.toNat,cU:=λg=>(J p.ah g).dc.toNat,
   code:=λg a=>qW (J (J p.ah g).aq a),ap:=apv,pd:=λx k=>wi (wi (wi (x*1000003)+(k:Int))+1)}
theorem Cw{x n:Int}(h:uu x n=true):0<=x/\x<n:=vS.1 h
theorem YE{p:aJ}{g:aC}(h:Code p g)(hs:Ki g){a:Nat}(ha:a<g.aq.length)(h3:¬(J g.aq a).aE=3)(h9:¬(J g.aq a).aE=9):a+1<g.aq.length:=by
 have en:=h.fin;unfold Ng at en;simp only[xb,Aj]at en;by_cases e:a=g.aq.length-1
 ·rw[<-e]at en;rcases en with en | en
  ·exact absurd en h3
  ·exact absurd en h9
 ·omega
theorem S4{p:aJ}{N F f m:Nat}(hv:Valid p)(Mx:1<=N)(hn:N<=64)(hf1:1<=F)(hf:F<=4096)(h1:1<=f)(WV:f<=m)(hm:m<=4096):(cfg p N F f m).OK where
 n1:=Mx
 n64:=hn
 f1:=hf1
 f4:=hf
 c1:=h1
 cm:=WV
 m4:=hm
 fn0:=hv.n1
 YA:=λg hg=>by have:=(hv.Jx g hg).c1;exact this
 JY:=λg hg=>by
  have a1:=(hv.Jx g hg).rp;have a2:=(hv.Jx g hg).r16;have a3:=(hv.Jx g hg).O;exact⟨by show(J p.ah g).aS.toNat<=(J p.ah g).dc.toNat;omega,by show(J p.ah g).dc.toNat<=16;omega⟩
 ins:=λg hg a ha=>by
  change g<p.ah.length at hg;change a<(J p.ah g).aq.length at ha;have hs:=hv.Jx g hg;have hc:=hv.code g hg;have hi:=(hc.ins a ha).1;have Uk:=(hc.ins a ha).2;have hl:=YE hc hs ha;have s8:=hs.s8;unfold ot at hi;unfold xu at Uk;unfold Am.O7;show match qW (J (J p.ah g).aq a)with
   | .const x _=>x<(J p.ah g).dc.toNat/\a+1<(J p.ah g).aq.length
   | .nA x=>x<(J p.ah g).dc.toNat/\a+1<(J p.ah g).aq.length
   | .move x y=>x<(J p.ah g).dc.toNat/\y<(J p.ah g).dc.toNat/\a+1<(J p.ah g).aq.length
   | .arith op x y z=>x<(J p.ah g).dc.toNat/\y<(J p.ah g).dc.toNat/\z<(J p.ah g).dc.toNat/\a+1<(J p.ah g).aq.length
   | .jump t=>t<(J p.ah g).aq.length
   | .branch x t=>x<(J p.ah g).dc.toNat/\t<(J p.ah g).aq.length/\a+1<(J p.ah g).aq.length
   | .spawn s f c=>s<8/\f<p.ah.length/\((J p.ah f).aS.toNat=0∨c+(J p.ah f).aS.toNat<=(J p.ah g).dc.toNat)/\a+1<(J p.ah g).aq.length
   | .sync=>a+1<(J p.ah g).aq.length
   | .load x s=>x<(J p.ah g).dc.toNat/\s<8/\a+1<(J p.ah g).aq.length
   | .ret x=>x<(J p.ah g).dc.toNat
  have hk:=(Code.snd hs hc).kind (a:Int) I I;rw[cO]at hk;generalize J (J p.ah g).aq a=c at *;have hk:c.aE=0∨c.aE=1∨c.aE=2∨c.aE=3∨c.aE=4∨c.aE=5∨c.aE=6∨c.aE=7∨c.aE=8∨c.aE=9:=by omega
  unfold qW;rcases hk with k | k | k | k | k | k | k | k | k | k<;>simp[k,uu]at hi Uk hl⊢
  ·omega
  ·omega
  ·omega
  ·omega
  ·omega
  ·have:=(hv.Jx c.B.toNat I).O;omega
  ·omega
  ·omega
  ·omega
  ·omega
def nt(M:ae)(c:List Int)(k a x y:Int)(ok:Bool):ae:={M with cell:=c,log:=if M.watched=true then M.log++[⟨M.sG,k,a,x,y,ok⟩]else M.log}
structure AR(C:Am.kH)(s:Am.St)(M:ae)(sz n:Nat):Prop where
 size:M.mq=sz
 s1:sz<=1048576
 fit:s.size<=sz
 mark:M.fe=(M.cell.length:Int)
 cl:Am.CL C s M.cell
 lg:M.log.length<=n
section
variable {C:Am.kH}{s:Am.St}{M:ae}{sz n:Nat}
theorem yJ(h:M.log.length<=2000000000)(c:List Int)(k a x y:Int)(ok:Bool):fZ {M with cell:=c} k a x y ok=some (nt M c k a x y ok):=by
 unfold fZ nt;by_cases e:M.watched=true
 ·rw[aP e,aP e,aP (by show(M.log.length+1)*48<=_;omega)]
 ·rw[ct e,ct e]
theorem AR.Vh(h:AR C s M sz n)(hz:Am.SZ C s){a:Am.uv}(ha:Am.Em C s a):bG (Am.cy C s a) M.cell.length/\Am.cy C s a<1048576/\J M.cell (Am.cy C s a).toNat=s.mem a:=by
 have l:=h.cl.En hz ha;have p:=Am.Dj hz ha;have f:=h.fit;have s1:=h.s1;exact⟨⟨l.1,l.2.1⟩,I,h.cl.get a ha⟩
theorem AR.out(h:AR C s M sz n)(hz:Am.SZ C s){a:Am.uv}(ha:Am.Em C s a):hH M (Am.cy C s a)=some false:=by
 have l:=h.cl.En hz ha;unfold hH ql;rw[h.mark,pR,tP I,ax];rfl
theorem xY(h:AR C s M sz n)(hz:Am.SZ C s)(hn:n<=2000000000){a:Am.uv}(ha:Am.Em C s a):gD M (Am.cy C s a)=some (s.mem a,0,nt M M.cell 0 (Am.cy C s a) (s.mem a) 0 true):=by
 obtain⟨i1,_,i3⟩:=h.Vh hz ha;have lg:=h.lg;unfold gD;rw[h.out hz ha,ax,ct eF,aP i1,i3];have:=yJ (M:=M) I M.cell 0 (Am.cy C s a) (s.mem a) 0 true;rw[show fZ M 0 (Am.cy C s a) (s.mem a) 0 true=_ from this,ax]
theorem uY(h:AR C s M sz n)(hz:Am.SZ C s)(hn:n<=2000000000){a:Am.uv}(ha:Am.Em C s a)(v:Int):dU M (Am.cy C s a) v=some (0,nt M (M.cell.set (Am.cy C s a).toNat v) 1 (Am.cy C s a) v 0 true):=by
 obtain⟨i1,_,i3⟩:=h.Vh hz ha;have lg:=h.lg;unfold dU;rw[h.out hz ha,ax,ct eF,aP i1,yJ I,ax]
theorem IJ(h:AR C s M sz n)(hz:Am.SZ C s)(hn:n<=2000000000){a:Am.uv}(ha:Am.Em C s a){d v:Int}(hv:wi (s.mem a+d)=v):iH M (Am.cy C s a) d=some (v,0,nt M (M.cell.set (Am.cy C s a).toNat v) 3 (Am.cy C s a) d v true):=by
 obtain⟨i1,_,i3⟩:=h.Vh hz ha;have lg:=h.lg;have l:=h.cl.En hz ha;unfold iH;rw[h.out hz ha,ax,ct eF,aP i1,i3,hv,aP (by rw[gY];exact i1),yJ I,ax];have hin:bG (Am.cy C s a) (nt M (M.cell.set (Am.cy C s a).toNat v) 3 (Am.cy C s a) d v true).cell.length:=by
  show bG _ (M.cell.set _ v).length;rw[gY];exact i1
 rw[aP hin];have:J (nt M (M.cell.set (Am.cy C s a).toNat v) 3 (Am.cy C s a) d v true).cell (Am.cy C s a).toNat=v:=by
  show J (M.cell.set _ v) _=v;rw[pV I,aP rfl]
 rw[this]
theorem S5(h:AR C s M sz n)(hz:Am.SZ C s)(hn:n<=2000000000){a:Am.uv}(ha:Am.Em C s a)(o v:Int):nC M (Am.cy C s a) o v=some (s.mem a==o,0,nt M (if s.mem a=o then M.cell.set (Am.cy C s a).toNat v else M.cell) 2 (Am.cy C s a) o v (s.mem a==o)):=by
 obtain⟨i1,_,i3⟩:=h.Vh hz ha;have lg:=h.lg;unfold nC;rw[h.out hz ha,ax,ct eF,aP i1,i3];by_cases e:s.mem a=o
 ·rw[aP e,aP e,yJ I,ax]
 ·rw[ct e,ct e];have:=yJ (M:=M) I M.cell 2 (Am.cy C s a) o v (s.mem a==o);rw[show fZ M 2 (Am.cy C s a) o v (s.mem a==o)=_ from this,ax]
theorem abi(h:AR C s M sz n)(hn:n<=2000000000){k:Nat}(hk:1<=k)(hf:M.cell.length+k<=sz):fL M (k:Int)=some (s.size,0,{nt M (M.cell++List.replicate k 0) 4 s.size k 0 true with fe:=s.size+k}):=by
 have lg:=h.lg;have s1:=h.s1;have hl:=h.cl.len;unfold fL mh pq;rw[je,ez,h.mark,h.size,eI (x:=(sz:Int)-(M.cell.length:Int)) I,ez,ax,aP rfl,fc,aP ⟨I,by show(M.cell.length+(k:Int).toNat)*8<=_;omega⟩,cO];have:=yJ (M:={M with fe:=wi (((M.cell.length:Nat):Int)+k)}) (by show M.log.length<=_;omega) (M.cell++List.replicate k 0) 4 (M.cell.length:Int) k 0 true;have e:fZ ({({M with fe:=wi (((M.cell.length:Nat):Int)+k)}:ae)with cell:=M.cell++List.replicate k 0}) 4 ((M.cell.length:Nat):Int) (k:Int) 0 true=_:=this;obtain⟨z1,z2,z3,z4,z5,z6⟩:=M;simp only at e h hf hl lg s1⊢;have hs:=h.size;have hm:=h.mark;simp only at hs hm;subst hs;subst hm;rw[e,ax,eI I,hl];rfl
theorem AR.same{s':Am.St}(h:AR C s M sz n)(h1:s'.mem=s.mem)(h2:s'.size=s.size)(h3:s'.base=s.base)(h4:Am.gen s'=Am.gen s)(k a x y:Int)(ok:Bool):AR C s' (nt M M.cell k a x y ok) sz (n+1):=
 ⟨h.size,h.s1,by rw[h2];exact h.fit,h.mark,h.cl.of h1 h2 h3 h4,by
  have:=h.lg;show(if M.watched=true then M.log++[_]else M.log).length<=_;split
  ·rw[jM];simp;omega
  ·omega⟩
theorem AR.keep{s':Am.St}(h:AR C s M sz n)(h1:s'.mem=s.mem)(h2:s'.size=s.size)(h3:s'.base=s.base)(h4:Am.gen s'=Am.gen s):AR C s' M sz (n+1):=
 ⟨h.size,h.s1,by rw[h2];exact h.fit,h.mark,h.cl.of h1 h2 h3 h4,Kq h.lg⟩
theorem AR.set{s':Am.St}{b:Am.uv}{v:Int}(h:AR C s M sz n)(hz:Am.SZ C s)(hb:Am.Em C s b)(h1:s'.mem=Am.cY s.mem b v)(h2:s'.size=s.size)(h3:s'.base=s.base)(h4:Am.gen s'=Am.gen s)(k a x y:Int)(ok:Bool) :
 AR C s' (nt M (M.cell.set (Am.cy C s b).toNat v) k a x y ok) sz (n+1):=
 ⟨h.size,h.s1,by rw[h2];exact h.fit,by show M.fe=((M.cell.set _ _).length:Nat);rw[gY];exact h.mark,h.cl.set hz hb h1 h2 h3 h4,by
  have:=h.lg;show(if M.watched=true then M.log++[_]else M.log).length<=_;split
  ·rw[jM];simp;omega
  ·omega⟩
end
def DO(C:Am.kH)(v:Nat)(k st:Int)(o:bM):Prop:=o.kind=k/\o.J=st/\o.nB=Am.vD C v/\o.nP=C.most
def TO(C:Am.kH)(k st:Int)(f:Nat)(o:cg):Prop:=o.eu=1/\o.dV=C.F/\o.gl=f/\o.az=st/\o.kind=k
def LO(C:Am.kH)(i:Nat)(k st kk:Int)(o:bR):Prop:=o.bJ=2+10*(C.F:Int)/\o.bT=C.N/\o.gp=i/\o.dk=k/\o.ay=st/\o.dh=kk
def L1(C:Am.kH)(v:Nat):ck:=⟨Am.vD C v,C.most⟩
def RO(C:Am.kH)(i:Nat)(st kk:Int)(a:bz):Prop:=a.aD=12/\LO C i 1 st kk a.cG/\∀v,v<C.N->J a.cG.dz v=L1 C v
def ring(C:Am.kH)(i j:Nat)(k:Nat):Prop:=1<=k/\k<C.N/\(i+k)%C.N=j
def ph(C:Am.kH)(i:Nat)(p:Am.Pc)(tr:Nat)(cj:Nat)(bs:Nat->Nat->Int)(a:bz):Prop:=
 match p with
 | .halted=>a.aD=13
 | .full=>a.aD=14
 | .start x=>a.aD=0/\a.from_=x
 | .run=>a.aD=1
 | .fork c=>a.aD=2/\a.bU=c
 | .rR=>a.aD=5/\TO C 3 2 a.au.toNat a.dK
 | .out p c=>a.aD=6/\a.done=c/\TO C 2 2 p a.dK
 | .take p c=>a.aD=6/\a.done=c/\TO C 2 3 p a.dK
 | .done=>a.aD=7/\LO C i 4 10 1 a.cG
 | .tell j=>a.aD=7/\∃k:Nat,LO C i 4 9 k a.cG/\ring C i j k
 | .xz j=>a.aD=7/\∃k:Nat,LO C i 4 7 k a.cG/\ring C i j k
 | .Cd c=>a.aD=3/\a.bU=c/\DO C i 1 1 a.bf/\a.bf.v=c
 | .zR c b=>a.aD=3/\a.bU=c/\DO C i 1 2 a.bf/\a.bf.v=c/\a.bf.b=b
 | .tg c b t=>a.aD=3/\a.bU=c/\DO C i 1 3 a.bf/\a.bf.v=c/\a.bf.b=b/\a.bf.t=t
 | .th c b t=>a.aD=3/\a.bU=c/\DO C i 1 4 a.bf/\a.bf.v=c/\a.bf.b=b/\a.bf.t=t/\a.bf.a=bs i cj
 | .grow c b t cc=>a.aD=3/\a.bU=c/\DO C i 1 5 a.bf/\a.bf.v=c/\a.bf.b=b/\a.bf.t=t/\a.bf.a=bs i cj/\a.bf.c=cc/\a.bf.c2=Am.jh C cc
 | .pF c b t cc=>a.aD=3/\a.bU=c/\DO C i 1 6 a.bf/\a.bf.v=c/\a.bf.b=b/\a.bf.t=t/\a.bf.a=bs i cj/\a.bf.c=cc/\a.bf.c2=Am.jh C cc/\a.bf.a2=bs i (cj+1)
 | .mD c b t cc n=>a.aD=3/\a.bU=c/\DO C i 1 7 a.bf/\a.bf.v=c/\a.bf.b=b/\a.bf.t=t/\a.bf.a=bs i cj/\a.bf.c=cc/\a.bf.c2=Am.jh C cc/\a.bf.a2=bs i (cj+1)/\a.bf.i=n
 | .mK c b t cc n x=>a.aD=3/\a.bU=c/\DO C i 1 8 a.bf/\a.bf.v=c/\a.bf.b=b/\a.bf.t=t/\a.bf.a=bs i cj/\a.bf.c=cc/\a.bf.c2=Am.jh C cc/\a.bf.a2=bs i (cj+1)/\a.bf.i=n/\a.bf.x=x
 | .pG c b t cc=>a.aD=3/\a.bU=c/\DO C i 1 9 a.bf/\a.bf.v=c/\a.bf.b=b/\a.bf.c2=Am.jh C cc/\a.bf.a2=bs i (cj+1)
 | .mE c b cc=>a.aD=3/\a.bU=c/\DO C i 1 10 a.bf/\a.bf.v=c/\a.bf.b=b/\a.bf.a=bs i cj/\a.bf.c=cc
 | .rh c b=>a.aD=3/\a.bU=c/\DO C i 1 11 a.bf/\a.bf.b=b
 | .HU=>a.aD=4/\LO C i 2 8 1 a.cG
 | .ug j=>a.aD=4/\∃k:Nat,LO C i 2 9 k a.cG/\ring C i j k
 | .vW j=>a.aD=4/\∃k:Nat,LO C i 2 7 k a.cG/\ring C i j k
 | .Fg=>a.aD=8/\DO C i 2 1 a.bf/\a.bf.i=0/\a.bf.Ae=false
 | .wO b=>a.aD=8/\DO C i 2 3 a.bf/\a.bf.i=0/\a.bf.Ae=false/\a.bf.b=b
 | .rD b=>a.aD=8/\DO C i 2 11 a.bf/\a.bf.i=0/\a.bf.Ae=false/\a.bf.b=b/\a.bf.a=bs i cj
 | .Dg b=>a.aD=8/\DO C i 2 2 a.bf/\a.bf.b=b/\a.bf.a=bs i cj/\a.bf.Ae=false
 | .qt t=>a.aD=8/\DO C i 2 11 a.bf/\a.bf.i=1/\a.bf.t=t/\a.bf.b<t/\a.bf.Ae=false
 | .vA b t=>a.aD=8/\DO C i 2 4 a.bf/\a.bf.i=1/\a.bf.b=b/\a.bf.t=t/\a.bf.a=bs i cj
 | .rS b t cc=>a.aD=8/\DO C i 2 12 a.bf/\a.bf.i=1/\a.bf.b=b/\a.bf.t=t/\a.bf.a=bs i cj/\a.bf.c=cc
 | .uh b t x=>a.aD=8/\DO C i 2 13 a.bf/\a.bf.i=1/\a.bf.b=b/\a.bf.t=t/\a.bf.x=x
 | .sL t x Ae=>a.aD=8/\DO C i 2 11 a.bf/\a.bf.i=1/\a.bf.t=t/\t<=a.bf.b/\a.bf.x=x/\a.bf.Ae=Ae
 | .oC=>a.aD=9/\a.fX=tr/\tr<3
 | .vC v t=>a.aD=10/\(a.fX=tr/\tr<3)/\a.fB=v/\DO C v 3 1 a.bf/\a.bf.t=t
 | .rE v t=>a.aD=10/\(a.fX=tr/\tr<3)/\a.fB=v/\DO C v 3 3 a.bf/\a.bf.t=t
 | .qu v t g=>a.aD=10/\(a.fX=tr/\tr<3)/\a.fB=v/\DO C v 3 4 a.bf/\a.bf.t=t/\a.bf.a=bs v g
 | .oa v t g cc=>a.aD=10/\(a.fX=tr/\tr<3)/\a.fB=v/\DO C v 3 12 a.bf/\a.bf.t=t/\a.bf.a=bs v g/\a.bf.c=cc
 | .oD v t x=>a.aD=10/\(a.fX=tr/\tr<3)/\a.fB=v/\DO C v 3 13 a.bf/\a.bf.t=t/\a.bf.x=x
 | .Eh=>a.aD=11/\a.fX=tr/\a.cG.dk=3/\a.cG.ay=3/\a.cG.bJ=2+10*(C.F:Int)/\a.cG.bT=C.N
 | .flag=>(a.aD=9/\C.N=1)∨(RO C i 1 0 a/\a.parked=false)
 | .sleep=>RO C i 2 0 a/\a.parked=false
 | .vp=>RO C i 3 0 a/\a.parked=false
 | .EG j=>a.parked=false/\∃k:Nat,RO C i 4 k a/\ring C i j k/\DO C j 4 2 a.cG.look
 | .Dh j t=>a.parked=false/\∃k:Nat,RO C i 4 k a/\ring C i j k/\DO C j 4 1 a.cG.look/\a.cG.look.t=t
 | .parked=>a.parked=true/\∃k:Int,RO C i 5 k a
 | .back h=>a.parked=false/\∃k:Int,RO C i 6 k a/\a.cG.jy=if h then 17 else 16
 | .vX h=>a.parked=false/\∃k:Int,RO C i 7 k a/\a.cG.jy=if h then 17 else 16
def fi(h:Option Nat):Int:=match h with
 | some f=>(f:Int)
 | none=>-1
structure aOK(C:Am.kH)(s:Am.St)(i:Nat)(a:bz):Prop where
 self:a.bg=i
 au:a.au=fi (s.hold i)
 ph:ph C i (s.pc i) (s.fX i) (s.cur i) s.base a
structure Qs(x:Am.Fr)(f:Nat)(t:aR):Prop where
 fn:t.fn=x.fn
 J:t.J=x.J
 par:t.parent=if f=0 then -1 else(x.par:Int)
 slot:t.slot=x.slot
 bt:t.bt=x.bt
 nA:t.nA=x.nA
 cU:∀r,r<16->GX.J t.cU r=x.cU r
structure Ta(C:Am.kH)(p:aJ)(s:Am.St)(S:ag):Prop where
 code:S.code=p.ah
 res:S.result=0
 tb:S.dA=1
 tf:S.cJ=C.F
 lb:S.fl=2+10*(C.F:Int)
 lw:S.cH=C.N
 dl:S.dz.length=C.N
 dq:∀v,v<C.N->GX.J S.dz v=L1 C v
 tl:S.aG.length=C.F
 tk:∀f,f<s.nf->Qs (s.fr f) f (GX.J S.aG f)
 wl:S.ai.length=C.N
 wk:∀i,i<C.N->aOK C s i (GX.J S.ai i)
 left:S.left=s.val.isSome
 val:S.value=s.val.getD 0
section
variable {C:Am.kH}{s:Am.St}{p:aJ}{S:ag}{i:Nat}
theorem ph.keep{j:Nat}{bs bs':Nat->Nat->Int}{pc:Am.Pc}{tr cj:Nat}{a:bz}(h:ph C j pc tr cj bs a)(h1:∀g,g<=cj+1->bs' j g=bs j g)(h2:∀v t g,pc= .qu v t g->bs' v g=bs v g)(h3:∀v t g cc,pc= .oa v t g cc->bs' v g=bs v g):ph C j pc tr cj bs' a:=by
 unfold ph at h⊢;have e0:=h1 cj I;have e1:=h1 (cj+1) I;cases pc<;>first
  | exact h
  | (simp only[e0,e1]at h⊢;exact h)
  | (simp only[h2 _ _ _ rfl]at h⊢;exact h)
  | (simp only[h3 _ _ _ _ rfl]at h⊢;exact h)
end
section
variable {K:Nat}{M M':ae}{o:bM}{v x:Int}
theorem dnz(h:o.kind≠0):¬o=(⟨0,0,0,0,0,0,0,0,0,0,0,0,0,false,0,0⟩:bM):=λe=>h (by rw[e])
theorem pH{k a:Int}(hk:o.kind=k)(ha:o.J=a)(XX:k≠0)(ha0:a≠0)(hx:bq o M=some (v,0,M')){o':bM}
 (hn:(if k=1 then eW o v else if k=2 then eX o v else if k=3 then fN o v else lH o v)=some o'):fo M o=some (o',M'):=by
 unfold fo bB;rw[ct (dnz (by rw[hk];exact XX)),ct (by rw[ha];exact ha0),eJ,hx,dw,aP rfl,hk];split at hn
 ·rename_i h;rw[aP h,hn,ax]
 ·rename_i h;rw[ct h];split at hn
  ·rename_i h;rw[aP h,hn,ax]
  ·rename_i h;rw[ct h];split at hn
   ·rename_i h;rw[aP h,hn,ax]
   ·rename_i h;rw[ct h,hn,ax]
theorem L2(hk:o.kind≠0)(ha:o.J≠0):nV o=some (0,0):=by
 unfold nV bB;rw[ct (dnz hk),ct ha]
theorem Ny(hk:o.kind≠0)(ha:o.J=0):nV o=some (o.code,o.value):=by
 unfold nV bB;rw[ct (dnz hk),aP ha]
theorem Tb{a c n:Int}(ha0:0<=a)(ha:a<=1048576)(hc:1<=c)(Kz:c<=4096)(hn:-1000000000000<=n/\n<=1000000000000):pB a c n=some (a+1+(Am.ix n c:Int)):=by
 have e1:=EA n (b:=c) I;have e2:=EB n (show 0<c by omega);have e3:(Am.ix n c:Int)=n%c:=by unfold Am.ix;omega
 have e4:n.tmod c=if 0<=n∨c∣n then n%c else n%c-c:=by
  rw[Int.tmod_eq_emod];split
  ·omega
  ·rw[show((c.natAbs:Nat):Int)=c by omega]
 unfold pB;rw[pR,e3];by_cases h:0<=n∨c∣n
 ·rw[e4,aP h,ez,eI (x:=a+1) I,eI I]
 ·rw[e4,ct h,pR,eI (x:=a+1) I,eI (x:=n%c-c+c) I,eI I];congr 1;omega
end
section
variable {C:Am.kH}{s:Am.St}{M:ae}{sz n:Nat}{o:bM}{i:Nat}
theorem AR.cast(h:AR C s M sz n)(hz:Am.SZ C s){a:Am.uv}(ha:Am.Em C s a){x:Int}(hx:x=Am.cy C s a):wi x=Am.cy C s a:=by
 have p:=Am.Dj hz ha;have f:=h.fit;have s1:=h.s1;rw[hx,eI I]
theorem Ba(s:Am.St)(i:Nat):s.cur i<=Am.gen s i:=by unfold Am.gen;omega
theorem FA(h:AR C s M sz n)(hz:Am.SZ C s)(hn:n<=2000000000)(hi:i<C.N)(ha:o.J=1)(hb:o.nB=Am.vD C i):bq o M=some (s.mem (.bot i),0,nt M M.cell 0 (Am.cy C s (.bot i)) (s.mem (.bot i)) 0 true):=by
 unfold bq;rw[aP ha,h.cast hz (a:=.bot i) hi (by rw[hb];rfl),xY h hz hn (a:=.bot i) hi,dw]
theorem FB(h:AR C s M sz n)(hz:Am.SZ C s)(hn:n<=2000000000)(hi:i<C.N)(ha:o.J=2)(hb:o.nB=Am.vD C i):bq o M=some (s.mem (.top i),0,nt M M.cell 0 (Am.cy C s (.top i)) (s.mem (.top i)) 0 true):=by
 unfold bq;rw[dJ ha,aP ha,h.cast hz (a:=.top i) hi (by rw[hb,Int.add_zero];rfl),xY h hz hn (a:=.top i) hi,dw]
theorem J2(h:AR C s M sz n)(hz:Am.SZ C s)(hn:n<=2000000000)(hi:i<C.N)(ha:o.J=3)(hb:o.nB=Am.vD C i):bq o M=some (s.mem (.buf i),0,nt M M.cell 0 (Am.cy C s (.buf i)) (s.mem (.buf i)) 0 true):=by
 unfold bq;rw[dJ ha,dJ ha,aP ha,h.cast hz (a:=.buf i) hi (by rw[hb];rfl),xY h hz hn (a:=.buf i) hi,dw]
theorem J3{g:Nat}(h:AR C s M sz n)(hz:Am.SZ C s)(hn:n<=2000000000)(hi:i<C.N)(hg:g<=Am.gen s i)(ha:o.J=4)(hb:o.a=s.base i g):bq o M=some (s.mem (.cap i g),0,nt M M.cell 0 (Am.cy C s (.cap i g)) (s.mem (.cap i g)) 0 true):=by
 unfold bq;rw[dJ ha,dJ ha,dJ ha,aP ha,hb,show s.base i g=Am.cy C s (.cap i g)from rfl,xY h hz hn (a:=.cap i g) ⟨hi,hg⟩,dw]
theorem Vi{k:Nat}(h:AR C s M sz n)(hn:n<=2000000000)(ha:o.J=5)(hk:o.c2=k)(hf:M.cell.length+(1+k)<=sz):bq o M=some (s.size,0,{nt M (M.cell++List.replicate (1+k) 0) 4 s.size ((1+k:Nat):Int) 0 true with fe:=s.size+((1+k:Nat):Int)}):=by
 have s1:=h.s1;unfold bq;rw[dJ ha,dJ ha,dJ ha,dJ ha,aP ha,hk,show wi (1+(k:Int))=((1+k:Nat):Int) by rw[eI I];omega,abi h hn I hf,dw]
theorem Nz{g:Nat}(h:AR C s M sz n)(hz:Am.SZ C s)(hn:n<=2000000000)(hi:i<C.N)(hg:g<=Am.gen s i)(ha:o.J=6)(hb:o.a2=s.base i g):bq o M=some (0,0,nt M (M.cell.set (Am.cy C s (.cap i g)).toNat o.c2) 1 (Am.cy C s (.cap i g)) o.c2 0 true):=by
 unfold bq;rw[dJ ha,dJ ha,dJ ha,dJ ha,dJ ha,aP ha,hb,show s.base i g=Am.cy C s (.cap i g)from rfl,uY h hz hn (a:=.cap i g) ⟨hi,hg⟩,fc]
theorem Bq(h:AR C s M sz n)(hz:Am.SZ C s)(hC:C.OK)(hi:i<C.N){g:Nat}(hg:g<=Am.gen s i){c x:Int}(hc:c=Am.uA C g)(hx:-1000000000000<=x/\x<=1000000000000):pB (s.base i g) c x=some (Am.cy C s (.el i g (Am.ix x c)))/\Am.Em C s (.el i g (Am.ix x c)):=by
 have b1:=h.Vh hz (a:=.cap i g) ⟨hi,hg⟩;have p:=Am.Dj hz (a:=.cap i g) ⟨hi,hg⟩;have c1:=Am.Fz hC g;have c2:=Am.Nv hC g;have m4:=hC.m4;have e2:=EB x (show 0<c by omega);have e1:=EA x (b:=c) I;refine⟨Tb p.1 (by have:=b1.2.1;show Am.cy C s (.cap i g)<=_;omega) I I hx,hi,hg,?_⟩;unfold Am.ix;omega
theorem Vj{g:Nat}(h:AR C s M sz n)(hz:Am.SZ C s)(hC:C.OK)(hn:n<=2000000000)(hi:i<C.N)(hg:g<=Am.gen s i)(ha:o.J=7)(hb:o.a=s.base i g)(hc:o.c=Am.uA C g)(hx:-1000000000000<=o.i/\o.i<=1000000000000) :
 bq o M=some (s.mem (.el i g (Am.ix o.i o.c)),0,nt M M.cell 0 (Am.cy C s (.el i g (Am.ix o.i o.c))) (s.mem (.el i g (Am.ix o.i o.c))) 0 true):=by
 obtain⟨e1,e2⟩:=Bq h hz hC hi hg hc hx;unfold bq;rw[dJ ha,dJ ha,dJ ha,dJ ha,dJ ha,dJ ha,aP ha,hb,e1,ax,xY h hz hn e2,dw]
theorem Vk{g:Nat}(h:AR C s M sz n)(hz:Am.SZ C s)(hC:C.OK)(hn:n<=2000000000)(hi:i<C.N)(hg:g<=Am.gen s i)(ha:o.J=8)(hb:o.a2=s.base i g)(hc:o.c2=Am.uA C g)(hx:-1000000000000<=o.i/\o.i<=1000000000000) :
 bq o M=some (0,0,nt M (M.cell.set (Am.cy C s (.el i g (Am.ix o.i o.c2))).toNat o.x) 1 (Am.cy C s (.el i g (Am.ix o.i o.c2))) o.x 0 true):=by
 obtain⟨e1,e2⟩:=Bq h hz hC hi hg hc hx;unfold bq;rw[dJ ha,dJ ha,dJ ha,dJ ha,dJ ha,dJ ha,dJ ha,aP ha,hb,e1,ax,uY h hz hn e2,fc]
theorem NA(h:AR C s M sz n)(hz:Am.SZ C s)(hn:n<=2000000000)(hi:i<C.N)(ha:o.J=9)(hb:o.nB=Am.vD C i):bq o M=some (0,0,nt M (M.cell.set (Am.cy C s (.buf i)).toNat o.a2) 1 (Am.cy C s (.buf i)) o.a2 0 true):=by
 unfold bq;rw[dJ ha,dJ ha,dJ ha,dJ ha,dJ ha,dJ ha,dJ ha,dJ ha,aP ha,h.cast hz (a:=.buf i) hi (by rw[hb];rfl),uY h hz hn (a:=.buf i) hi,fc]
theorem Vl{g:Nat}(h:AR C s M sz n)(hz:Am.SZ C s)(hC:C.OK)(hn:n<=2000000000)(hi:i<C.N)(hg:g<=Am.gen s i)(ha:o.J=10)(hb:o.a=s.base i g)(hc:o.c=Am.uA C g)(hx:-1000000000000<=o.b/\o.b<=1000000000000) :
 bq o M=some (0,0,nt M (M.cell.set (Am.cy C s (.el i g (Am.ix o.b o.c))).toNat o.v) 1 (Am.cy C s (.el i g (Am.ix o.b o.c))) o.v 0 true):=by
 obtain⟨e1,e2⟩:=Bq h hz hC hi hg hc hx;unfold bq;rw[dJ ha,dJ ha,dJ ha,dJ ha,dJ ha,dJ ha,dJ ha,dJ ha,dJ ha,aP ha,hb,e1,ax,uY h hz hn e2,fc]
theorem zA(h:AR C s M sz n)(hz:Am.SZ C s)(hn:n<=2000000000)(hi:i<C.N)(ha:o.J=11)(hb:o.nB=Am.vD C i){v:Int}(hv:jf o=some v):bq o M=some (0,0,nt M (M.cell.set (Am.cy C s (.bot i)).toNat v) 1 (Am.cy C s (.bot i)) v 0 true):=by
 unfold bq;rw[dJ ha,dJ ha,dJ ha,dJ ha,dJ ha,dJ ha,dJ ha,dJ ha,dJ ha,dJ ha,aP ha,hv,ax,h.cast hz (a:=.bot i) hi (by rw[hb];rfl),uY h hz hn (a:=.bot i) hi,fc]
theorem L4{g:Nat}{x:Int}(h:AR C s M sz n)(hz:Am.SZ C s)(hC:C.OK)(hn:n<=2000000000)(hi:i<C.N)(hg:g<=Am.gen s i)(ha:o.J=12)(hb:o.a=s.base i g)(hc:o.c=Am.uA C g)(hk:x=if o.kind=2 then o.b else o.t)(hx:-1000000000000<=x/\x<=1000000000000) :
 bq o M=some (s.mem (.el i g (Am.ix x o.c)),0,nt M M.cell 0 (Am.cy C s (.el i g (Am.ix x o.c))) (s.mem (.el i g (Am.ix x o.c))) 0 true):=by
 obtain⟨e1,e2⟩:=Bq h hz hC hi hg hc hx;have e3:(if o.kind=2 then some o.b else some o.t)=some x:=by rw[hk];split<;>rfl
 unfold bq;rw[dJ ha,dJ ha,dJ ha,dJ ha,dJ ha,dJ ha,dJ ha,dJ ha,dJ ha,dJ ha,dJ ha,aP ha,e3,ax,hb,e1,ax,xY h hz hn e2,dw]
theorem Pb(h:AR C s M sz n)(hz:Am.SZ C s)(hn:n<=2000000000)(hi:i<C.N)(ha:o.J=13)(hb:o.nB=Am.vD C i)(ht:-1000000000000<=o.t/\o.t<=1000000000000):bq o M=some (if s.mem (.top i)=o.t then 1 else 0,0,nt M (if s.mem (.top i)=o.t then M.cell.set (Am.cy C s (.top i)).toNat (o.t+1)else M.cell) 2 (Am.cy C s (.top i)) o.t (o.t+1) (s.mem (.top i)==o.t)):=by
 unfold bq;rw[dJ ha,dJ ha,dJ ha,dJ ha,dJ ha,dJ ha,dJ ha,dJ ha,dJ ha,dJ ha,dJ ha,dJ ha,eI (x:=o.t+1) I,h.cast hz (a:=.top i) hi (by rw[hb,Int.add_zero];rfl),S5 h hz hn (a:=.top i) hi,dw];by_cases e:s.mem (.top i)=o.t
 ·rw[aP (by rw[e];simp),aP e,aP e]
 ·rw[ct (by simpa using e),ct e,ct e]
end
def BP:Option Am.Ev->aj
 | none=>⟨0,0,0,0,0,0⟩
 | some e=>⟨0,0,e.kind,e.au,e.x,e.v⟩
def Tc(i:Nat):Option Am.Ev->aj
 | none=>⟨0,0,0,0,0,0⟩
 | some e=>⟨0,i,e.kind,e.au,e.x,e.v⟩
def Td(e:Option Am.Ev):Prop:=match e with
 | none=>True
 | some e=>e.kind≠0
def WW(C:Am.kH)(s:Am.St)(w:Int)(a:Am.Acc):aN:=⟨w,a.kind,Am.cy C s a.a,a.x,a.y,a.ok⟩
def Lg(C:Am.kH)(s:Am.St)(M M':ae)(acc:Option Am.Acc):Prop:=
 M'.sG=M.sG/\M'.watched=M.watched/\M'.log=if M.watched=true then M.log++(acc.toList.map (WW C s M.sG))else M.log
def js(C:Am.kH)(p:aJ)(sz n:Nat)(M:ae)(o:Am.Out)(r:Option (aj×ag×ae)):Prop:=
 ∃S' M',r=some (BP o.ev,S',M')/\Ta C p o.s S'/\AR C o.s M' sz (n+1)/\Lg C o.s M M' o.acc/\Td o.ev
structure vF(C:Am.kH)(p:aJ)(s:Am.St)(S:ag)(M:ae)(sz n:Nat):Prop where
 ok:C.OK
 jN:Ta C p s S
 ar:AR C s M sz n
 z:Am.SZ C s
 bd:Am.BD s n
 dt:Am.DT C s
 fi:(Am.view s).FI C.N C.F
 fr:Am.FR C s
 n:n<=1000000000
 vd:Valid p
 cf:C=cfg p C.N C.F C.first C.most
 room :∃afu,(sz:Int)=Am.S0 C+C.N*Am.tot C afu/\Am.uA C afu=C.most
section
variable {K:Nat}{C:Am.kH}{p:aJ}{s:Am.St}{S:ag}{M:ae}{sz n i:Nat}{D:aM}
theorem Lg.nt{s':Am.St}{c:List Int}{k:Nat}{a:Am.uv}{x y pl:Int}{ok:Bool}(h:Am.cy C s' a=pl):Lg C s' M (nt M c k pl x y ok) (some ⟨k,a,x,y,ok⟩):=by
 refine⟨rfl,rfl,?_⟩;show(if M.watched=true then M.log++[_]else M.log)=_;simp only[Option.toList_some,zF,Ai,WW,h]
theorem Lg.none_{s':Am.St}:Lg C s' M M none:=by
 refine⟨rfl,rfl,?_⟩;simp
def gA(S:ag)(i:Nat)(a:bz):ag:={S with ai:=S.ai.set i a}
abbrev act(S:ag)(i:Nat):bz:=J S.ai i
theorem jI(i:Nat)(a:bz):(gA S i a).ai.length=S.ai.length:=gY
theorem nr{a:bz}(h:i<S.ai.length):act (gA S i a) i=a:=by
 show J (S.ai.set i a) i=a;rw[pV h,aP rfl]
theorem L5{a b:bz}:gA (gA S i a) i b=gA S i b:=by
 show {S with ai:=(S.ai.set i a).set i b}=_;rw[iB];rfl
theorem Ta.act{s':Am.St}{a:bz}{q:Am.Pc}(h:Ta C p s S)(ht:Am.DT C s)(hi:i<C.N)(ha:aOK C s' i a)(hpc:s'.pc=Am.cY s.pc i q)(hh:∀j,j≠i->s'.hold j=s.hold j)(Qt:∀j,j≠i->s'.fX j=s.fX j)
 (hc:∀j,j≠i->s'.cur j=s.cur j) (hb:∀j g,(j≠i∨g<=s.cur i)->s'.base j g=s.base j g) (hf:s'.fr=s.fr) (hn:s'.nf=s.nf) (hv:s'.val=s.val):Ta C p s' (gA S i a):=by
 have hl:=h.wl;refine⟨h.code,h.res,h.tb,h.tf,h.lb,h.lw,h.dl,h.dq,h.tl,λf hf'=>by rw[hf];exact h.tk f (hn▸ hf'),by rw[jI];exact h.wl,λj hj => ?_,by rw[hv];exact h.left,by rw[hv];exact h.val⟩;show aOK C s' j (GX.J (S.ai.set i a) j);by_cases e:j=i
 ·subst e;rw[pV I,aP rfl];exact ha
 ·rw[pV I,ct e];obtain⟨w1,w2,w3⟩:=h.wk j hj;have ep:s'.pc j=s.pc j:=by rw[hpc];exact Am.be e
  refine⟨w1,by rw[hh j e];exact w2,?_⟩;rw[ep,Qt j e,hc j e];have T:=ht.2 j hj;refine w3.keep (λg _=>hb j g (.inl e)) (λv t g hq => ?_) (λv t g cc hq => ?_)
  ·unfold Am.Th at T;rw[hq]at T;simp only at T;by_cases ev:v=i
   ·subst ev;exact hb v g (.inr T.2.2.2.1)
   ·exact hb v g (.inl ev)
  ·unfold Am.Th at T;rw[hq]at T;simp only at T;by_cases ev:v=i
   ·subst ev;exact hb v g (.inr T.2.2.2.1)
   ·exact hb v g (.inl ev)
theorem uZ{o':bM}{M':ae}{c v:Int}(h1:fo M (act S i).bf=some (o',M'))(h2:nV o'=some (c,v)) :
 lA S M (i:Int)=some (c,v,gA S i {act S i with bf:=o' },M'):=by
 unfold lA jH an;rw[cO,h1,fc];simp only;rw[h2,fc];rfl
theorem J4{o':cg}{M':ae}{c v:Int}(h1:da M (act S i).dK=some (o',M'))(h2:iQ o'=some (c,v)) :
 eR S M (i:Int)=some (c,v,gA S i {act S i with dK:=o' },M'):=by
 unfold eR jH an;rw[cO,h1,fc];simp only;rw[h2,fc];rfl
theorem xA{o':bR}{M':ae}{c v:Int}(h1:eD M (act S i).cG=some (o',M'))(h2:pC o'=some (c,v)) :
 jr S M (i:Int)=some (c,v,gA S i {act S i with cG:=o' },M'):=by
 unfold jr jH an;rw[cO,h1,fc];simp only;rw[h2,fc];rfl
theorem vF.Af(b:vF C p s S M sz n)(hi:i<C.N):bG (i:Int) S.ai.length:=⟨I,by rw[b.jN.wl];omega⟩
theorem vF.wl(b:vF C p s S M sz n)(hi:i<C.N):i<S.ai.length:=by rw[b.jN.wl];exact hi
theorem vF.cN(b:vF C p s S M sz n):n<=2000000000:=by have:=b.n;omega
theorem vF.JY(b:vF C p s S M sz n){x:Int}(h:x∈Am.gL (s.pc i)):-1000000000000<=x/\x<=1000000000000:=by
 have:=b.bd.r i x h;have hn:=b.n;unfold Am.JZ at this;omega
theorem vF.LZ(b:vF C p s S M sz n){a:Am.uv}(h:a.LZ=true):-1000000000000<=s.mem a/\s.mem a<=1000000000000:=by
 have:=b.bd.m a h;have hn:=b.n;unfold Am.JZ at this;omega
theorem Te{s':Am.St}{q:Am.Pc}(h:s'.pc=Am.cY s.pc i q)(hc:s'.cur=s.cur)(hg:Am.lj q=Am.lj (s.pc i)):Am.gen s'=Am.gen s:=by
 funext j;unfold Am.gen;rw[h,hc,Am.cC];split
 ·next e=>rw[e,hg]
 ·rfl
theorem Tf(C:Am.kH){a b:Nat}(h:a<=b):Am.tot C a<=Am.tot C b:=by
 induction b with
 | zero=>rw[show a=0 by omega];exact j5 _
 | succ b ih =>
  by_cases e:a=b+1
  ·rw[e];exact j5 _
  ·have:=ih I;show _<=Am.tot C b+1+Am.uA C (b+1);omega
theorem L6{afu:Nat}(hz:Am.SZ C s)(h1:(sz:Int)=Am.S0 C+C.N*Am.tot C afu)(h2:Am.uA C afu=C.most):s.size<=sz:=by
 have key:∀j,j<C.N->Am.tot C (Am.gen s j)<=Am.tot C afu:=λj hj=>by
  rcases zG afu (Am.gen s j)with h | h
  ·have:=hz.gm j hj afu h;omega
  ·exact Tf C h
 have:=Am.O8 (f:=λj=>Am.tot C (Am.gen s j)) (k:=Am.tot C afu) (n:=C.N) key;rw[hz.size,h1];have e:((C.N*Am.tot C afu:Nat):Int)=(C.N:Int)*(Am.tot C afu:Int):=by simp
 omega
theorem js.mk{a:bz}{M':ae}{o:Am.Out}{q:Am.Pc}{r:Option (aj×ag×ae)}(b:vF C p s S M sz n)(hi:i<C.N)(hr:r=some (BP o.ev,gA S i a,M'))
 (FK:a.bg=i) (hfr:a.au=fi (o.s.hold i)) (hq:o.s.pc=Am.cY s.pc i q) (hph:ph C i q (o.s.fX i) (o.s.cur i) o.s.base a) (har:AR C o.s M' sz (n+1)) (NB:Lg C o.s M M' o.acc) (L7:Td o.ev)
 (hh:∀j,j≠i->o.s.hold j=s.hold j:=by intros;rfl) (Qt:∀j,j≠i->o.s.fX j=s.fX j:=by intros;rfl) (hc:∀j,j≠i->o.s.cur j=s.cur j:=by intros;rfl)
 (hb:∀j g,(j≠i∨g<=s.cur i)->o.s.base j g=s.base j g:=by intros;rfl) (hf:o.s.fr=s.fr:=by rfl) (hn:o.s.nf=s.nf:=by rfl) (hv:o.s.val=s.val:=by rfl):js C p sz n M o r:=
 ⟨_,_,hr,b.jN.act b.dt hi ⟨FK,hfr,by rw[hq,Am.bA];exact hph⟩ hq hh Qt hc hb hf hn hv,har,NB,L7⟩
theorem vF.yf(b:vF C p s S M sz n){s':Am.St}{q:Am.Pc}(hq:s'.pc=Am.cY s.pc i q)(hg:Am.lj q=Am.lj (s.pc i))(k a x y:Int)(ok:Bool)(h1:s'.mem=s.mem:=by rfl)(h2:s'.size=s.size:=by rfl)(h3:s'.base=s.base:=by rfl)(h4:s'.cur=s.cur:=by rfl) :
 AR C s' (nt M M.cell k a x y ok) sz (n+1):=b.ar.same h1 h2 h3 (Te hq h4 hg) k a x y ok
theorem vF.Ac(b:vF C p s S M sz n){s':Am.St}{q:Am.Pc}{c:Am.uv}{v:Int}(hq:s'.pc=Am.cY s.pc i q)(hg:Am.lj q=Am.lj (s.pc i))(hb:Am.Em C s c)(k a x y:Int)(ok:Bool)(h1:s'.mem=Am.cY s.mem c v:=by rfl)(h2:s'.size=s.size:=by rfl)(h3:s'.base=s.base:=by rfl)(h4:s'.cur=s.cur:=by rfl) :
 AR C s' (nt M (M.cell.set (Am.cy C s c).toNat v) k a x y ok) sz (n+1):=b.ar.set b.z hb h1 h2 h3 (Te hq h4 hg) k a x y ok
end
section
variable {K:Nat}{C:Am.kH}{p:aJ}{s:Am.St}{S:ag}{M:ae}{sz n i:Nat}{D:aM}{d:Int}
theorem GK(b:vF C p s S M sz n)(hi:i<C.N){c:Nat}(hg:(Am.view s).g i= .push c):c<s.nf:=by
 have z:=b.fi.ps i c hi hg;rcases zG c s.nf with h | h
 ·exact h
 ·have:=b.fi.free c h;rw[this]at z;exact absurd z.2.1 (by simp)
theorem vF.task(b:vF C p s S M sz n){f:Nat}(hf:f<s.nf):bG (f:Int) S.aG.length:=⟨I,by rw[b.jN.tl];have:s.nf<=C.F:=b.fi.wj;omega⟩
theorem rG(b:vF C p s S M sz n)(hi:i<C.N){c:Nat}(hc:(act S i).bU=c)(hg:(Am.view s).g i= .push c){o':bM}{M':ae}(h1:fo M (act S i).bf=some (o',M'))(h2:o'.kind=1)(h3:o'.J≠0) :
 cx S M (i:Int) D=some (BP none,gA S i {act S i with bf:=o' },M'):=by
 have hin:bG (act S i).bU S.aG.length:=by rw[hc];exact b.task (GK b hi hg)
 unfold cx dY jH an;rw[cO,aP hin,je,aP hin,uZ h1 (L2 (by rw[h2];decide) h3),gj,aP rfl];rfl
section
variable (b:vF C p s S M sz n)(hi:i<C.N)
include b hi
theorem Tg{c:Nat}(hp:s.pc i= .Cd c):js C p sz n M (Am.aH C s i d) (cx S M (i:Int) D):=by
 obtain⟨w1,w2,w3⟩:=b.jN.wk i hi;rw[hp]at w3;obtain⟨a1,a2,⟨o1,o2,o3,o4⟩,a3⟩:=w3;have hs:=pH o1 o2 eF eF (FA b.ar b.z b.cN hi o2 o3) (o':={(act S i).bf with J:=2,b:=s.mem (.bot i)}) (by
  rw[aP rfl];unfold eW;rw[aP o2])
 unfold Am.aH;rw[hp];simp only;exact .mk b hi (rG b hi a2 (by show Am.sig (s.pc i)=_;rw[hp];rfl) hs o1 (by show(2:Int)≠0;decide)) w1 w2 rfl ⟨a1,a2,⟨o1,rfl,o3,o4⟩,a3,rfl⟩ (b.yf rfl (by rw[hp];rfl) _ _ _ _ _) (Lg.nt rfl) trivial
theorem Ti{c:Nat}{bb:Int}(hp:s.pc i= .zR c bb):js C p sz n M (Am.aH C s i d) (cx S M (i:Int) D):=by
 obtain⟨w1,w2,w3⟩:=b.jN.wk i hi;rw[hp]at w3;obtain⟨a1,a2,⟨o1,o2,o3,o4⟩,a3,a4⟩:=w3;have hs:=pH o1 o2 eF eF (FB b.ar b.z b.cN hi o2 o3) (o':={(act S i).bf with J:=3,t:=s.mem (.top i)}) (by
  rw[aP rfl];unfold eW;rw[dJ o2,aP o2])
 unfold Am.aH;rw[hp];simp only;exact .mk b hi (rG b hi a2 (by show Am.sig (s.pc i)=_;rw[hp];rfl) hs o1 (by show(3:Int)≠0;decide)) w1 w2 rfl ⟨a1,a2,⟨o1,rfl,o3,o4⟩,a3,a4,rfl⟩ (b.yf rfl (by rw[hp];rfl) _ _ _ _ _) (Lg.nt rfl) trivial
theorem NC{c:Nat}{bb t:Int}(hp:s.pc i= .tg c bb t):js C p sz n M (Am.aH C s i d) (cx S M (i:Int) D):=by
 obtain⟨w1,w2,w3⟩:=b.jN.wk i hi;rw[hp]at w3;obtain⟨a1,a2,⟨o1,o2,o3,o4⟩,a3,a4,a5⟩:=w3;have hs:=pH o1 o2 eF eF (J2 b.ar b.z b.cN hi o2 o3) (o':={(act S i).bf with J:=4,a:=s.mem (.buf i)}) (by
  rw[aP rfl];unfold eW;rw[dJ o2,dJ o2,aP o2])
 unfold Am.aH;rw[hp];simp only;exact .mk b hi (rG b hi a2 (by show Am.sig (s.pc i)=_;rw[hp];rfl) hs o1 (by show(4:Int)≠0;decide)) w1 w2 rfl ⟨a1,a2,⟨o1,rfl,o3,o4⟩,a3,a4,a5,(b.dt.1 i hi).Ei⟩ (b.yf rfl (by rw[hp];rfl) _ _ _ _ _) (Lg.nt rfl) trivial
end
end
theorem Vm{o:bM}{v:Int}(ha:o.J=4)(h1:1<=v)(h2:v<=4096)(hb:-4000000000000<=o.b-o.t/\o.b-o.t<=4000000000000):eW o v=if o.b-o.t<v then some {o with J:=10,c:=v}else if o.nP<=v then some {o with J:=0,c:=v,code:=3,value:=0}
 else some {o with J:=5,c:=v,c2:=if o.nP<2*v then o.nP else 2*v}:=by
 unfold eW eC;rw[dJ ha,dJ ha,dJ ha,aP ha,ez,eI (x:=o.b-o.t) I,eI (x:=2*v) I];rfl
theorem Vn{o:bM}{v:Int}(ha:o.J=8)(hb:-4000000000000<=o.i/\o.i<=4000000000000):eW o v=if o.i+1=o.b then some {o with J:=9,i:=o.i+1}else some {o with J:=7,i:=o.i+1}:=by
 unfold eW;rw[dJ ha,dJ ha,dJ ha,dJ ha,dJ ha,dJ ha,dJ ha,aP ha,eI (x:=o.i+1) I]
section
variable {K:Nat}{C:Am.kH}{p:aJ}{s:Am.St}{S:ag}{M:ae}{sz n i:Nat}{D:aM}{d:Int}
variable (b:vF C p s S M sz n)(hi:i<C.N)
include b hi
theorem WX:s.mem (.cap i (s.cur i))=Am.uA C (s.cur i)/\(1:Int)<=s.mem (.cap i (s.cur i))/\s.mem (.cap i (s.cur i))<=C.most/\(C.most:Int)<=4096:=by
 have h:=Am.El b.z hi;have h1:=Am.Fz b.ok (s.cur i);have h2:=Am.Nv b.ok (s.cur i);have h3:=b.ok.m4;change s.mem (.cap i (s.cur i))=_ at h;omega
theorem Qu{c:Nat}(hc:(act S i).bU=c)(hg:(Am.view s).g i= .push c){o':bM}{M':ae}(h1:fo M (act S i).bf=some (o',M'))(h2:o'.kind=1)(h3:o'.J=0)(h4:o'.code=3) :
 cx S M (i:Int) D=some (BP (Am.ev 11 c 1 0),gA S i {{act S i with bf:=o' }with aD:=14},M'):=by
 have hin:bG (act S i).bU S.aG.length:=by rw[hc];exact b.task (GK b hi hg)
 have hw:=b.wl hi;unfold cx dY jH an;rw[cO,aP hin,je,aP hin,uZ h1 (Ny (by rw[h2];decide) h3),gj,h4,ct eF,aP rfl,aP (by rw[jI];exact b.Af hi)];rw[show J (gA S i {act S i with bf:=o' }).ai i={act S i with bf:=o' }from nr hw];show some (_,gA (gA S i _) i _,_)=_;rw[L5];show some ((⟨0,0,11,(act S i).bU,1,0⟩:aj),_,_)=_;rw[hc];rfl
theorem ND{c:Nat}{bb t:Int}(hp:s.pc i= .th c bb t):js C p sz n M (Am.aH C s i d) (cx S M (i:Int) D):=by
 obtain⟨w1,w2,w3⟩:=b.jN.wk i hi;rw[hp]at w3;obtain⟨a1,a2,⟨o1,o2,o3,o4⟩,a3,a4,a5,a6⟩:=w3;obtain⟨c0,c1,c2,c3⟩:=WX b hi;have r1:=b.JY (i:=i) (x:=bb) (by rw[hp];simp[Am.gL]);have r2:=b.JY (i:=i) (x:=t) (by rw[hp];simp[Am.gL]);have hg:(Am.view s).g i= .push c:=by show Am.sig (s.pc i)=_;rw[hp];rfl
 have hs:∀o',eW (act S i).bf (s.mem (.cap i (s.cur i)))=some o'->_:=λo' h=>pH o1 o2 eF eF (J3 b.ar b.z b.cN hi (Ba s i) o2 a6) (o':=o') (by rw[aP rfl];exact h);have e0:=Vm o2 (v:=s.mem (.cap i (s.cur i))) c1 I (by rw[a4,a5];omega);unfold Am.aH;rw[hp];simp only;by_cases h1:bb-t<s.mem (.cap i (s.cur i))
 ·rw[aP h1];rw[aP (by rw[a4,a5];exact h1)]at e0;exact .mk b hi (rG b hi a2 hg (hs _ e0) o1 (by show(10:Int)≠0;decide)) w1 w2 rfl ⟨a1,a2,⟨o1,rfl,o3,o4⟩,a3,a4,a6,rfl⟩ (b.yf rfl (by rw[hp];rfl) _ _ _ _ _) (Lg.nt rfl) trivial
 ·rw[ct h1];rw[ct (by rw[a4,a5];exact h1)]at e0;by_cases h2:(C.most:Int)<=s.mem (.cap i (s.cur i))
  ·rw[aP h2];rw[aP (by rw[o4];exact h2)]at e0;exact .mk b hi (Qu b hi a2 hg (hs _ e0) o1 rfl rfl) w1 w2 rfl rfl (b.yf rfl (by rw[hp];rfl) _ _ _ _ _) (Lg.nt rfl) (by show(11:Nat)≠0;decide)
  ·rw[ct h2];rw[ct (by rw[o4];exact h2)]at e0;refine .mk b hi (rG b hi a2 hg (hs _ e0) o1 (by show(5:Int)≠0;decide)) w1 w2 rfl ⟨a1,a2,⟨o1,rfl,o3,o4⟩,a3,a4,a5,a6,rfl,?_⟩ (b.yf rfl (by rw[hp];rfl) _ _ _ _ _) (Lg.nt rfl) trivial;show(if(act S i).bf.nP<_ then(act S i).bf.nP else _)=_;rw[o4];unfold Am.jh;split<;>split<;>omega
theorem J5{c:Nat}{bb t cc:Int}(h:Am.Di C s i bb t cc):cc=Am.uA C (s.cur i)/\Am.jh C cc=Am.uA C (s.cur i+1)/\(1:Int)<=Am.jh C cc/\Am.jh C cc<=4096:=by
 have e:=h.2.2.2.2.1;rw[Am.El b.z hi]at e;have h1:=Am.Fz b.ok (s.cur i+1);have h2:=Am.Nv b.ok (s.cur i+1);have h3:=b.ok.m4;refine⟨e,by rw[e];exact Am.zz C _,?_,?_⟩<;>rw[e,Am.zz C]<;>omega
theorem Vo{c:Nat}{bb t cc:Int}(hp:s.pc i= .grow c bb t cc):js C p sz n M (Am.aH C s i d) (cx S M (i:Int) D):=by
 obtain⟨w1,w2,w3⟩:=b.jN.wk i hi;rw[hp]at w3;obtain⟨a1,a2,⟨o1,o2,o3,o4⟩,a3,a4,a5,a6,a7,a8⟩:=w3;have P:=(b.dt.1 i hi).ph;unfold Am.qU at P;rw[hp]at P;simp only at P;obtain⟨g1,g2,g3,g4⟩:=J5 b hi (c:=c) P;have hg:(Am.view s).g i= .push c:=by show Am.sig (s.pc i)=_;rw[hp];rfl
 have NF:Am.gen s i=s.cur i:=by unfold Am.gen;rw[hp];rfl
 obtain⟨afu,q1,q2⟩:=b.room;have PO:=b.z.aH b.ok b.dt hi d;have hsz:=L6 PO q1 q2;have hlen:=b.ar.cl.len;have hss:(Am.aH C s i d).s.size=s.size+1+Am.uA C (s.cur i+1):=by unfold Am.aH;rw[hp];show s.size+1+Am.jh C cc=_;rw[g2]
 have hs:=pH o1 o2 eF eF (Vi (k:=Am.uA C (s.cur i+1)) b.ar b.cN o2 (by rw[a8];exact g2) I) (o':={(act S i).bf with J:=6,a2:=s.size}) (by
  rw[aP rfl];unfold eW;rw[dJ o2,dJ o2,dJ o2,dJ o2,aP o2])
 have hgs:Am.gen (Am.aH C s i d).s=Am.cY (Am.gen s) i (s.cur i+1):=by
  unfold Am.aH;rw[hp];simp only
  funext j;rw[Am.cC];unfold Am.gen;simp only[Am.St.to,Am.cC]
  split
  ·next e=>subst e;rfl
  ·rfl
 have Uk:=b.ar.cl.grow (s':=(Am.aH C s i d).s) b.z hi NF (λa=>by unfold Am.aH;rw[hp];cases a<;>rfl) hss (by unfold Am.aH;rw[hp];rfl) hgs;have hbs:(Am.aH C s i d).s.base=Am.cY s.base i (Am.cY (s.base i) (s.cur i+1) s.size):=by unfold Am.aH;rw[hp];rfl
 have har:AR C (Am.aH C s i d).s {nt M (M.cell++List.replicate (1+Am.uA C (s.cur i+1)) 0) 4 s.size ((1+Am.uA C (s.cur i+1):Nat):Int) 0 true with fe:=s.size+((1+Am.uA C (s.cur i+1):Nat):Int)} sz (n+1):=by
  refine⟨b.ar.size,b.ar.s1,hsz,?_,Uk,?_⟩
  ·show s.size+((1+Am.uA C (s.cur i+1):Nat):Int)=(((M.cell++List.replicate _ 0).length:Nat):Int);rw[jM,mo];omega
  ·have:=b.ar.lg;show(if M.watched=true then M.log++[_]else M.log).length<=_;split
   ·rw[jM];simp;omega
   ·omega
 have NB:Lg C (Am.aH C s i d).s M {nt M (M.cell++List.replicate (1+Am.uA C (s.cur i+1)) 0) 4 s.size ((1+Am.uA C (s.cur i+1):Nat):Int) 0 true with fe:=s.size+((1+Am.uA C (s.cur i+1):Nat):Int)} (Am.Yv (.cap i (s.cur i+1)) (1+Am.jh C cc)):=by
  have pl:Am.cy C (Am.aH C s i d).s (.cap i (s.cur i+1))=s.size:=by show(Am.aH C s i d).s.base i (s.cur i+1)=_;rw[hbs,Am.bA,Am.bA]
  have e:((1+Am.uA C (s.cur i+1):Nat):Int)=1+Am.jh C cc:=by rw[g2];omega
  rw[e];exact Lg.nt (M:=M) (c:=M.cell++List.replicate (1+Am.uA C (s.cur i+1)) 0) pl
 have hb:∀j g,(j≠i∨g<=s.cur i)->(Am.aH C s i d).s.base j g=s.base j g:=λj g h=>by
  rw[hbs,Am.cC];split
  ·next e=>subst e;rw[Am.be I]
  ·rfl
 have abj:(Am.aH C s i d).s.cur=s.cur:=by unfold Am.aH;rw[hp];rfl
 have hpc:(Am.aH C s i d).s.pc=Am.cY s.pc i (.pF c bb t cc):=by unfold Am.aH;rw[hp];rfl
 have L7:(Am.aH C s i d).ev=none:=by unfold Am.aH;rw[hp]
 have hac:(Am.aH C s i d).acc=Am.Yv (.cap i (s.cur i+1)) (1+Am.jh C cc):=by unfold Am.aH;rw[hp]
 refine js.mk (a:={act S i with bf:={(act S i).bf with J:=6,a2:=s.size}}) b hi (by rw[L7];exact rG b hi a2 hg hs o1 (by show(6:Int)≠0;decide)) w1 (by show(act S i).au=_;rw[w2];unfold Am.aH;rw[hp];rfl) hpc ?_ har (by rw[hac];exact NB) (by rw[L7];trivial)
  (by unfold Am.aH;rw[hp];intros;rfl) (by unfold Am.aH;rw[hp];intros;rfl) (λj _=>by rw[abj]) hb (by unfold Am.aH;rw[hp];rfl) (by unfold Am.aH;rw[hp];rfl) (by unfold Am.aH;rw[hp];rfl)
 rw[abj];refine⟨a1,a2,⟨o1,rfl,o3,o4⟩,a3,a4,a5,?_,a7,a8,?_⟩
 ·rw[hb i (s.cur i) (.inr (j5 _))];exact a6
 ·show s.size=_;rw[hbs,Am.bA,Am.bA]
theorem NG{c:Nat}{bb t cc:Int}(hp:s.pc i= .pF c bb t cc):js C p sz n M (Am.aH C s i d) (cx S M (i:Int) D):=by
 obtain⟨w1,w2,w3⟩:=b.jN.wk i hi;rw[hp]at w3;obtain⟨a1,a2,⟨o1,o2,o3,o4⟩,a3,a4,a5,a6,a7,a8,a9⟩:=w3;have hg:(Am.view s).g i= .push c:=by show Am.sig (s.pc i)=_;rw[hp];rfl
 have NF:s.cur i+1<=Am.gen s i:=by unfold Am.gen;rw[hp];exact j5 _
 have hs:=pH o1 o2 eF eF (Nz b.ar b.z b.cN hi NF o2 a9) (o':={(act S i).bf with J:=7,i:=(act S i).bf.t}) (by
  rw[aP rfl];unfold eW;rw[dJ o2,dJ o2,dJ o2,dJ o2,dJ o2,aP o2])
 rw[a8]at hs;unfold Am.aH;rw[hp];simp only;exact .mk b hi (rG b hi a2 hg hs o1 (by show(7:Int)≠0;decide)) w1 w2 rfl ⟨a1,a2,⟨o1,rfl,o3,o4⟩,a3,a4,a5,a6,a7,a8,a9,a5⟩ (b.Ac (c:=.cap i (s.cur i+1)) rfl (by rw[hp];rfl) ⟨hi,NF⟩ _ _ _ _ _) (Lg.nt rfl) trivial
theorem L8{c:Nat}{bb t cc m:Int}(hp:s.pc i= .mD c bb t cc m):js C p sz n M (Am.aH C s i d) (cx S M (i:Int) D):=by
 obtain⟨w1,w2,w3⟩:=b.jN.wk i hi;rw[hp]at w3;obtain⟨a1,a2,⟨o1,o2,o3,o4⟩,a3,a4,a5,a6,a7,a8,a9,Ul⟩:=w3;have P:=(b.dt.1 i hi).ph;unfold Am.qU at P;rw[hp]at P;simp only at P;obtain⟨g1,g2,g3,g4⟩:=J5 b hi (c:=c) P.1;have r1:=b.JY (i:=i) (x:=m) (by rw[hp];simp[Am.gL]);have hg:(Am.view s).g i= .push c:=by show Am.sig (s.pc i)=_;rw[hp];rfl
 have hs:=pH o1 o2 eF eF (Vj b.ar b.z b.ok b.cN hi (Ba s i) o2 a6 (by rw[a7];exact g1) (by rw[Ul];exact r1)) (o':={(act S i).bf with J:=8,x:=s.mem (.el i (s.cur i) (Am.ix (act S i).bf.i (act S i).bf.c))}) (by
  rw[aP rfl];unfold eW;rw[dJ o2,dJ o2,dJ o2,dJ o2,dJ o2,dJ o2,aP o2])
 rw[a7,Ul]at hs;unfold Am.aH;rw[hp];simp only;exact .mk b hi (rG b hi a2 hg hs o1 (by show(8:Int)≠0;decide)) w1 w2 rfl ⟨a1,a2,⟨o1,rfl,o3,o4⟩,a3,a4,a5,a6,a7,a8,a9,Ul,rfl⟩ (b.yf rfl (by rw[hp];rfl) _ _ _ _ _) (Lg.nt rfl) trivial
theorem J6{c:Nat}{bb t cc m x:Int}(hp:s.pc i= .mK c bb t cc m x):js C p sz n M (Am.aH C s i d) (cx S M (i:Int) D):=by
 obtain⟨w1,w2,w3⟩:=b.jN.wk i hi;rw[hp]at w3;obtain⟨a1,a2,⟨o1,o2,o3,o4⟩,a3,a4,a5,a6,a7,a8,a9,Ul,a11⟩:=w3;have P:=(b.dt.1 i hi).ph;unfold Am.qU at P;rw[hp]at P;simp only at P;obtain⟨g1,g2,g3,g4⟩:=J5 b hi (c:=c) P.1;have r1:=b.JY (i:=i) (x:=m) (by rw[hp];simp[Am.gL]);have hg:(Am.view s).g i= .push c:=by show Am.sig (s.pc i)=_;rw[hp];rfl
 have NF:s.cur i+1<=Am.gen s i:=by unfold Am.gen;rw[hp];exact j5 _
 have hac:=Vk b.ar b.z b.ok b.cN hi NF o2 a9 (by rw[a8];exact g2) (by rw[Ul];exact r1);rw[a8,Ul,a11]at hac;have hv:=(Bq (x:=m) b.ar b.z b.ok hi NF g2 r1).2;have e0:=Vn o2 (v:=0) (by rw[Ul];omega);have hlt:=P.2.2.2.1;unfold Am.aH;rw[hp];simp only;by_cases e:m+1<bb
 ·rw[aP e];rw[ct (by rw[Ul,a4];omega)]at e0;have hs:=pH o1 o2 eF eF hac (o':=_) (by rw[aP rfl];exact e0);exact .mk b hi (rG b hi a2 hg hs o1 (by show(7:Int)≠0;decide)) w1 w2 rfl ⟨a1,a2,⟨o1,rfl,o3,o4⟩,a3,a4,a5,a6,a7,a8,a9,by rw[<-Ul]⟩ (b.Ac (c:=.el i (s.cur i+1) (Am.ix m (Am.jh C cc))) rfl (by rw[hp];rfl) hv _ _ _ _ _) (Lg.nt rfl) trivial
 ·rw[ct e];rw[aP (by rw[Ul,a4];omega)]at e0;have hs:=pH o1 o2 eF eF hac (o':=_) (by rw[aP rfl];exact e0);exact .mk b hi (rG b hi a2 hg hs o1 (by show(9:Int)≠0;decide)) w1 w2 rfl ⟨a1,a2,⟨o1,rfl,o3,o4⟩,a3,a4,a8,a9⟩ (b.Ac (c:=.el i (s.cur i+1) (Am.ix m (Am.jh C cc))) rfl (by rw[hp];rfl) hv _ _ _ _ _) (Lg.nt rfl) trivial
theorem NH{c:Nat}{bb t cc:Int}(hp:s.pc i= .pG c bb t cc):js C p sz n M (Am.aH C s i d) (cx S M (i:Int) D):=by
 obtain⟨w1,w2,w3⟩:=b.jN.wk i hi;rw[hp]at w3;obtain⟨a1,a2,⟨o1,o2,o3,o4⟩,a3,a4,a8,a9⟩:=w3;have hg:(Am.view s).g i= .push c:=by show Am.sig (s.pc i)=_;rw[hp];rfl
 have hs:=pH o1 o2 eF eF (NA b.ar b.z b.cN hi o2 o3) (o':={(act S i).bf with J:=10,a:=(act S i).bf.a2,c:=(act S i).bf.c2}) (by
  rw[aP rfl];unfold eW;rw[dJ o2,dJ o2,dJ o2,dJ o2,dJ o2,dJ o2,dJ o2,dJ o2,aP o2])
 unfold Am.aH;rw[hp];simp only;have hcu:Am.cY s.cur i (s.cur i+1) i=s.cur i+1:=Am.bA _ _ _;refine .mk b hi (rG b hi a2 hg hs o1 (by show(10:Int)≠0;decide)) w1 w2 (q:=.mE c bb (Am.jh C cc)) rfl ?_ ?_ ?_ trivial (hc:=λj hj=>Am.be hj)
 ·show ph C i _ _ (Am.cY s.cur i (s.cur i+1) i) _ _;rw[hcu];exact⟨a1,a2,⟨o1,rfl,o3,o4⟩,a3,a4,a9,a8⟩
 ·rw[a9];refine b.ar.set (s':=({s.wr (.buf i) (s.base i (s.cur i+1))with cur:=Am.cY s.cur i (s.cur i+1)}:Am.St).to i (.mE c bb (Am.jh C cc))) b.z (b:=.buf i) (v:=s.base i (s.cur i+1)) hi rfl rfl rfl ?_ _ _ _ _ _
  funext j;unfold Am.gen;simp only[Am.St.to,Am.St.wr,Am.cC]
  split
  ·next e=>subst e;rw[hp];rfl
  ·rfl
 ·rw[a9];exact Lg.nt rfl
theorem L9{c:Nat}{bb cc:Int}(hp:s.pc i= .mE c bb cc):js C p sz n M (Am.aH C s i d) (cx S M (i:Int) D):=by
 obtain⟨w1,w2,w3⟩:=b.jN.wk i hi;rw[hp]at w3;obtain⟨a1,a2,⟨o1,o2,o3,o4⟩,a3,a4,a6,a7⟩:=w3;have P:=(b.dt.1 i hi).ph;unfold Am.qU at P;rw[hp]at P;simp only at P;have Q8:cc=Am.uA C (s.cur i):=P.2.2.2.trans (Am.El b.z hi);have r1:=b.JY (i:=i) (x:=bb) (by rw[hp];simp[Am.gL]);have hg:(Am.view s).g i= .push c:=by show Am.sig (s.pc i)=_;rw[hp];rfl
 have hv:=(Bq (x:=bb) b.ar b.z b.ok hi (Ba s i) Q8 r1).2;have hs:=pH o1 o2 eF eF (Vl b.ar b.z b.ok b.cN hi (Ba s i) o2 a6 (by rw[a7];exact Q8) (by rw[a4];exact r1)) (o':={(act S i).bf with J:=11}) (by
  rw[aP rfl];unfold eW;rw[dJ o2,dJ o2,dJ o2,dJ o2,dJ o2,dJ o2,dJ o2,dJ o2,dJ o2,aP o2])
 rw[a7,a4,a3]at hs;unfold Am.aH;rw[hp];simp only;exact .mk b hi (rG b hi a2 hg hs o1 (by show(11:Int)≠0;decide)) w1 w2 rfl ⟨a1,a2,⟨o1,rfl,o3,o4⟩,a4⟩ (b.Ac (c:=.el i (s.cur i) (Am.ix bb cc)) rfl (by rw[hp];rfl) hv _ _ _ _ _) (Lg.nt rfl) trivial
end
theorem abk{o:bM}(hk:o.kind=1)(hb:-4000000000000<=o.b/\o.b<=4000000000000):jf o=some (o.b+1):=by
 unfold jf;rw[aP hk,eI I]
theorem abl{o:bM}(hk:o.kind=2)(hi:o.i=0):jf o=some o.b:=by
 unfold jf;rw[dJ hk,aP hi]
theorem abm{o:bM}(hk:o.kind=2)(hi:o.i=1)(h:o.b<o.t):jf o=some o.t:=by
 unfold jf;rw[dJ hk,dJ hi,pR]
theorem abn{o:bM}(hk:o.kind=2)(hi:o.i=1)(h:o.t<=o.b)(hb:-4000000000000<=o.t/\o.t<=4000000000000):jf o=some (o.t+1):=by
 unfold jf;rw[dJ hk,dJ hi,ez,eI I]
section
variable {o:bM}{v:Int}
theorem abo(ha:o.J=1)(hv:-4000000000000<=v/\v<=4000000000000):eX o v=some {o with J:=3,b:=v-1}:=by
 unfold eX;rw[aP ha,eI I]
theorem abp(ha:o.J=3):eX o v=some {o with J:=11,a:=v}:=by
 unfold eX;rw[dJ ha,aP ha]
theorem NI(ha:o.J=11):eX o v=if o.i=0 then some {o with J:=2}else if o.Ae=true then some {o with J:=0,code:=4,value:=o.x}else some {o with J:=0,code:=5,value:=0}:=by
 unfold eX eC;rw[dJ ha,dJ ha,aP ha];rfl
theorem abq(ha:o.J=2):eX o v=if v>o.b then some {o with J:=11,t:=v,i:=1}else some {o with J:=4,t:=v,i:=1}:=by
 unfold eX;rw[dJ ha,dJ ha,dJ ha,aP ha]
theorem abr(ha:o.J=4)(hv:1<=v):eX o v=some {o with J:=12,c:=v}:=by
 unfold eX;rw[dJ ha,dJ ha,dJ ha,dJ ha,aP ha,ez]
theorem YF(ha:o.J=12):eX o v=if o.t<o.b then some {o with J:=0,x:=v,code:=4,value:=v}else some {o with J:=13,x:=v}:=by
 unfold eX eC;rw[dJ ha,dJ ha,dJ ha,dJ ha,dJ ha,aP ha];rfl
theorem YG(ha:o.J=13):eX o v=some {o with J:=11,Ae:=v==1}:=by
 unfold eX;rw[dJ ha,dJ ha,dJ ha,dJ ha,dJ ha,dJ ha,aP ha]
theorem abt(ha:o.J=2):fN o v=some {o with J:=1,t:=v}:=by unfold fN;rw[aP ha]
theorem abu(ha:o.J=1):fN o v=if o.t>=v then some {o with J:=0,b:=v,code:=5,value:=0}else some {o with J:=3,b:=v}:=by
 unfold fN eC;rw[dJ ha,aP ha];rfl
theorem abv(ha:o.J=3):fN o v=some {o with J:=4,a:=v}:=by
 unfold fN;rw[dJ ha,dJ ha,aP ha]
theorem abw(ha:o.J=4)(hv:1<=v):fN o v=some {o with J:=12,c:=v}:=by
 unfold fN;rw[dJ ha,dJ ha,dJ ha,aP ha,ez]
theorem YH(ha:o.J=12):fN o v=some {o with J:=13,x:=v}:=by
 unfold fN;rw[dJ ha,dJ ha,dJ ha,dJ ha,aP ha]
theorem YI(ha:o.J=13):fN o v=if v=1 then some {o with J:=0,code:=4,value:=o.x}else some {o with J:=0,code:=6,value:=0}:=by
 unfold fN eC;rw[dJ ha,dJ ha,dJ ha,dJ ha,dJ ha,aP ha];rfl
end
section
variable {K:Nat}{C:Am.kH}{p:aJ}{s:Am.St}{S:ag}{M M':ae}{sz n i:Nat}{D:aM}{d:Int}{o':bM}
theorem vF.Vp(b:vF C p s S M sz n)(hi:i<C.N):uN (⟨S.fl,S.cH⟩:eZ) (i:Int)=some (⟨2+10*(C.F:Int),C.N,i,2,8,1,0,0,0,List.replicate 64 ⟨0,0⟩,⟨0,0,0,0,0,0,0,0,0,0,0,0,0,false,0,0⟩⟩:bR):=by
 have h1:=b.ok.n1;have h2:=b.ok.n64;unfold uN mw mH cw bB;rw[b.jN.lb,b.jN.lw];simp only;rw[ez,ez,ax,eI (x:=2+(C.N:Int)) I,pR,pR,tP I,ax,aP rfl]
def abx(C:Am.kH)(i:Nat):bR:=⟨2+10*(C.F:Int),C.N,i,2,8,1,0,0,0,List.replicate 64 ⟨0,0⟩,⟨0,0,0,0,0,0,0,0,0,0,0,0,0,false,0,0⟩⟩
variable (b:vF C p s S M sz n)(hi:i<C.N)
include b hi
theorem Qv{c:Nat}(hc:(act S i).bU=c)(hg:(Am.view s).g i= .push c)(h1:fo M (act S i).bf=some (o',M'))(h2:o'.kind=1)(h3:o'.J=0)(h4:o'.code=2){f:Nat}(hf:(act S i).au=f) :
 cx S M (i:Int) D=some (BP (Am.ev 2 c f (s.fr c).nA),gA S i {act S i with bf:=o',cG:=abx C i,aD:=4},M'):=by
 have hcn:=GK b hi hg;have hin:bG (act S i).bU S.aG.length:=by rw[hc];exact b.task hcn
 have hw:=b.wl hi;have FK:=(b.jN.wk i hi).self;have ht:=(b.jN.tk c hcn).nA;have hwk:=b.Vp hi;unfold cx dY jH an;rw[cO,aP hin,je,aP hin,uZ h1 (Ny (by rw[h2];decide) h3),gj,h4,ct eF,ct eF,aP rfl,aP (by rw[jI];exact b.Af hi)];rw[show J (gA S i {act S i with bf:=o' }).ai i={act S i with bf:=o' }from nr hw];have adO:uN (⟨S.fl,S.cH⟩:eZ) (act S i).bg=some (abx C i):=by rw[show(act S i).bg=i from FK];exact hwk
 show eV (uN (⟨S.fl,S.cH⟩:eZ) (act S i).bg) _=_;rw[adO,ax];show some ((⟨0,0,2,(act S i).bU,(act S i).au,(J S.aG (act S i).bU.toNat).nA⟩:aj),({S with ai:=((S.ai.set i _).set i _).set i _}:ag),M')=_;rw[iB,iB,hf,hc,cO,ht];rfl
theorem NJ{c:Nat}{bb:Int}(hp:s.pc i= .rh c bb):js C p sz n M (Am.aH C s i d) (cx S M (i:Int) D):=by
 obtain⟨w1,w2,w3⟩:=b.jN.wk i hi;rw[hp]at w3;obtain⟨a1,a2,⟨o1,o2,o3,o4⟩,a4⟩:=w3;have r1:=b.JY (i:=i) (x:=bb) (by rw[hp];simp[Am.gL]);have hg:(Am.view s).g i= .push c:=by show Am.sig (s.pc i)=_;rw[hp];rfl
 obtain⟨f,hh⟩:=Am.sA b.fi hi (by rw[hp];rfl);have hac:=zA b.ar b.z b.cN hi o2 o3 (abk o1 (by rw[a4];omega));rw[a4]at hac;have hs:=pH o1 o2 eF eF hac (o':={(act S i).bf with J:=0,code:=2,value:=0}) (by
  rw[aP rfl];unfold eW eC;rw[dJ o2,dJ o2,dJ o2,dJ o2,dJ o2,dJ o2,dJ o2,dJ o2,dJ o2,dJ o2,aP o2];rfl)
 unfold Am.aH;rw[hp];simp only[hh,oJ];exact .mk b hi (Qv b hi a2 hg hs o1 rfl rfl (f:=f) (by rw[show(act S i).au=fi (s.hold i)from w2,hh];rfl)) w1 w2 rfl ⟨rfl,rfl,rfl,rfl,rfl,rfl,rfl⟩ (b.Ac (c:=.bot i) rfl (by rw[hp];rfl) hi _ _ _ _ _) (Lg.nt rfl) (by show(2:Nat)≠0;decide)
theorem u0(h1:fo M (act S i).bf=some (o',M'))(h2:o'.kind=2)(h3:o'.J≠0):cP S M (i:Int) D=some (BP none,gA S i {act S i with bf:=o' },M'):=by
 unfold cP jH an;rw[uZ h1 (L2 (by rw[h2];decide) h3),gj,aP rfl];rfl
theorem Pd(h1:fo M (act S i).bf=some (o',M'))(h2:o'.kind=2)(h3:o'.J=0)(h4:o'.code=4) :
 cP S M (i:Int) D=some (BP none,gA S i {act S i with bf:=o',au:=o'.value,from_:=-1,aD:=0},M'):=by
 have hw:=b.wl hi;unfold cP jH an;rw[uZ h1 (Ny (by rw[h2];decide) h3),gj,h4,ct eF,aP rfl,aP (by rw[jI];exact b.Af hi),cO];rw[show J (gA S i {act S i with bf:=o' }).ai i={act S i with bf:=o' }from nr hw];show some (_,({S with ai:=(((S.ai.set i _).set i _).set i _).set i _}:ag),M')=_;rw[iB,iB,iB];rfl
theorem pop_empty(h1:fo M (act S i).bf=some (o',M'))(h2:o'.kind=2)(h3:o'.J=0)(h4:o'.code=5) :
 cP S M (i:Int) D=some (BP none,gA S i {act S i with bf:=o',fX:=0,aD:=9},M'):=by
 have hw:=b.wl hi;unfold cP jH an;rw[uZ h1 (Ny (by rw[h2];decide) h3),gj,h4,ct eF,ct eF,aP rfl,aP (by rw[jI];exact b.Af hi),cO];rw[show J (gA S i {act S i with bf:=o' }).ai i={act S i with bf:=o' }from nr hw];show some (_,({S with ai:=((S.ai.set i _).set i _).set i _}:ag),M')=_;rw[iB,iB];rfl
theorem Vq(hp:s.pc i= .Fg):js C p sz n M (Am.aH C s i d) (cP S M (i:Int) D):=by
 obtain⟨w1,w2,w3⟩:=b.jN.wk i hi;rw[hp]at w3;obtain⟨a1,⟨o1,o2,o3,o4⟩,a3,a4⟩:=w3;have r:=b.LZ (a:=.bot i) rfl;have hs:=pH o1 o2 eF eF (FA b.ar b.z b.cN hi o2 o3) (by rw[ct eF,aP rfl];exact abo o2 I);unfold Am.aH;rw[hp];simp only;exact .mk b hi (u0 b hi hs o1 (by show(3:Int)≠0;decide)) w1 w2 rfl ⟨a1,⟨o1,rfl,o3,o4⟩,a3,a4,rfl⟩ (b.yf rfl (by rw[hp];rfl) _ _ _ _ _) (Lg.nt rfl) trivial
theorem Qw{bb:Int}(hp:s.pc i= .wO bb):js C p sz n M (Am.aH C s i d) (cP S M (i:Int) D):=by
 obtain⟨w1,w2,w3⟩:=b.jN.wk i hi;rw[hp]at w3;obtain⟨a1,⟨o1,o2,o3,o4⟩,a3,a4,a5⟩:=w3;have hs:=pH o1 o2 eF eF (J2 b.ar b.z b.cN hi o2 o3) (by rw[ct eF,aP rfl];exact abp o2);unfold Am.aH;rw[hp];simp only;exact .mk b hi (u0 b hi hs o1 (by show(11:Int)≠0;decide)) w1 w2 rfl ⟨a1,⟨o1,rfl,o3,o4⟩,a3,a4,a5,(b.dt.1 i hi).Ei⟩ (b.yf rfl (by rw[hp];rfl) _ _ _ _ _) (Lg.nt rfl) trivial
theorem Ma{bb:Int}(hp:s.pc i= .rD bb):js C p sz n M (Am.aH C s i d) (cP S M (i:Int) D):=by
 obtain⟨w1,w2,w3⟩:=b.jN.wk i hi;rw[hp]at w3;obtain⟨a1,⟨o1,o2,o3,o4⟩,a3,a4,a5,a6⟩:=w3;have hac:=zA b.ar b.z b.cN hi o2 o3 (abl o1 a3);rw[a5]at hac;have hs:=pH o1 o2 eF eF hac (by rw[ct eF,aP rfl,NI o2,aP a3]);unfold Am.aH;rw[hp];simp only;exact .mk b hi (u0 b hi hs o1 (by show(2:Int)≠0;decide)) w1 w2 rfl ⟨a1,⟨o1,rfl,o3,o4⟩,a5,a6,a4⟩ (b.Ac (c:=.bot i) rfl (by rw[hp];rfl) hi _ _ _ _ _) (Lg.nt rfl) trivial
theorem Vr{bb:Int}(hp:s.pc i= .Dg bb):js C p sz n M (Am.aH C s i d) (cP S M (i:Int) D):=by
 obtain⟨w1,w2,w3⟩:=b.jN.wk i hi;rw[hp]at w3;obtain⟨a1,⟨o1,o2,o3,o4⟩,a5,a6,a4⟩:=w3;have hac:=FB b.ar b.z b.cN hi o2 o3;have hs:=λo' h=>pH o1 o2 eF eF hac (o':=o') (by rw[ct eF,aP rfl];exact h);have e:=abq o2 (v:=s.mem (.top i));unfold Am.aH;rw[hp];simp only;by_cases h1:s.mem (.top i)<bb
 ·rw[aP h1];rw[ct (by rw[a5];omega)]at e;exact .mk b hi (u0 b hi (hs _ e) o1 (by show(4:Int)≠0;decide)) w1 w2 rfl ⟨a1,⟨o1,rfl,o3,o4⟩,rfl,a5,rfl,a6⟩ (b.yf rfl (by rw[hp];rfl) _ _ _ _ _) (Lg.nt rfl) trivial
 ·rw[ct h1];by_cases h2:s.mem (.top i)=bb
  ·rw[aP h2];rw[ct (by rw[a5];omega)]at e;exact .mk b hi (u0 b hi (hs _ e) o1 (by show(4:Int)≠0;decide)) w1 w2 rfl ⟨a1,⟨o1,rfl,o3,o4⟩,rfl,a5,rfl,a6⟩ (b.yf rfl (by rw[hp];rfl) _ _ _ _ _) (Lg.nt rfl) trivial
  ·rw[ct h2];rw[aP (by rw[a5];omega)]at e;exact .mk b hi (u0 b hi (hs _ e) o1 (by show(11:Int)≠0;decide)) w1 w2 rfl ⟨a1,⟨o1,rfl,o3,o4⟩,rfl,rfl,by show(act S i).bf.b<_;rw[show(act S i).bf.b=bb from a5];omega,a4⟩ (b.yf rfl (by rw[hp];rfl) _ _ _ _ _) (Lg.nt rfl) trivial
theorem Dk{tr cj:Nat}{bs:Nat->Nat->Int}{a:bz}(h1:a.aD=9)(h2:a.fX=0)(h3:tr=0):ph C i (if C.N=1 then .flag else .oC) tr cj bs a:=by
 by_cases e:C.N=1
 ·rw[aP e];exact .inl ⟨h1,e⟩
 ·rw[ct e];exact⟨h1,by rw[h2,h3];rfl,I⟩
theorem Dl{q:Am.Pc}(h:Am.lj q=false):Am.lj (if C.N=1 then .flag else .oC)=Am.lj q:=by rw[h];split<;>rfl
theorem Mb{t:Int}(hp:s.pc i= .qt t):js C p sz n M (Am.aH C s i d) (cP S M (i:Int) D):=by
 obtain⟨w1,w2,w3⟩:=b.jN.wk i hi;rw[hp]at w3;obtain⟨a1,⟨o1,o2,o3,o4⟩,a3,a5,a6,a4⟩:=w3;have hac:=zA b.ar b.z b.cN hi o2 o3 (abm o1 a3 (by rw[a5];exact a6));rw[a5]at hac;have hs:=pH o1 o2 eF eF hac (by rw[ct eF,aP rfl,NI o2,dJ a3,dJ a4]);unfold Am.aH;rw[hp];simp only;exact .mk b hi (pop_empty b hi hs o1 rfl rfl) w1 w2 rfl (Dk b hi rfl rfl (Am.bA _ _ _)) (b.Ac (c:=.bot i) rfl (by rw[hp];exact Dl b hi rfl) hi _ _ _ _ _) (Lg.nt rfl) trivial (Qt:=λj hj=>Am.be hj)
theorem Qx{bb t:Int}(hp:s.pc i= .vA bb t):js C p sz n M (Am.aH C s i d) (cP S M (i:Int) D):=by
 obtain⟨w1,w2,w3⟩:=b.jN.wk i hi;rw[hp]at w3;obtain⟨a1,⟨o1,o2,o3,o4⟩,a3,a4,a5,a6⟩:=w3;obtain⟨c0,c1,c2,c3⟩:=WX b hi;have hs:=pH o1 o2 eF eF (J3 b.ar b.z b.cN hi (Ba s i) o2 a6) (by rw[ct eF,aP rfl];exact abr o2 c1);unfold Am.aH;rw[hp];simp only;exact .mk b hi (u0 b hi hs o1 (by show(12:Int)≠0;decide)) w1 w2 rfl ⟨a1,⟨o1,rfl,o3,o4⟩,a3,a4,a5,a6,rfl⟩ (b.yf rfl (by rw[hp];rfl) _ _ _ _ _) (Lg.nt rfl) trivial
theorem NK{bb t cc:Int}(hp:s.pc i= .rS bb t cc):js C p sz n M (Am.aH C s i d) (cP S M (i:Int) D):=by
 obtain⟨w1,w2,w3⟩:=b.jN.wk i hi;rw[hp]at w3;obtain⟨a1,⟨o1,o2,o3,o4⟩,a3,a4,a5,a6,a7⟩:=w3;have P:=(b.dt.1 i hi).ph;unfold Am.qU at P;rw[hp]at P;simp only at P;have Q8:cc=Am.uA C (s.cur i):=P.2.trans (Am.El b.z hi);have r1:=b.JY (i:=i) (x:=bb) (by rw[hp];simp[Am.gL]);have hac:=L4 (x:=bb) b.ar b.z b.ok b.cN hi (Ba s i) o2 a6 (by rw[a7];exact Q8) (by rw[aP o1];exact a4.symm) r1;rw[a7]at hac;have hs:=λo' h=>pH o1 o2 eF eF hac (o':=o') (by rw[ct eF,aP rfl];exact h);have e:=YF o2 (v:=s.mem (.el i (s.cur i) (Am.ix bb cc)));unfold Am.aH;rw[hp];simp only;by_cases h1:t<bb
 ·rw[aP h1];rw[aP (by rw[a4,a5];exact h1)]at e;obtain⟨x,hx,he⟩:=(P.1.2.2.2.1 h1).2.2;rw[<-P.2]at he;have hn:fi (some (s.mem (.el i (s.cur i) (Am.ix bb cc))).toNat)=s.mem (.el i (s.cur i) (Am.ix bb cc)):=by rw[he];rfl
  exact .mk b hi (Pd b hi (hs _ e) o1 rfl rfl) w1 (by show s.mem _=fi (Am.cY s.hold i _ i);rw[Am.bA];exact hn.symm) rfl ⟨rfl,rfl⟩ (b.yf rfl (by rw[hp];rfl) _ _ _ _ _) (Lg.nt rfl) trivial (hh:=λj hj=>Am.be hj)
 ·rw[ct h1];rw[ct (by rw[a4,a5];exact h1)]at e;exact .mk b hi (u0 b hi (hs _ e) o1 (by show(13:Int)≠0;decide)) w1 w2 rfl ⟨a1,⟨o1,rfl,o3,o4⟩,a3,a4,a5,rfl⟩ (b.yf rfl (by rw[hp];rfl) _ _ _ _ _) (Lg.nt rfl) trivial
theorem Qy{bb t x:Int}(hp:s.pc i= .uh bb t x):js C p sz n M (Am.aH C s i d) (cP S M (i:Int) D):=by
 obtain⟨w1,w2,w3⟩:=b.jN.wk i hi;rw[hp]at w3;obtain⟨a1,⟨o1,o2,o3,o4⟩,a3,a4,a5,a6⟩:=w3;have P:=(b.dt.1 i hi).ph;unfold Am.qU at P;rw[hp]at P;simp only at P;have r1:=b.JY (i:=i) (x:=t) (by rw[hp];simp[Am.gL]);have hac:=Pb b.ar b.z b.cN hi o2 o3 (by rw[a5];exact r1);rw[a5]at hac;have hs:=pH o1 o2 eF eF hac (by rw[ct eF,aP rfl];exact YG o2);have htb:t<=(act S i).bf.b:=by rw[show(act S i).bf.b=bb from a4];omega
 unfold Am.aH;rw[hp];simp only;by_cases h1:s.mem (.top i)=t
 ·rw[aP h1];rw[aP h1,aP h1]at hs;exact .mk b hi (u0 b hi hs o1 (by show(11:Int)≠0;decide)) w1 w2 rfl ⟨a1,⟨o1,rfl,o3,o4⟩,a3,a5,htb,a6,rfl⟩ (b.Ac (c:=.top i) rfl (by rw[hp];rfl) hi _ _ _ _ _) (by rw[show(s.mem (.top i)==t)=true by rw[h1];simp];exact Lg.nt rfl) trivial
 ·rw[ct h1];rw[ct h1,ct h1]at hs;exact .mk b hi (u0 b hi hs o1 (by show(11:Int)≠0;decide)) w1 w2 rfl ⟨a1,⟨o1,rfl,o3,o4⟩,a3,a5,htb,a6,rfl⟩ (b.yf rfl (by rw[hp];rfl) _ _ _ _ _) (by rw[show(s.mem (.top i)==t)=false by simpa using h1];exact Lg.nt rfl) trivial
theorem Qz{t x:Int}{Ae:Bool}(hp:s.pc i= .sL t x Ae):js C p sz n M (Am.aH C s i d) (cP S M (i:Int) D):=by
 obtain⟨w1,w2,w3⟩:=b.jN.wk i hi;rw[hp]at w3;obtain⟨a1,⟨o1,o2,o3,o4⟩,a3,a5,a8,a6,a7⟩:=w3;have P:=(b.dt.1 i hi).ph;unfold Am.qU at P;rw[hp]at P;simp only at P;have r1:=b.JY (i:=i) (x:=t) (by rw[hp];simp[Am.gL]);have hac:=zA b.ar b.z b.cN hi o2 o3 (abn o1 a3 (by rw[a5];exact a8) (by rw[a5];omega));rw[a5]at hac;have e:=NI o2 (v:=0);rw[dJ a3]at e;have hs:=λo' h=>pH o1 o2 eF eF hac (o':=o') (by rw[ct eF,aP rfl];exact h);unfold Am.aH;rw[hp];simp only;cases Ae with
 | true =>
  rw[aP a7]at e;have hx:=(P.2.2.2 rfl).2;have hn:fi (some x.toNat)=x:=by show((x.toNat:Nat):Int)=x;omega
  exact .mk b hi (Pd b hi (hs _ e) o1 rfl rfl) w1 (by show(act S i).bf.x=fi (Am.cY s.hold i _ i);rw[Am.bA,show(act S i).bf.x=x from a6];exact hn.symm) rfl ⟨rfl,rfl⟩ (b.Ac (c:=.bot i) rfl (by rw[hp];rfl) hi _ _ _ _ _) (Lg.nt rfl) trivial (hh:=λj hj=>Am.be hj) (Qt:=λj hj=>Am.be hj)
 | false =>
  rw[dJ a7]at e;exact .mk b hi (pop_empty b hi (hs _ e) o1 rfl rfl) w1 w2 rfl (Dk b hi rfl rfl (Am.bA _ _ _)) (b.Ac (c:=.bot i) rfl (by rw[hp];exact Dl b hi rfl) hi _ _ _ _ _) (Lg.nt rfl) trivial (Qt:=λj hj=>Am.be hj)
end
theorem Tj{x n:Int}(h1:1<=n)(h2:n<=1000):uX x n=some (x%n):=by
 have e1:=EA x (b:=n) I;have e2:=EB x (show 0<n by omega);have e4:x.tmod n=if 0<=x∨n∣x then x%n else x%n-n:=by
  rw[Int.tmod_eq_emod];split
  ·omega
  ·rw[show((n.natAbs:Nat):Int)=n by omega]
 unfold uX;rw[ez,pR,e4];by_cases h:0<=x∨n∣x
 ·rw[aP h,ez]
 ·rw[ct h,pR,eI I];congr 1;omega
def YJ(C:Am.kH):bR:=⟨2+10*(C.F:Int),C.N,0,3,3,0,0,0,0,List.replicate 64 ⟨0,0⟩,⟨0,0,0,0,0,0,0,0,0,0,0,0,0,false,0,0⟩⟩
def Dm(C:Am.kH)(k a:Int)(v:Nat)(x:Int):bM:=⟨k,a,Am.vD C v,C.most,x,0,0,0,0,0,0,0,0,false,0,0⟩
section
variable {K:Nat}{C:Am.kH}{p:aJ}{s:Am.St}{S:ag}{M M':ae}{sz n i:Nat}{D:aM}{d:Int}{o':bM}
variable (b:vF C p s S M sz n)(hi:i<C.N)
include b
theorem Bb(k a:Int)(v:Nat)(x:Int):n3 k a (L1 C v) x=some (Dm C k a v x):=by
 have h1:=b.ok.c1;have h2:=b.ok.cm;have h3:=b.ok.m4;unfold n3 L1;simp only;rw[ez,ez];rfl
theorem Vs:wh (⟨S.fl,S.cH⟩:eZ)=some (YJ C):=by
 have h1:=b.ok.n1;have h2:=b.ok.n64;unfold wh mH cw bB;rw[b.jN.lb,b.jN.lw];simp only;rw[ez,ez,ax,eI (x:=2+(C.N:Int)) I,ez];rfl
include hi
theorem Br(h1:fo M (act S i).bf=some (o',M'))(h2:o'.kind=3)(h3:o'.J≠0):cB S M (i:Int) D=some (BP none,gA S i {act S i with bf:=o' },M'):=by
 unfold cB jH an;rw[uZ h1 (L2 (by rw[h2];decide) h3),gj,aP rfl];rfl
theorem QA(h1:fo M (act S i).bf=some (o',M'))(h2:o'.kind=3)(h3:o'.J=0)(h4:o'.code=4){v:Nat}(hv:(act S i).fB=v) :
 cB S M (i:Int) D=some (BP (Am.ev 8 o'.value v 0),gA S i {act S i with bf:=o',au:=o'.value,from_:=(v:Int),aD:=0},M'):=by
 have hw:=b.wl hi;unfold cB jH an;rw[uZ h1 (Ny (by rw[h2];decide) h3),gj,h4,ct eF,aP rfl,aP (by rw[jI];exact b.Af hi),cO];rw[show J (gA S i {act S i with bf:=o' }).ai i={act S i with bf:=o' }from nr hw];show some ((⟨0,0,8,o'.value,(act S i).fB,0⟩:aj),({S with ai:=(((S.ai.set i _).set i _).set i {act S i with bf:=o',au:=o'.value,from_:=(act S i).fB}).set i {act S i with bf:=o',au:=o'.value,from_:=(act S i).fB,aD:=0}}:ag),M')=_;rw[iB,iB,iB,hv];rfl
theorem GL(h1:fo M (act S i).bf=some (o',M'))(h2:o'.kind=3)(h3:o'.J=0)(h4:o'.code=5∨o'.code=6){t:Nat}(ht:(act S i).fX=t/\t<3) :
 cB S M (i:Int) D=some (BP none,gA S i {act S i with bf:=o',fX:=(t:Int)+1,cG:=YJ C,aD:=11},M'):=by
 have hw:=b.wl hi;have hpk:=Vs b;unfold cB jH an;have hc:(if o'.code=5 then some (o'.code==5)else some (o'.code==6))=some true:=by
  rcases h4 with h | h
  ·rw[aP h,h];rfl
  ·rw[dJ h,h];rfl
 rw[uZ h1 (Ny (by rw[h2];decide) h3),gj,ct (by rcases h4 with h | h<;>rw[h]<;>decide),ct (by rcases h4 with h | h<;>rw[h]<;>decide),hc,ax,aP rfl,aP (by rw[jI];exact b.Af hi),cO];rw[show J (gA S i {act S i with bf:=o' }).ai i={act S i with bf:=o' }from nr hw];show eV (wh (⟨S.fl,S.cH⟩:eZ)) _=_;rw[hpk,ax];show some (_,({S with ai:=(((S.ai.set i _).set i _).set i _).set i {act S i with bf:=o',fX:=wi ((act S i).fX+1),cG:=YJ C,aD:=11}}:ag),M')=_;rw[iB,iB,iB,ht.1,eI I];rfl
theorem QB{v:Nat}{t:Int}(hp:s.pc i= .vC v t):js C p sz n M (Am.aH C s i d) (cB S M (i:Int) D):=by
 obtain⟨w1,w2,w3⟩:=b.jN.wk i hi;rw[hp]at w3;obtain⟨a1,a2,a3,⟨o1,o2,o3,o4⟩,a4⟩:=w3;have T:=b.dt.2 i hi;unfold Am.Th at T;rw[hp]at T;simp only at T;have hac:=FA b.ar b.z b.cN T.1 o2 o3;have hs:=λo' h=>pH o1 o2 eF eF hac (o':=o') (by rw[ct eF,ct eF,aP rfl];exact h);have e:=abu o2 (v:=s.mem (.bot v));unfold Am.aH;rw[hp];simp only;by_cases h1:s.mem (.bot v)<=t
 ·rw[aP h1];rw[aP (by rw[a4];exact h1)]at e;exact .mk b hi (GL b hi (hs _ e) o1 rfl (.inl rfl) a2) w1 w2 rfl ⟨rfl,by show(_:Int)=((Am.cY s.fX i (s.fX i+1) i:Nat):Int);rw[Am.bA];rfl,rfl,rfl,rfl,rfl⟩ (b.yf rfl (by rw[hp];rfl) _ _ _ _ _) (Lg.nt rfl) trivial (Qt:=λj hj=>Am.be hj)
 ·rw[ct h1];rw[ct (by rw[a4];exact h1)]at e;exact .mk b hi (Br b hi (hs _ e) o1 (by show(3:Int)≠0;decide)) w1 w2 rfl ⟨a1,a2,a3,⟨o1,rfl,o3,o4⟩,a4⟩ (b.yf rfl (by rw[hp];rfl) _ _ _ _ _) (Lg.nt rfl) trivial
theorem Mc{v:Nat}{t:Int}(hp:s.pc i= .rE v t):js C p sz n M (Am.aH C s i d) (cB S M (i:Int) D):=by
 obtain⟨w1,w2,w3⟩:=b.jN.wk i hi;rw[hp]at w3;obtain⟨a1,a2,a3,⟨o1,o2,o3,o4⟩,a4⟩:=w3;have T:=b.dt.2 i hi;unfold Am.Th at T;rw[hp]at T;simp only at T;have hs:=pH o1 o2 eF eF (J2 b.ar b.z b.cN T.1 o2 o3) (by rw[ct eF,ct eF,aP rfl];exact abv o2);unfold Am.aH;rw[hp];simp only;exact .mk b hi (Br b hi hs o1 (by show(4:Int)≠0;decide)) w1 w2 rfl ⟨a1,a2,a3,⟨o1,rfl,o3,o4⟩,a4,(b.dt.1 v T.1).Ei⟩ (b.yf rfl (by rw[hp];rfl) _ _ _ _ _) (Lg.nt rfl) trivial
theorem Mf{v g:Nat}{t:Int}(hp:s.pc i= .qu v t g):js C p sz n M (Am.aH C s i d) (cB S M (i:Int) D):=by
 obtain⟨w1,w2,w3⟩:=b.jN.wk i hi;rw[hp]at w3;obtain⟨a1,a2,a3,⟨o1,o2,o3,o4⟩,a4,a5⟩:=w3;have T:=b.dt.2 i hi;unfold Am.Th at T;rw[hp]at T;simp only at T;have hg:=G5 T.2.2.2.1 (Ba s v);have h1:=(b.dt.1 v T.1).zu g T.2.2.2.1;have hs:=pH o1 o2 eF eF (J3 b.ar b.z b.cN T.1 hg o2 a5) (by rw[ct eF,ct eF,aP rfl];exact abw o2 h1);unfold Am.aH;rw[hp];simp only;exact .mk b hi (Br b hi hs o1 (by show(12:Int)≠0;decide)) w1 w2 rfl ⟨a1,a2,a3,⟨o1,rfl,o3,o4⟩,a4,a5,rfl⟩ (b.yf rfl (by rw[hp];rfl) _ _ _ _ _) (Lg.nt rfl) trivial
theorem J7{v g:Nat}{t cc:Int}(hp:s.pc i= .oa v t g cc):js C p sz n M (Am.aH C s i d) (cB S M (i:Int) D):=by
 obtain⟨w1,w2,w3⟩:=b.jN.wk i hi;rw[hp]at w3;obtain⟨a1,a2,a3,⟨o1,o2,o3,o4⟩,a4,a5,a6⟩:=w3;have T:=b.dt.2 i hi;unfold Am.Th at T;rw[hp]at T;simp only at T;have hg:=G5 T.2.2.2.1 (Ba s v);have Q8:cc=Am.uA C g:=T.2.2.2.2.1.trans (b.z.cap v T.1 g T.2.2.2.1);have r1:=b.JY (i:=i) (x:=t) (by rw[hp];simp[Am.gL]);have hac:=L4 (x:=t) b.ar b.z b.ok b.cN T.1 hg o2 a5 (by rw[a6];exact Q8) (by rw[dJ o1];exact a4.symm) r1;rw[a6]at hac;have hs:=pH o1 o2 eF eF hac (by rw[ct eF,ct eF,aP rfl];exact YH o2);unfold Am.aH;rw[hp];simp only;exact .mk b hi (Br b hi hs o1 (by show(13:Int)≠0;decide)) w1 w2 rfl ⟨a1,a2,a3,⟨o1,rfl,o3,o4⟩,a4,rfl⟩ (b.yf rfl (by rw[hp];rfl) _ _ _ _ _) (Lg.nt rfl) trivial
theorem Mg{v:Nat}{t x:Int}(hp:s.pc i= .oD v t x):js C p sz n M (Am.aH C s i d) (cB S M (i:Int) D):=by
 obtain⟨w1,w2,w3⟩:=b.jN.wk i hi;rw[hp]at w3;obtain⟨a1,a2,a3,⟨o1,o2,o3,o4⟩,a4,a5⟩:=w3;have T:=b.dt.2 i hi;unfold Am.Th at T;rw[hp]at T;simp only at T;have r1:=b.JY (i:=i) (x:=t) (by rw[hp];simp[Am.gL]);have hac:=Pb b.ar b.z b.cN T.1 o2 o3 (by rw[a4];exact r1);rw[a4]at hac;have hs:=λo' h=>pH o1 o2 eF eF hac (o':=o') (by rw[ct eF,ct eF,aP rfl];exact h);have e:=YI o2 (v:=if s.mem (.top v)=t then 1 else 0);unfold Am.aH;rw[hp];simp only;by_cases h1:s.mem (.top v)=t
 ·rw[aP h1]at e hs;rw[aP rfl]at e;rw[aP h1]at hs;rw[aP h1];obtain⟨y,l,hq,hx⟩:=T.2.2.2 h1.symm;have hn:fi (some x.toNat)=x:=by rw[hx];rfl
  have ha:=QA b hi (D:=D) (hs _ e) o1 rfl rfl a3;simp only[a5]at ha;exact .mk b hi ha w1 (by show x=fi (Am.cY s.hold i _ i);rw[Am.bA];exact hn.symm) rfl ⟨rfl,rfl⟩ (b.Ac (c:=.top v) rfl (by rw[hp];rfl) T.1 _ _ _ _ _) (by rw[show(s.mem (.top v)==t)=true by rw[h1];simp];exact Lg.nt rfl) (by show(8:Nat)≠0;decide) (hh:=λj hj=>Am.be hj)
 ·rw[ct h1]at e hs;rw[ct eF]at e;rw[ct h1]at hs;rw[ct h1];exact .mk b hi (GL b hi (hs _ e) o1 rfl (.inr rfl) a2) w1 w2 rfl ⟨rfl,by show(_:Int)=((Am.cY s.fX i (s.fX i+1) i:Nat):Int);rw[Am.bA];rfl,rfl,rfl,rfl,rfl⟩ (b.yf rfl (by rw[hp];rfl) _ _ _ _ _) (by rw[show(s.mem (.top v)==t)=false by simpa using h1];exact Lg.nt rfl) trivial (Qt:=λj hj=>Am.be hj)
end
theorem Bs{C:Am.kH}{i j k:Nat}(hi:i<C.N)(h:ring C i j k):(k+1=C.N/\Am.LQ C j=i)∨(k+1<C.N/\Am.LQ C j≠i/\ring C i (Am.LQ C j) (k+1)):=by
 obtain⟨h1,h2,rfl⟩:=h;have e:Am.LQ C ((i+k)%C.N)=(i+(k+1))%C.N:=by unfold Am.LQ;rw[Nat.mod_add_mod,Ii]
 rw[e];by_cases hk:k+1=C.N
 ·left;exact⟨hk,by rw[hk,Nat.add_mod_right,FJ hi]⟩
 ·right
  refine⟨I,λh => ?_,I,I,rfl⟩;rcases zG (i+(k+1)) C.N with h' | h'
  ·rw[FJ h']at h;omega
  ·rw[Nat.mod_eq_sub_mod h',FJ I]at h;omega
theorem Cx{C:Am.kH}{i:Nat}(hi:i<C.N):(C.N=1/\Am.LQ C i=i)∨(1<C.N/\Am.LQ C i≠i/\ring C i (Am.LQ C i) 1):=by
 unfold Am.LQ ring;by_cases h:C.N=1
 ·left;refine⟨h,?_⟩;rw[h,Nat.mod_one];omega
 ·right
  refine⟨I,λh' => ?_,I,I,rfl⟩;rcases zG (i+1) C.N with e | e
  ·rw[FJ e]at h';omega
  ·rw[Nat.mod_eq_sub_mod e,FJ I]at h';omega
theorem Dn{C:Am.kH}{i j k:Nat}(h:ring C i j k):j<C.N:=by obtain⟨h1,h2,rfl⟩:=h;exact Nat.mod_lt _ I
section
variable {o o':bR}{M M':ae}{v:Int}
theorem yK{k a:Int}(hk:o.dk=k)(ha:o.ay=a)(XX:k≠0)(ha0:a≠0)(ha4:a≠4)(hx:bX o M=some (v,0,M'))
 (hn:(if k=1 then gh o v else if k=2 then iM o v else if k=3 then some {o with ay:=0,dX:=if v=1 then 17 else 16,fh:=0}else ia o v)=some o'):eD M o=some (o',M'):=by
 subst hk;subst ha;unfold eD dL;rw[ct XX,ct ha0,eJ,ct ha4,hx,dw,aP rfl];split at hn
 ·rename_i h;rw[aP h,hn,ax]
 ·rename_i h;rw[ct h];split at hn
  ·rename_i h;rw[aP h,hn,ax]
  ·rename_i h;rw[ct h];split at hn
   ·rename_i h;rw[aP h,ax];by_cases e:v=1
    ·rw[aP e];rw[aP e]at hn;cases hn;rfl
    ·rw[ct e];rw[ct e]at hn;cases hn;rfl
   ·rename_i h;rw[ct h,hn,ax]
theorem YK(ha:o.ay=9){k:Int}(hk:wi (o.dh+1)=k):iM o v=if v=1 then some {o with ay:=7}else if k=o.bT then some {o with ay:=0,dh:=k,dX:=19,fh:=0}else some {o with dh:=k}:=by
 unfold iM dL;rw[dJ ha,aP ha,hk];rfl
theorem Pe(hk:o.dk≠0)(ha:o.ay≠0):pC o=some (0,0):=by
 unfold pC;rw[ct hk,ct ha]
theorem Mh(hk:o.dk≠0)(ha:o.ay=0):pC o=some (o.dX,o.fh):=by
 unfold pC;rw[ct hk,aP ha]
end
section
variable {C:Am.kH}{s:Am.St}{M:ae}{sz n i:Nat}{o:bR}
theorem Pf(h:AR C s M sz n)(hz:Am.SZ C s){j:Nat}(hj:j<C.N)(hb:o.bJ=2+10*(C.F:Int)):my o (j:Int)=some (Am.cy C s (.flag j)):=by
 have p:=h.Vh hz (a:=.flag j) hj;have e:Am.cy C s (.flag j)=2+10*(C.F:Int)+2+j:=by show(4:Int)+10*C.F+j=_;omega
 rw[e]at p;unfold my;rw[hb,eI (x:=2+10*(C.F:Int)+2) I,eI I,e]
theorem YL(h:AR C s M sz n)(hz:Am.SZ C s)(hb:o.bJ=2+10*(C.F:Int)):wi (o.bJ+0)=Am.cy C s .tJ:=by
 refine h.cast hz (a:=.tJ) trivial ?_;rw[hb];show _=(2:Int)+10*C.F;omega
theorem aby(h:AR C s M sz n)(hz:Am.SZ C s)(hb:o.bJ=2+10*(C.F:Int)):wi (o.bJ+1)=Am.cy C s .Eg:=by
 refine h.cast hz (a:=.Eg) trivial ?_;rw[hb];show _=(3:Int)+10*C.F;omega
theorem J8{j k:Nat}(hi:i<C.N)(hN:C.N<=64)(hw:o.bT=C.N)(hs:o.gp=i)(hk:o.dh=k)(hr:ring C i j k):kq o=some (j:Int):=by
 obtain⟨h1,h2,rfl⟩:=hr;unfold kq;rw[hw,hs,hk,pR,eI I]
 congr 1
theorem adP(h:AR C s M sz n)(hz:Am.SZ C s)(hn:n<=2000000000)(hi:i<C.N)(hb:o.bJ=2+10*(C.F:Int))(hs:o.gp=i)(ha:o.ay=1):bX o M=some (0,0,nt M (M.cell.set (Am.cy C s (.flag i)).toNat 1) 1 (Am.cy C s (.flag i)) 1 0 true):=by
 unfold bX;rw[aP ha,hs,Pf h hz hi hb,ax,uY h hz hn (a:=.flag i) hi,fc]
theorem adQ(h:AR C s M sz n)(hz:Am.SZ C s)(hn:n<=2000000000)(hb:o.bJ=2+10*(C.F:Int))(ha:o.ay=2)(hv:-1000000000000<=s.mem .tJ/\s.mem .tJ<=1000000000000):bX o M=some (s.mem .tJ+1,0,nt M (M.cell.set (Am.cy C s .tJ).toNat (s.mem .tJ+1)) 3 (Am.cy C s .tJ) 1 (s.mem .tJ+1) true):=by
 unfold bX;rw[dJ ha,aP ha,YL h hz hb,IJ h hz hn (a:=.tJ) trivial (eI I),dw]
theorem abz(h:AR C s M sz n)(hz:Am.SZ C s)(hn:n<=2000000000)(hb:o.bJ=2+10*(C.F:Int))(ha:o.ay=3):bX o M=some (s.mem .Eg,0,nt M M.cell 0 (Am.cy C s .Eg) (s.mem .Eg) 0 true):=by
 unfold bX;rw[dJ ha,dJ ha,aP ha,aby h hz hb,xY h hz hn (a:=.Eg) trivial,dw]
theorem adR(h:AR C s M sz n)(hz:Am.SZ C s)(hn:n<=2000000000)(hi:i<C.N)(hb:o.bJ=2+10*(C.F:Int))(hs:o.gp=i)(ha:o.ay=5):bX o M=some (s.mem (.flag i),0,nt M M.cell 0 (Am.cy C s (.flag i)) (s.mem (.flag i)) 0 true):=by
 unfold bX;rw[dJ ha,dJ ha,dJ ha,aP ha,hs,Pf h hz hi hb,ax,xY h hz hn (a:=.flag i) hi,dw]
theorem adS(h:AR C s M sz n)(hz:Am.SZ C s)(hn:n<=2000000000)(hi:i<C.N)(hb:o.bJ=2+10*(C.F:Int))(hs:o.gp=i)(ha:o.ay=6):bX o M=some (if s.mem (.flag i)=1 then 1 else 0,0,nt M (if s.mem (.flag i)=1 then M.cell.set (Am.cy C s (.flag i)).toNat 0 else M.cell) 2 (Am.cy C s (.flag i)) 1 0 (s.mem (.flag i)==1)):=by
 unfold bX;rw[dJ ha,dJ ha,dJ ha,dJ ha,aP ha,hs,Pf h hz hi hb,ax,S5 h hz hn (a:=.flag i) hi,dw];by_cases e:s.mem (.flag i)=1
 ·rw[aP (by rw[e];rfl),aP e,aP e]
 ·rw[ct (by simpa using e),ct e,ct e]
theorem YM(h:AR C s M sz n)(hz:Am.SZ C s)(hn:n<=2000000000)(hb:o.bJ=2+10*(C.F:Int))(ha:o.ay=7)(hv:-1000000000000<=s.mem .tJ/\s.mem .tJ<=1000000000000):bX o M=some (s.mem .tJ-1,0,nt M (M.cell.set (Am.cy C s .tJ).toNat (s.mem .tJ-1)) 3 (Am.cy C s .tJ) (-1) (s.mem .tJ-1) true):=by
 unfold bX;rw[dJ ha,dJ ha,dJ ha,dJ ha,dJ ha,aP ha,YL h hz hb,IJ h hz hn (a:=.tJ) trivial (v:=s.mem .tJ-1) (by rw[eI I];omega),dw]
theorem adT(h:AR C s M sz n)(hz:Am.SZ C s)(hn:n<=2000000000)(hb:o.bJ=2+10*(C.F:Int))(ha:o.ay=8):bX o M=some (s.mem .tJ,0,nt M M.cell 0 (Am.cy C s .tJ) (s.mem .tJ) 0 true):=by
 unfold bX;rw[dJ ha,dJ ha,dJ ha,dJ ha,dJ ha,dJ ha,aP ha,YL h hz hb,xY h hz hn (a:=.tJ) trivial,dw]
theorem abA{j:Nat}(h:AR C s M sz n)(hz:Am.SZ C s)(hn:n<=2000000000)(hb:o.bJ=2+10*(C.F:Int))(hj:j<C.N)(ho:kq o=some (j:Int))(ha:o.ay=9):bX o M=some (if s.mem (.flag j)=1 then 1 else 0,0,nt M (if s.mem (.flag j)=1 then M.cell.set (Am.cy C s (.flag j)).toNat 0 else M.cell) 2 (Am.cy C s (.flag j)) 1 0 (s.mem (.flag j)==1)):=by
 unfold bX;rw[dJ ha,dJ ha,dJ ha,dJ ha,dJ ha,dJ ha,dJ ha,aP ha,ho,ax,Pf h hz hj hb,ax,S5 h hz hn (a:=.flag j) hj,dw];by_cases e:s.mem (.flag j)=1
 ·rw[aP (by rw[e];rfl),aP e,aP e]
 ·rw[ct (by simpa using e),ct e,ct e]
theorem abB(h:AR C s M sz n)(hz:Am.SZ C s)(hn:n<=2000000000)(hb:o.bJ=2+10*(C.F:Int))(ha:o.ay=10):bX o M=some (0,0,nt M (M.cell.set (Am.cy C s .Eg).toNat 1) 1 (Am.cy C s .Eg) 1 0 true):=by
 unfold bX;rw[dJ ha,dJ ha,dJ ha,dJ ha,dJ ha,dJ ha,dJ ha,dJ ha,aby h hz hb,uY h hz hn (a:=.Eg) trivial,fc]
end
section
variable {K:Nat}{C:Am.kH}{p:aJ}{s:Am.St}{S:ag}{M M':ae}{sz n i:Nat}{D:aM}{d:Int}{o':bR}
variable (b:vF C p s S M sz n)(hi:i<C.N)
include b hi
theorem GM(h1:eD M (act S i).cG=some (o',M'))(h2:o'.dk=2)(h3:o'.ay≠0):eA S M (i:Int) D=some (BP none,gA S i {act S i with cG:=o' },M'):=by
 unfold eA jH an;rw[xA h1 (Pe (by rw[h2];decide) h3),gj,aP rfl];rfl
theorem QC(h1:eD M (act S i).cG=some (o',M'))(h2:o'.dk=2)(h3:o'.ay=0)(h4:o'.dX=18){f:Nat}(hf:(act S i).au=f):eA S M (i:Int) D=some (BP (Am.ev 3 f o'.fh 0),gA S i {act S i with cG:=o',aD:=1},M'):=by
 have hw:=b.wl hi;unfold eA jH an;rw[xA h1 (Mh (by rw[h2];decide) h3),gj,h4,ct eF,aP rfl,aP (by rw[jI];exact b.Af hi),cO];rw[show J (gA S i {act S i with cG:=o' }).ai i={act S i with cG:=o' }from nr hw];show some ((⟨0,0,3,(act S i).au,o'.fh,0⟩:aj),({S with ai:=(S.ai.set i _).set i _}:ag),M')=_;rw[iB,hf];rfl
theorem IK(h1:eD M (act S i).cG=some (o',M'))(h2:o'.dk=2)(h3:o'.ay=0)(h4:o'.dX=19):eA S M (i:Int) D=some (BP none,gA S i {act S i with cG:=o',aD:=1},M'):=by
 have hw:=b.wl hi;unfold eA jH an;rw[xA h1 (Mh (by rw[h2];decide) h3),gj,h4,ct eF,ct eF,aP rfl,aP (by rw[jI];exact b.Af hi),cO];rw[show J (gA S i {act S i with cG:=o' }).ai i={act S i with cG:=o' }from nr hw];show some (_,({S with ai:=(S.ai.set i _).set i _}:ag),M')=_;rw[iB];rfl
theorem Vt(hp:s.pc i= .HU):js C p sz n M (Am.aH C s i d) (eA S M (i:Int) D):=by
 obtain⟨w1,w2,w3⟩:=b.jN.wk i hi;rw[hp]at w3;obtain⟨a1,⟨l1,l2,l3,l4,l5,l6⟩⟩:=w3;have hs:=λo' h=>yK l4 l5 eF eF eF (adT b.ar b.z b.cN l1 l5) (o':=o') (by rw[ct eF,aP rfl];exact h);have hw:∀v,iM (act S i).cG v=if v<=0 then some {(act S i).cG with ay:=0,dX:=19,fh:=0}else if(act S i).cG.bT=1 then some {(act S i).cG with ay:=0,dX:=19,fh:=0}else some {(act S i).cG with ay:=9}:=λv=>by
  unfold iM dL;rw[aP l5];rfl
 have e:=hw (s.mem .tJ);unfold Am.aH;rw[hp];simp only;by_cases h0:0<s.mem .tJ/\1<C.N
 ·rw[aP h0];rw[ez,ct (by rw[l2];omega)]at e;have hr:=(Cx hi).resolve_left (λh=>I);exact .mk b hi (GM b hi (hs _ e) l4 (by show(9:Int)≠0;decide)) w1 w2 rfl ⟨a1,1,⟨l1,l2,l3,l4,rfl,l6⟩,hr.2.2⟩ (b.yf rfl (by rw[hp];rfl) _ _ _ _ _) (Lg.nt rfl) trivial
 ·rw[ct h0];have e:iM (act S i).cG (s.mem .tJ)=some {(act S i).cG with ay:=0,dX:=19,fh:=0}:=by
   rw[e];by_cases h1:s.mem .tJ<=0
   ·rw[aP h1]
   ·rw[ct h1,aP (by rw[l2];have:=b.ok.n1;omega)]
  exact .mk b hi (IK b hi (hs _ e) l4 rfl rfl) w1 w2 rfl rfl (b.yf rfl (by rw[hp];rfl) _ _ _ _ _) (Lg.nt rfl) trivial
theorem NL{j:Nat}(hp:s.pc i= .ug j):js C p sz n M (Am.aH C s i d) (eA S M (i:Int) D):=by
 obtain⟨w1,w2,w3⟩:=b.jN.wk i hi;rw[hp]at w3;obtain⟨a1,k,⟨l1,l2,l3,l4,l5,l6⟩,hr⟩:=w3;have hj:=Dn hr;have n64:=b.ok.n64;have hk:=hr.2.1;have hac:=abA b.ar b.z b.cN l1 hj (J8 hi n64 l2 l3 l6 hr) l5;have hs:=λo' h=>yK l4 l5 eF eF eF hac (o':=o') (by rw[ct eF,aP rfl];exact h);have hw:=λv=>YK (v:=v) l5 (k:=(k:Int)+1) (by rw[l6,eI I]);unfold Am.aH;rw[hp];simp only;by_cases h1:s.mem (.flag j)=1
 ·have e:=hw 1;rw[aP rfl]at e;rw[aP h1,aP h1]at hs;rw[aP h1];exact .mk b hi (GM b hi (hs _ e) l4 (by show(7:Int)≠0;decide)) w1 w2 rfl ⟨a1,k,⟨l1,l2,l3,l4,rfl,l6⟩,hr⟩ (b.Ac (c:=.flag j) rfl (by rw[hp];rfl) hj _ _ _ _ _) (by rw[show(s.mem (.flag j)==1)=true by rw[h1];rfl];exact Lg.nt rfl) trivial
 ·have e:=hw 0;rw[ct eF]at e;rw[ct h1,ct h1]at hs;rw[ct h1];have hb:(s.mem (.flag j)==1)=false:=by simpa using h1
  rcases Bs hi hr with ⟨e1,e2⟩ | ⟨e1,e2,e3⟩
  ·rw[aP (by rw[l2];omega)]at e;rw[aP e2];exact .mk b hi (IK b hi (hs _ e) l4 rfl rfl) w1 w2 rfl rfl (b.yf rfl (by rw[hp];rfl) _ _ _ _ _) (by rw[hb];exact Lg.nt rfl) trivial
  ·rw[ct (by rw[l2];omega)]at e;rw[ct e2];exact .mk b hi (GM b hi (hs _ e) l4 (by show(act S i).cG.ay≠0;rw[show(act S i).cG.ay=9 from l5];decide)) w1 w2 rfl ⟨a1,k+1,⟨l1,l2,l3,l4,l5,by show(k:Int)+1=((k+1:Nat):Int);omega⟩,e3⟩ (b.yf rfl (by rw[hp];rfl) _ _ _ _ _) (by rw[hb];exact Lg.nt rfl) trivial
theorem NM{j:Nat}(hp:s.pc i= .vW j):js C p sz n M (Am.aH C s i d) (eA S M (i:Int) D):=by
 obtain⟨w1,w2,w3⟩:=b.jN.wk i hi;rw[hp]at w3;obtain⟨a1,k,⟨l1,l2,l3,l4,l5,l6⟩,hr⟩:=w3;have n64:=b.ok.n64;obtain⟨f,hh⟩:=Am.sA b.fi hi (by rw[hp];rfl);have hac:=YM b.ar b.z b.cN l1 l5 (b.LZ rfl);have e:∀v,iM (act S i).cG v=some {(act S i).cG with ay:=0,dX:=18,fh:=(j:Int)}:=λv=>by
  unfold iM dL;rw[dJ l5,dJ l5,aP l5,J8 hi n64 l2 l3 l6 hr];rfl
 have hs:=yK l4 l5 eF eF eF hac (by rw[ct eF,aP rfl];exact e _);unfold Am.aH;rw[hp];simp only[hh,oJ];exact .mk b hi (QC b hi hs l4 rfl rfl (f:=f) (by rw[show(act S i).au=fi (s.hold i)from w2,hh];rfl)) w1 w2 rfl rfl (b.Ac (c:=.tJ) rfl (by rw[hp];rfl) trivial _ _ _ _ _) (Lg.nt rfl) (by show(3:Nat)≠0;decide)
theorem Dp(h1:eD M (act S i).cG=some (o',M'))(h2:o'.dk=4)(h3:o'.ay≠0):fq S M (i:Int) D=some (BP none,gA S i {act S i with cG:=o' },M'):=by
 unfold fq;rw[xA h1 (Pe (by rw[h2];decide) h3),gj,aP rfl];rfl
theorem GN(h1:eD M (act S i).cG=some (o',M'))(h2:o'.dk=4)(h3:o'.ay=0)(h4:o'.dX=20):fq S M (i:Int) D=some (BP (Am.ev 10 0 0 0),gA S i {act S i with cG:=o',aD:=13},M'):=by
 have hw:=b.wl hi;unfold fq kK;rw[xA h1 (Mh (by rw[h2];decide) h3),gj,h4,ct eF,aP rfl,aP (by rw[jI];exact b.Af hi),cO];rw[show J (gA S i {act S i with cG:=o' }).ai i={act S i with cG:=o' }from nr hw,fc];show some (_,({S with ai:=(S.ai.set i _).set i _}:ag),M')=_;rw[iB];rfl
theorem abC{o:bR}(ha:o.ay=10)(v:Int):ia o v=if o.dh>=o.bT then some {o with ay:=0,dX:=20,fh:=0}else some {o with ay:=9}:=by
 unfold ia dL;rw[aP ha,Of];rfl
theorem adU{o:bR}(ha:o.ay=9):ia o 1=some {o with ay:=7}:=by
 unfold ia dL;rw[dJ ha,aP ha,ax];rfl
theorem abD{o:bR}{v:Int}(h:(o.ay=9/\v≠1)∨o.ay=7){k:Int}(hk:wi (o.dh+1)=k):ia o v=if k>=o.bT then some {o with ay:=0,dh:=k,dX:=20,fh:=0}else some {o with ay:=9,dh:=k}:=by
 have e:eV (if o.ay=9 then some (v==1)else some false) (λg5=>if g5=true then some (Sum.inr {o with ay:=7})else some (Sum.inl (wi (o.dh+1))))=some (.inl k):=by
  rw[<-hk];rcases h with ⟨h1,h2⟩ | h1
  ·rw[aP h1,ax,ct (by simpa using h2)]
  ·rw[dJ h1,ax,ct eF]
 unfold ia dL;rw[ct (by rcases h with ⟨h1,_⟩ | h1<;>rw[h1]<;>decide),e,Of];rfl
theorem Vu(hp:s.pc i= .done):js C p sz n M (Am.aH C s i d) (fq S M (i:Int) D):=by
 obtain⟨w1,w2,w3⟩:=b.jN.wk i hi;rw[hp]at w3;obtain⟨a1,⟨l1,l2,l3,l4,l5,l6⟩⟩:=w3;have hac:=abB b.ar b.z b.cN l1 l5;have hs:=λo' h=>yK l4 l5 eF eF eF hac (o':=o') (by rw[ct eF,ct eF,ct eF];exact h);have e:=abC b hi l5 0;unfold Am.aH;rw[hp];simp only[Am.oG];rcases Cx hi with ⟨e1,e2⟩ | ⟨e1,e2,e3⟩
 ·rw[aP (by rw[l6,l2];omega)]at e;rw[aP e2];exact .mk b hi (GN b hi (hs _ e) l4 rfl rfl) w1 w2 rfl rfl (b.Ac (c:=.Eg) rfl (by rw[hp];rfl) trivial _ _ _ _ _) (Lg.nt rfl) (by show(10:Nat)≠0;decide)
 ·rw[ct (by rw[l6,l2];omega)]at e;rw[ct e2];exact .mk b hi (Dp b hi (hs _ e) l4 (by show(9:Int)≠0;decide)) w1 w2 rfl ⟨a1,1,⟨l1,l2,l3,l4,rfl,l6⟩,e3⟩ (b.Ac (c:=.Eg) rfl (by rw[hp];rfl) trivial _ _ _ _ _) (Lg.nt rfl) trivial
theorem Vv{j:Nat}(hp:s.pc i= .tell j):js C p sz n M (Am.aH C s i d) (fq S M (i:Int) D):=by
 obtain⟨w1,w2,w3⟩:=b.jN.wk i hi;rw[hp]at w3;obtain⟨a1,k,⟨l1,l2,l3,l4,l5,l6⟩,hr⟩:=w3;have hj:=Dn hr;have n64:=b.ok.n64;have hk:=hr.2.1;have hac:=abA b.ar b.z b.cN l1 hj (J8 hi n64 l2 l3 l6 hr) l5;have hs:=λo' h=>yK l4 l5 eF eF eF hac (o':=o') (by rw[ct eF,ct eF,ct eF];exact h);unfold Am.aH;rw[hp];simp only[Am.oG];by_cases h1:s.mem (.flag j)=1
 ·have e:=adU b hi l5;rw[aP h1,aP h1]at hs;rw[aP h1];exact .mk b hi (Dp b hi (hs _ e) l4 (by show(7:Int)≠0;decide)) w1 w2 rfl ⟨a1,k,⟨l1,l2,l3,l4,rfl,l6⟩,hr⟩ (b.Ac (c:=.flag j) rfl (by rw[hp];rfl) hj _ _ _ _ _) (by rw[show(s.mem (.flag j)==1)=true by rw[h1];rfl];exact Lg.nt rfl) trivial
 ·have e:=abD b hi (v:=0) (.inl ⟨l5,eF⟩) (k:=(k:Int)+1) (by rw[l6,eI I]);rw[ct h1,ct h1]at hs;rw[ct h1];have hb:(s.mem (.flag j)==1)=false:=by simpa using h1
  rcases Bs hi hr with ⟨e1,e2⟩ | ⟨e1,e2,e3⟩
  ·rw[aP (by rw[l2];omega)]at e;rw[aP e2];exact .mk b hi (GN b hi (hs _ e) l4 rfl rfl) w1 w2 rfl rfl (b.yf rfl (by rw[hp];rfl) _ _ _ _ _) (by rw[hb];exact Lg.nt rfl) (by show(10:Nat)≠0;decide)
  ·rw[ct (by rw[l2];omega)]at e;rw[ct e2];exact .mk b hi (Dp b hi (hs _ e) l4 (by show(9:Int)≠0;decide)) w1 w2 rfl ⟨a1,k+1,⟨l1,l2,l3,l4,rfl,by show(k:Int)+1=((k+1:Nat):Int);omega⟩,e3⟩ (b.yf rfl (by rw[hp];rfl) _ _ _ _ _) (by rw[hb];exact Lg.nt rfl) trivial
theorem NN{j:Nat}(hp:s.pc i= .xz j):js C p sz n M (Am.aH C s i d) (fq S M (i:Int) D):=by
 obtain⟨w1,w2,w3⟩:=b.jN.wk i hi;rw[hp]at w3;obtain⟨a1,k,⟨l1,l2,l3,l4,l5,l6⟩,hr⟩:=w3;have n64:=b.ok.n64;have hk:=hr.2.1;have hac:=YM b.ar b.z b.cN l1 l5 (b.LZ rfl);have hs:=λo' h=>yK l4 l5 eF eF eF hac (o':=o') (by rw[ct eF,ct eF,ct eF];exact h);have e:=abD b hi (v:=s.mem .tJ-1) (.inr l5) (k:=(k:Int)+1) (by rw[l6,eI I]);unfold Am.aH;rw[hp];simp only[Am.oG];rcases Bs hi hr with ⟨e1,e2⟩ | ⟨e1,e2,e3⟩
 ·rw[aP (by rw[l2];omega)]at e;rw[aP e2];exact .mk b hi (GN b hi (hs _ e) l4 rfl rfl) w1 w2 rfl rfl (b.Ac (c:=.tJ) rfl (by rw[hp];rfl) trivial _ _ _ _ _) (Lg.nt rfl) (by show(10:Nat)≠0;decide)
 ·rw[ct (by rw[l2];omega)]at e;rw[ct e2];exact .mk b hi (Dp b hi (hs _ e) l4 (by show(9:Int)≠0;decide)) w1 w2 rfl ⟨a1,k+1,⟨l1,l2,l3,l4,rfl,by show(k:Int)+1=((k+1:Nat):Int);omega⟩,e3⟩ (b.Ac (c:=.tJ) rfl (by rw[hp];rfl) trivial _ _ _ _ _) (Lg.nt rfl) trivial
end
theorem NO{α:Type}[Inhabited α]{N j:Nat}{g:Nat->α}(h:j<N):J ((List.range N).map g) j=g j:=by
 unfold J;rw[List.getD_eq_getElem?_getD,List.getElem?_map,List.getElem?_range h];rfl
theorem Pg{α:Type}[Inhabited α]{N j k:Nat}{l:List α}{y:α}(h:j<N):J (qz N l k y) j=if j=k then y else J l j:=NO h
theorem WY{α:Type}[Inhabited α]{N j:Nat}{ys l:List α}(h:j<N):J (CQ N ys l) j=if j<ys.length then J ys j else J l j:=NO h
theorem YN{α:Type}[Inhabited α]{lo m j:Nat}{l:List α}(h:j<m):J (yy l lo m) j=J l (lo+j):=NO h
def zDq:bM:=⟨0,0,0,0,0,0,0,0,0,0,0,0,0,false,0,0⟩
def QD(C:Am.kH)(i:Nat)(l:List ck):bR:=⟨2+10*(C.F:Int),C.N,i,1,1,0,0,0,0,l,zDq⟩
section
variable {K:Nat}{C:Am.kH}{p:aJ}{s:Am.St}{S:ag}{M M':ae}{sz n i:Nat}{D:aM}{d:Int}{o':bR}
variable (b:vF C p s S M sz n)(hi:i<C.N)
include b
theorem Tk:∀(e k g:Nat) (l:List ck),g+e=C.N->e<k->(∀v,v<g->J l v=L1 C v)->
 ∃l',pD K (⟨S.fl,S.cH⟩:eZ) (i:Int) S.dz k l (g:Int)=some (⟨S.fl,S.cH,i,1,1,0,0,0,0,l',zDq⟩:bR)/\∀v,v<C.N->J l' v=L1 C v
 | e,k,g,l,he,hk,hl=>by
  obtain⟨k,rfl⟩ :∃m,k=m+1:=⟨k-1,I⟩;have n64:=b.ok.n64;have h1:=b.ok.c1;have h2:=b.ok.cm;have h3:=b.ok.m4;rw[pD,b.jN.dl];by_cases hg:g<C.N
  ·obtain⟨e,rfl⟩ :∃m,e=m+1:=⟨e-1,I⟩;have hd:=b.jN.dq g hg;have ih:=Tk e k (g+1) (qz 64 l g (L1 C g)) I I (λv hv=>by
    rw[Pg I];split
    ·next e=>rw[e]
    ·exact hl v I)
   have hin:bG (g:Int) C.N:=⟨I,I⟩;have Tm:bG (g:Int) 64:=⟨I,I⟩;rw[pR,aP hin,cO,hd,Ca I];by_cases eg:(g:Int)=(i:Int)
   ·rw[aP eg,aP Tm];exact ih
   ·rw[ct eg,ct (by show ¬(C.most:Int)<1;omega),ct (by show ¬(C.most:Int)>4096;omega),aP Tm];exact ih
  ·rw[ez];exact⟨l,rfl,λv hv=>hl v I⟩
include hi
theorem Vw(hK:100<K) :∃l,uO K (⟨S.fl,S.cH⟩:eZ) (i:Int) S.dz=some (QD C i l)/\∀v,v<C.N->J l v=L1 C v:=by
 have h1:=b.ok.n1;have h2:=b.ok.n64;obtain⟨l,e1,e2⟩:=Tk (K:=K) (i:=i) b C.N K 0 (List.replicate 64 ⟨0,0⟩) I I (λv hv=>I);refine⟨l,?_,e2⟩;unfold uO mw mH;rw[ct (by show ¬S.cH<1;rw[b.jN.lw];omega),ct (by show ¬S.cH>64;rw[b.jN.lw];omega),ax,aP (by show wi (2+S.cH)>0;rw[b.jN.lw,eI I];omega),pR,tP (by show(i:Int)<S.cH;rw[b.jN.lw];omega),ax,aP rfl,aP (by show((S.dz.length:Nat):Int)=S.cH;rw[b.jN.lw,b.jN.dl]),eJ];rw[pT]at e1;rw[e1,b.jN.lb,b.jN.lw];rfl
theorem Tn(hK:100<K){S0:ag}{a:bz}(h0:S0=gA S i a)(ha:a.bg=i) :∃l,(∀M',n9 K S0 M' (i:Int)=some (gA S i {a with cG:=QD C i l,parked:=false,aD:=12}))/\∀v,v<C.N->J l v=L1 C v:=by
 obtain⟨l,e1,e2⟩:=Vw (K:=K) b hi hK;refine⟨l,λM' => ?_,e2⟩;subst h0;unfold n9 jH an;rw[cO,show J (gA S i a).ai i=a from nr (b.wl hi)];show eV (uO K (⟨S.fl,S.cH⟩:eZ) a.bg S.dz) _=_;rw[show uO K (⟨S.fl,S.cH⟩:eZ) a.bg S.dz=some (QD C i l) by rw[ha];exact e1,ax];show some ({S with ai:=(((S.ai.set i _).set i _).set i _).set i _}:ag)=_;rw[iB,iB,iB];rfl
theorem QE(h1:eD M (act S i).cG=some (o',M'))(h2:o'.dk=3)(h3:o'.ay=0)(h4:o'.dX=17):fu K S M (i:Int) D=some (BP (Am.ev 10 0 0 0),gA S i {act S i with cG:=o',aD:=13},M'):=by
 have hw:=b.wl hi;unfold fu kK;rw[xA h1 (Mh (by rw[h2];decide) h3),gj,h4,aP rfl,aP (by rw[jI];exact b.Af hi),cO];rw[show J (gA S i {act S i with cG:=o' }).ai i={act S i with cG:=o' }from nr hw,fc];show some (_,({S with ai:=(S.ai.set i _).set i _}:ag),M')=_;rw[iB];rfl
theorem QF(h1:eD M (act S i).cG=some (o',M'))(h2:o'.dk=3)(h3:o'.ay=0)(h4:o'.dX=16)(ht:(act S i).fX<3):fu K S M (i:Int) D=some (BP none,gA S i {act S i with cG:=o',aD:=9},M'):=by
 have hw:=b.wl hi;unfold fu;rw[xA h1 (Mh (by rw[h2];decide) h3),gj,h4,ct eF,aP rfl,aP (by rw[jI];exact b.Af hi),cO];rw[show J (gA S i {act S i with cG:=o' }).ai i={act S i with cG:=o' }from nr hw,aP ht];show some (_,({S with ai:=(S.ai.set i _).set i _}:ag),M')=_;rw[iB];rfl
theorem To(hK:100<K)(h1:eD M (act S i).cG=some (o',M'))(h2:o'.dk=3)(h3:o'.ay=0)(h4:o'.dX=16)(ht:¬(act S i).fX<3) :∃l,fu K S M (i:Int) D=some (BP none,gA S i {act S i with cG:=QD C i l,parked:=false,aD:=12},M')/\∀v,v<C.N->J l v=L1 C v:=by
 have hw:=b.wl hi;obtain⟨l,e1,e2⟩:=Tn (K:=K) b hi hK (S0:=gA S i {act S i with cG:=o' }) rfl (b.jN.wk i hi).self;refine⟨l,?_,e2⟩;unfold fu;rw[xA h1 (Mh (by rw[h2];decide) h3),gj,h4,ct eF,aP rfl,aP (by rw[jI];exact b.Af hi),cO];rw[show J (gA S i {act S i with cG:=o' }).ai i={act S i with cG:=o' }from nr hw,ct ht,e1,ax];rfl
theorem Vx(hK:100<K)(hp:s.pc i= .Eh):js C p sz n M (Am.aH C s i d) (fu K S M (i:Int) D):=by
 obtain⟨w1,w2,w3⟩:=b.jN.wk i hi;rw[hp]at w3;obtain⟨a1,a2,l4,l5,l1,l2⟩:=w3;have T:=b.dt.2 i hi;unfold Am.Th at T;rw[hp]at T;simp only at T;have hac:=abz b.ar b.z b.cN l1 l5;have hs:=yK l4 l5 eF eF eF hac (by rw[ct eF,ct eF,aP rfl]);unfold Am.aH;rw[hp];simp only;by_cases h1:s.mem .Eg=1
 ·rw[aP h1];rw[aP h1]at hs;exact .mk b hi (QE b hi hs l4 rfl rfl) w1 w2 rfl rfl (b.yf rfl (by rw[hp];rfl) _ _ _ _ _) (Lg.nt rfl) (by show(10:Nat)≠0;decide)
 ·rw[ct h1];rw[ct h1]at hs;by_cases h2:s.fX i<3
  ·rw[aP h2];exact .mk b hi (QF b hi hs l4 rfl rfl (by rw[show(act S i).fX=s.fX i from a2];omega)) w1 w2 rfl ⟨rfl,a2,h2⟩ (b.yf rfl (by rw[hp];rfl) _ _ _ _ _) (Lg.nt rfl) trivial
  ·rw[ct h2];obtain⟨l,e1,e2⟩:=To (D:=D) b hi hK hs l4 rfl rfl (by rw[show(act S i).fX=s.fX i from a2];omega);exact .mk b hi e1 w1 w2 rfl (.inr ⟨⟨rfl,⟨rfl,rfl,rfl,rfl,rfl,rfl⟩,e2⟩,rfl⟩) (b.yf rfl (by rw[hp];rfl) _ _ _ _ _) (Lg.nt rfl) trivial
section
variable {a:bz}
theorem zB:J (gA S i a).ai (i:Int).toNat=a:=by rw[cO];exact nr (b.wl hi)
theorem Dq{c v:Int}(h1:eD M a.cG=some (o',M'))(h2:pC o'=some (c,v)):jr (gA S i a) M (i:Int)=some (c,v,gA S i {a with cG:=o' },M'):=by
 unfold jr jH an;rw[zB b hi,h1,fc];simp only;rw[h2,fc];show some (_,_,({S with ai:=(S.ai.set i a).set i {a with cG:=o' }}:ag),M')=_;rw[iB];rfl
theorem uk(h1:eD M a.cG=some (o',M'))(h2:o'.dk=1)(h3:o'.ay≠0)(h4:o'.ay≠5∨a.parked=true):bP (gA S i a) M (i:Int) D=some (BP none,gA S i {a with cG:=o' },M'):=by
 unfold bP vn jH an;rw[Dq b hi h1 (Pe (by rw[h2];decide) h3),gj,aP rfl,aP (by rw[jI];exact b.Af hi),zB b hi];simp only;rw[aP h2,ax];by_cases e:o'.ay=5
 ·rw[aP (by rw[e];rfl),aP (h4.resolve_left (λh=>h e))];rfl
 ·rw[ct (by simpa using e)];rfl
theorem IL(h1:eD M a.cG=some (o',M'))(h2:o'.dk=1)(h3:o'.ay=5)(h4:a.parked=false):bP (gA S i a) M (i:Int) D=some (BP (Am.ev 9 0 0 0),gA S i {a with cG:=o',parked:=true},M'):=by
 unfold bP vn jH an;rw[Dq b hi h1 (Pe (by rw[h2];decide) (by rw[h3];decide)),gj,aP rfl,aP (by rw[jI];exact b.Af hi),zB b hi];simp only;rw[aP h2,ax,aP (by rw[h3];rfl),dJ h4,cO];show some (_,({S with ai:=(S.ai.set i _).set i _}:ag),M')=_;rw[iB];rfl
theorem Cy(h1:eD M a.cG=some (o',M'))(h2:o'.dk=1)(h3:o'.ay=0)(h4:o'.dX=16):bP (gA S i a) M (i:Int) D=some (BP none,gA S i {a with cG:=o',fX:=0,aD:=9},M'):=by
 unfold bP jH an;rw[Dq b hi h1 (Mh (by rw[h2];decide) h3),gj,h4,ct eF,aP rfl,aP (by rw[jI];exact b.Af hi),zB b hi,cO];show some (_,({S with ai:=((S.ai.set i _).set i _).set i _}:ag),M')=_;rw[iB,iB];rfl
theorem IM(h1:eD M a.cG=some (o',M'))(h2:o'.dk=1)(h3:o'.ay=0)(h4:o'.dX=17):bP (gA S i a) M (i:Int) D=some (BP (Am.ev 10 0 0 0),gA S i {a with cG:=o',aD:=13},M'):=by
 unfold bP kK jH an;rw[Dq b hi h1 (Mh (by rw[h2];decide) h3),gj,h4,ct eF,ct eF,aP rfl,aP (by rw[jI];exact b.Af hi),zB b hi,fc,cO];show some (_,({S with ai:=(S.ai.set i _).set i _}:ag),M')=_;rw[iB];rfl
end
theorem jL:gA S i (act S i)=S:=by
 have e:S.ai.set i (act S i)=S.ai:=by
  refine yh λk => ?_;rw[List.getElem?_set];have hw:=b.wl hi;by_cases h:i=k
  ·subst h;rw[aP rfl,aP hw];show _=_;rw[List.getElem?_eq_getElem hw];show some (J S.ai i)=_;unfold J;rw[List.getD_eq_getElem?_getD,List.getElem?_eq_getElem hw];rfl
  ·rw[ct h]
 show({S with ai:=S.ai.set i (act S i)}:ag)=S;rw[e]
end
section
variable {o o':bR}{M M':ae}{v:Int}
theorem adV(ha:o.ay=1):gh o v=some {o with ay:=2}:=by unfold gh;rw[aP ha]
theorem adW(ha:o.ay=2):gh o v=some {o with ay:=3}:=by unfold gh;rw[dJ ha,aP ha]
theorem adX(ha:o.ay=3):gh o v=if v=1 then some {o with ay:=6,jy:=17}else jg o:=by
 unfold gh oT;rw[dJ ha,dJ ha,aP ha];split
 ·rfl
 ·cases jg o<;>rfl
theorem adY(ha:o.ay=5):gh o v=if v=1 then some o else some {o with ay:=0,dX:=16,fh:=0}:=by
 unfold gh dL;rw[dJ ha,dJ ha,dJ ha,aP ha];rfl
theorem abE(ha:o.ay=6):gh o v=if v=1 then some {o with ay:=7}else some {o with ay:=0,dX:=o.jy,fh:=0}:=by
 unfold gh dL;rw[dJ ha,dJ ha,dJ ha,dJ ha,aP ha];rfl
theorem adZ(ha:o.ay=7):gh o v=some {o with ay:=0,dX:=o.jy,fh:=0}:=by
 unfold gh dL;rw[dJ ha,dJ ha,dJ ha,dJ ha,dJ ha,aP ha];rfl
theorem J9(hk:o.dk=1)(ha:o.ay=4)(hx:kW o M=some (o',M')):eD M o=some (o',M'):=by
 unfold eD;rw[dJ hk,dJ ha,eJ,aP ha,hx,fc]
theorem Tp{l':bM}(h:fo M o.look=some (l',M'))(hk:l'.kind=4):kW o M=if l'.J=0 then(if l'.code=0 then some ({o with look:=l' },M')else if l'.code=7 then some ({o with look:=l',ay:=6,jy:=16},M')else if l'.code=8 then eV (jg {o with look:=l' }) (λr=>some (r,M'))else some ({o with look:=l',ay:=0,dX:=1,fh:=0},M'))else some ({o with look:=l' },M'):=by
 unfold kW oT dL;rw[h,fc];by_cases e:l'.J=0
 ·rw[Ny (by rw[hk];decide) e,aP e,fc];rfl
 ·rw[L2 (by rw[hk];decide) e,ct e,fc,aP rfl]
theorem ad0{l:bM}(ha:l.J=2):lH l v=some {l with J:=1,t:=v}:=by unfold lH;rw[aP ha]
theorem ad1{l:bM}(ha:l.J=1):lH l v=if l.t<v then some {l with J:=0,code:=7,value:=0}else some {l with J:=0,code:=8,value:=0}:=by
 unfold lH eC;rw[dJ ha];rfl
end
section
variable {K:Nat}{C:Am.kH}{p:aJ}{s:Am.St}{S:ag}{M M':ae}{sz n i:Nat}{D:aM}{d:Int}{o:bR}
variable (b:vF C p s S M sz n)(hi:i<C.N)
include b hi
theorem Ph{k:Nat}(hw:o.bT=C.N)(hk:o.dh=k)(h:k+1=C.N):jg o=some {o with ay:=5,dh:=(k:Int)+1}:=by
 have n64:=b.ok.n64;have e:wi (o.dh+1)=(k:Int)+1:=by rw[hk,eI I]
 unfold jg;rw[e,aP (by rw[hw];omega)]
theorem Pj{k j:Nat}(hw:o.bT=C.N)(hs:o.gp=i)(hk:o.dh=k)(hd:∀v,v<C.N->J o.dz v=L1 C v)(h:ring C i j (k+1)):jg o=some {o with ay:=4,dh:=(k:Int)+1,look:=Dm C 4 2 j 0}:=by
 have n64:=b.ok.n64;have hj:=Dn h;have hlt:=h.2.1;have e:wi (o.dh+1)=(k:Int)+1:=by rw[hk,eI I]
 have ho:kq {o with ay:=4,dh:=(k:Int)+1}=some (j:Int):=J8 (k:=k+1) hi n64 hw hs (by show(k:Int)+1=((k+1:Nat):Int);omega) h;unfold jg zk;rw[e,ct (by rw[hw];omega),ho,ax,aP ⟨I,I⟩,cO,hd j hj,Bb b,ax];rfl
theorem IP{a:bz}(hr:RO C i 1 0 a)(hpk:a.parked=false):bP (gA S i a) M (i:Int) D=some (BP none,gA S i {a with cG:={a.cG with ay:=2}},nt M (M.cell.set (Am.cy C s (.flag i)).toNat 1) 1 (Am.cy C s (.flag i)) 1 0 true):=by
 obtain⟨a1,⟨l1,l2,l3,l4,l5,l6⟩,a2⟩:=hr;exact uk b hi (yK l4 l5 eF eF eF (adP b.ar b.z b.cN hi l1 l3 l5) (by rw[aP rfl];exact adV l5)) l4 (by show(2:Int)≠0;decide) (.inl (by show(2:Int)≠5;decide))
theorem Vy(hp:s.pc i= .flag)(hr:RO C i 1 0 (act S i)/\(act S i).parked=false):js C p sz n M (Am.aH C s i d) (bP S M (i:Int) D):=by
 obtain⟨w1,w2,w3⟩:=b.jN.wk i hi;have h:=IP (D:=D) b hi hr.1 hr.2;rw[jL b hi]at h;obtain⟨⟨a1,⟨l1,l2,l3,l4,l5,l6⟩,a2⟩,a3⟩:=hr;unfold Am.aH;rw[hp];simp only;exact .mk b hi h w1 w2 rfl ⟨⟨a1,⟨l1,l2,l3,l4,rfl,l6⟩,a2⟩,a3⟩ (b.Ac (c:=.flag i) rfl (by rw[hp];rfl) hi _ _ _ _ _) (Lg.nt rfl) trivial
theorem Tq(hp:s.pc i= .sleep):js C p sz n M (Am.aH C s i d) (bP S M (i:Int) D):=by
 obtain⟨w1,w2,w3⟩:=b.jN.wk i hi;rw[hp]at w3;obtain⟨⟨a1,⟨l1,l2,l3,l4,l5,l6⟩,a2⟩,a3⟩:=w3;have hs:=λo' h=>yK l4 l5 eF eF eF (adQ b.ar b.z b.cN l1 l5 (b.LZ rfl)) (o':=o') (by rw[aP rfl];exact h);have h:=uk (D:=D) b hi (a:=act S i) (hs _ (adW l5)) l4 (by show(3:Int)≠0;decide) (.inl (by show(3:Int)≠5;decide));rw[jL b hi]at h;unfold Am.aH;rw[hp];simp only;exact .mk b hi h w1 w2 rfl ⟨⟨a1,⟨l1,l2,l3,l4,rfl,l6⟩,a2⟩,a3⟩ (b.Ac (c:=.tJ) rfl (by rw[hp];rfl) trivial _ _ _ _ _) (Lg.nt rfl) trivial
theorem Mi(hp:s.pc i= .vp):js C p sz n M (Am.aH C s i d) (bP S M (i:Int) D):=by
 obtain⟨w1,w2,w3⟩:=b.jN.wk i hi;rw[hp]at w3;obtain⟨⟨a1,⟨l1,l2,l3,l4,l5,l6⟩,a2⟩,a3⟩:=w3;have hs:=λo' h=>yK l4 l5 eF eF eF (abz b.ar b.z b.cN l1 l5) (o':=o') (by rw[aP rfl];exact h);have e:=adX l5 (v:=s.mem .Eg);unfold Am.aH;rw[hp];simp only[Am.looking];by_cases h1:s.mem .Eg=1
 ·rw[aP h1]at e;rw[aP h1];have h:=uk (D:=D) b hi (a:=act S i) (hs _ e) l4 (by show(6:Int)≠0;decide) (.inl (by show(6:Int)≠5;decide));rw[jL b hi]at h;exact .mk b hi h w1 w2 rfl ⟨a3,0,⟨a1,⟨l1,l2,l3,l4,rfl,l6⟩,a2⟩,rfl⟩ (b.yf rfl (by rw[hp];rfl) _ _ _ _ _) (Lg.nt rfl) trivial
 ·rw[ct h1]at e;rw[ct h1];rcases Cx hi with ⟨e1,e2⟩ | ⟨e1,e2,e3⟩
  ·rw[Ph b hi l2 (k:=0) l6 I]at e;rw[aP e2];have h:=IL (D:=D) b hi (a:=act S i) (hs _ e) l4 rfl a3;rw[jL b hi]at h;exact .mk b hi h w1 w2 rfl ⟨rfl,_,a1,⟨l1,l2,l3,l4,rfl,rfl⟩,a2⟩ (b.yf rfl (by rw[hp];rfl) _ _ _ _ _) (Lg.nt rfl) (by show(9:Nat)≠0;decide)
  ·rw[Pj b hi l2 l3 (k:=0) l6 a2 e3]at e;rw[ct e2];have h:=uk (D:=D) b hi (a:=act S i) (hs _ e) l4 (by show(4:Int)≠0;decide) (.inl (by show(4:Int)≠5;decide));rw[jL b hi]at h;exact .mk b hi h w1 w2 rfl ⟨a3,1,⟨a1,⟨l1,l2,l3,l4,rfl,rfl⟩,a2⟩,e3,rfl,rfl,rfl,rfl⟩ (b.yf rfl (by rw[hp];rfl) _ _ _ _ _) (Lg.nt rfl) trivial
theorem Ts{j:Nat}(hp:s.pc i= .EG j):js C p sz n M (Am.aH C s i d) (bP S M (i:Int) D):=by
 obtain⟨w1,w2,w3⟩:=b.jN.wk i hi;rw[hp]at w3;obtain⟨a3,k,⟨a1,⟨l1,l2,l3,l4,l5,l6⟩,a2⟩,hr,o1,o2,o3,o4⟩:=w3;have hj:=Dn hr;have hd:=pH o1 o2 eF eF (FB b.ar b.z b.cN hj o2 o3) (by rw[ct eF,ct eF,ct eF];exact ad0 o2);have hl:=Tp hd o1;rw[ct (by show ¬(1:Int)=0;decide)]at hl;have h:=uk (D:=D) b hi (a:=act S i) (J9 l4 l5 hl) l4 (by show(act S i).cG.ay≠0;rw[show(act S i).cG.ay=4 from l5];decide) (.inl (by show(act S i).cG.ay≠5;rw[show(act S i).cG.ay=4 from l5];decide));rw[jL b hi]at h;unfold Am.aH;rw[hp];simp only;exact .mk b hi h w1 w2 rfl ⟨a3,k,⟨a1,⟨l1,l2,l3,l4,l5,l6⟩,a2⟩,hr,⟨o1,rfl,o3,o4⟩,rfl⟩ (b.yf rfl (by rw[hp];rfl) _ _ _ _ _) (Lg.nt rfl) trivial
theorem Tt{j:Nat}{t:Int}(hp:s.pc i= .Dh j t):js C p sz n M (Am.aH C s i d) (bP S M (i:Int) D):=by
 obtain⟨w1,w2,w3⟩:=b.jN.wk i hi;rw[hp]at w3;obtain⟨a3,k,⟨a1,⟨l1,l2,l3,l4,l5,l6⟩,a2⟩,hr,⟨o1,o2,o3,o4⟩,o5⟩:=w3;have hj:=Dn hr;have e:=ad1 o2 (v:=s.mem (.bot j));have hd:=λl' h=>pH o1 o2 eF eF (FA b.ar b.z b.cN hj o2 o3) (o':=l') (by rw[ct eF,ct eF,ct eF];exact h);unfold Am.aH;rw[hp];simp only[Am.looking];by_cases h1:t<s.mem (.bot j)
 ·rw[aP (by rw[o5];exact h1)]at e;rw[aP h1];have hl:=Tp (hd _ e) o1;rw[aP rfl,ct (by show ¬(7:Int)=0;decide),aP rfl]at hl;have h:=uk (D:=D) b hi (a:=act S i) (J9 l4 l5 hl) l4 (by show(6:Int)≠0;decide) (.inl (by show(6:Int)≠5;decide));rw[jL b hi]at h;exact .mk b hi h w1 w2 rfl ⟨a3,k,⟨a1,⟨l1,l2,l3,l4,rfl,l6⟩,a2⟩,rfl⟩ (b.yf rfl (by rw[hp];rfl) _ _ _ _ _) (Lg.nt rfl) trivial
 ·rw[ct (by rw[o5];exact h1)]at e;rw[ct h1];have hl:=Tp (hd _ e) o1;rw[aP rfl,ct (by show ¬(8:Int)=0;decide),ct (by show ¬(8:Int)=7;decide),aP rfl]at hl;rcases Bs hi hr with ⟨e1,e2⟩ | ⟨e1,e2,e3⟩
  ·rw[Ph b hi (o:={(act S i).cG with look:={(act S i).cG.look with J:=0,code:=8,value:=0}}) l2 (k:=k) l6 e1,ax]at hl;rw[aP e2];have h:=IL (D:=D) b hi (a:=act S i) (J9 l4 l5 hl) l4 rfl a3;rw[jL b hi]at h;exact .mk b hi h w1 w2 rfl ⟨rfl,_,a1,⟨l1,l2,l3,l4,rfl,rfl⟩,a2⟩ (b.yf rfl (by rw[hp];rfl) _ _ _ _ _) (Lg.nt rfl) (by show(9:Nat)≠0;decide)
  ·rw[Pj b hi (o:={(act S i).cG with look:={(act S i).cG.look with J:=0,code:=8,value:=0}}) l2 l3 (k:=k) l6 a2 e3,ax]at hl;rw[ct e2];have h:=uk (D:=D) b hi (a:=act S i) (J9 l4 l5 hl) l4 (by show(4:Int)≠0;decide) (.inl (by show(4:Int)≠5;decide));rw[jL b hi]at h;exact .mk b hi h w1 w2 rfl ⟨a3,k+1,⟨a1,⟨l1,l2,l3,l4,rfl,by show(k:Int)+1=((k+1:Nat):Int);omega⟩,a2⟩,e3,rfl,rfl,rfl,rfl⟩ (b.yf rfl (by rw[hp];rfl) _ _ _ _ _) (Lg.nt rfl) trivial
theorem QG(hp:s.pc i= .parked):js C p sz n M (Am.aH C s i d) (bP S M (i:Int) D):=by
 obtain⟨w1,w2,w3⟩:=b.jN.wk i hi;rw[hp]at w3;obtain⟨a3,k,a1,⟨l1,l2,l3,l4,l5,l6⟩,a2⟩:=w3;have hs:=λo' h=>yK l4 l5 eF eF eF (adR b.ar b.z b.cN hi l1 l3 l5) (o':=o') (by rw[aP rfl];exact h);have e:=adY l5 (v:=s.mem (.flag i));unfold Am.aH;rw[hp];simp only;by_cases h1:s.mem (.flag i)=1
 ·rw[aP h1]at e;rw[aP h1];have h:=uk (D:=D) b hi (a:=act S i) (hs _ e) l4 (by rw[show(act S i).cG.ay=5 from l5];decide) (.inr a3);rw[jL b hi]at h;exact .mk (a:=act S i) b hi (by rw[jL b hi];exact h) w1 w2 (q:=.parked) (by show s.pc=_;rw[<-hp,Am.qv]) ⟨a3,k,a1,⟨l1,l2,l3,l4,l5,l6⟩,a2⟩ (b.ar.same rfl rfl rfl rfl _ _ _ _ _) (Lg.nt rfl) trivial
 ·rw[ct h1]at e;rw[ct h1];have h:=Cy (D:=D) b hi (a:=act S i) (hs _ e) l4 rfl rfl;rw[jL b hi]at h;exact .mk b hi h w1 w2 rfl (Dk b hi rfl rfl (Am.bA _ _ _)) (b.yf rfl (by rw[hp];exact Dl b hi rfl) _ _ _ _ _) (Lg.nt rfl) trivial (Qt:=λj hj=>Am.be hj)
theorem Vz{w:Bool}(hp:s.pc i= .back w):js C p sz n M (Am.aH C s i d) (bP S M (i:Int) D):=by
 obtain⟨w1,w2,w3⟩:=b.jN.wk i hi;rw[hp]at w3;obtain⟨a3,k,⟨a1,⟨l1,l2,l3,l4,l5,l6⟩,a2⟩,a4⟩:=w3;have hs:=λo' h=>yK l4 l5 eF eF eF (adS b.ar b.z b.cN hi l1 l3 l5) (o':=o') (by rw[aP rfl];exact h);unfold Am.aH;rw[hp];simp only[Am.Cu];by_cases h1:s.mem (.flag i)=1
 ·have e:=abE l5 (v:=1);rw[aP rfl]at e;rw[aP h1,aP h1]at hs;rw[aP h1];have h:=uk (D:=D) b hi (a:=act S i) (hs _ e) l4 (by show(7:Int)≠0;decide) (.inl (by show(7:Int)≠5;decide));rw[jL b hi]at h;exact .mk b hi h w1 w2 rfl ⟨a3,k,⟨a1,⟨l1,l2,l3,l4,rfl,l6⟩,a2⟩,a4⟩ (b.Ac (c:=.flag i) rfl (by rw[hp];rfl) hi _ _ _ _ _) (by rw[show(s.mem (.flag i)==1)=true by rw[h1];rfl];exact Lg.nt rfl) trivial
 ·have e:=abE l5 (v:=0);rw[ct eF]at e;rw[ct h1,ct h1]at hs;rw[ct h1];have hb:(s.mem (.flag i)==1)=false:=by simpa using h1
  cases w with
  | true =>
   have h:=IM (D:=D) b hi (a:=act S i) (hs _ e) l4 rfl a4;rw[jL b hi]at h;exact .mk b hi h w1 w2 rfl rfl (b.yf rfl (by rw[hp];rfl) _ _ _ _ _) (by rw[hb];exact Lg.nt rfl) (by show(10:Nat)≠0;decide)
  | false =>
   have h:=Cy (D:=D) b hi (a:=act S i) (hs _ e) l4 rfl a4;rw[jL b hi]at h;exact .mk b hi h w1 w2 rfl (Dk b hi rfl rfl (Am.bA _ _ _)) (b.yf rfl (by rw[hp];exact Dl b hi rfl) _ _ _ _ _) (by rw[hb];exact Lg.nt rfl) trivial (Qt:=λj hj=>Am.be hj)
theorem NP{w:Bool}(hp:s.pc i= .vX w):js C p sz n M (Am.aH C s i d) (bP S M (i:Int) D):=by
 obtain⟨w1,w2,w3⟩:=b.jN.wk i hi;rw[hp]at w3;obtain⟨a3,k,⟨a1,⟨l1,l2,l3,l4,l5,l6⟩,a2⟩,a4⟩:=w3;have hs:=yK l4 l5 eF eF eF (YM b.ar b.z b.cN l1 l5 (b.LZ rfl)) (by rw[aP rfl];exact adZ l5);unfold Am.aH;rw[hp];simp only[Am.Cu];cases w with
 | true =>
  have h:=IM (D:=D) b hi (a:=act S i) hs l4 rfl a4;rw[jL b hi]at h;exact .mk b hi h w1 w2 rfl rfl (b.Ac (c:=.tJ) rfl (by rw[hp];rfl) trivial _ _ _ _ _) (Lg.nt rfl) (by show(10:Nat)≠0;decide)
 | false =>
  have h:=Cy (D:=D) b hi (a:=act S i) hs l4 rfl a4;rw[jL b hi]at h;exact .mk b hi h w1 w2 rfl (Dk b hi rfl rfl (Am.bA _ _ _)) (b.Ac (c:=.tJ) rfl (by rw[hp];exact Dl b hi rfl) trivial _ _ _ _ _) (Lg.nt rfl) trivial (Qt:=λj hj=>Am.be hj)
def Mj(C:Am.kH)(p:aJ)(sz n:Nat)(M:ae)(D':aM)(o:Am.Out)(r:Option (aj×ag×ae×aM)):Prop:=
 ∃S' M',r=some (BP o.ev,S',M',D')/\Ta C p o.s S'/\AR C o.s M' sz (n+1)/\Lg C o.s M M' o.acc/\Td o.ev
theorem js.draw{o:Am.Out}{r:Option (aj×ag×ae)}{r':Option (aj×ag×ae×aM)}(h:js C p sz n M o r)(hr:r'=pL r (λa b c=>some (a,b,c,D))):Mj C p sz n M D o r':=by
 obtain⟨S',M',rfl,h⟩:=h;exact⟨S',M',by rw[hr,dw],h⟩
theorem Tu(hK:100<K)(hp:s.pc i= .flag)(h9:(act S i).aD=9/\C.N=1):Mj C p sz n M D (Am.aH C s i d) (fT K S M (i:Int) D):=by
 obtain⟨w1,w2,w3⟩:=b.jN.wk i hi;obtain⟨l,e1,e2⟩:=Tn (K:=K) b hi hK (S0:=S) (a:=act S i) (jL b hi).symm w1;have hr:RO C i 1 0 {act S i with cG:=QD C i l,parked:=false,aD:=12}:=⟨rfl,⟨rfl,rfl,rfl,rfl,rfl,rfl⟩,e2⟩;have h:=IP (D:=D) b hi hr rfl;have hg:fT K S M (i:Int) D=pL (bP (gA S i {act S i with cG:=QD C i l,parked:=false,aD:=12}) M (i:Int) D) (λa b c=>some (a,b,c,D)):=by
  unfold fT lB jH an;rw[ax,aP (by rw[b.jN.wl];omega),e1 M,ax,aP (by rw[jI];exact b.Af hi)]
 refine js.draw b hi ?_ hg;unfold Am.aH;rw[hp];simp only;exact .mk b hi h w1 w2 rfl ⟨⟨rfl,⟨rfl,rfl,rfl,rfl,rfl,rfl⟩,e2⟩,rfl⟩ (b.Ac (c:=.flag i) rfl (by rw[hp];rfl) hi _ _ _ _ _) (Lg.nt rfl) trivial
theorem QH(hp:s.pc i= .oC):Mj C p sz n M (He D) (Am.aH C s i (Cl D)) (fT K S M (i:Int) D):=by
 obtain⟨w1,w2,w3⟩:=b.jN.wk i hi;rw[hp]at w3;obtain⟨a1,a2,a3⟩:=w3;have T:=b.dt.2 i hi;unfold Am.Th at T;rw[hp]at T;simp only at T;have n1:=b.ok.n1;have n64:=b.ok.n64;obtain⟨v,hv⟩ :∃v,v=(i+1+(Cl D%((C.N:Int)-1)).toNat)%C.N:=⟨_,rfl⟩;have hvN:v<C.N:=by rw[hv];exact Nat.mod_lt _ I
 have m0:=EA (Cl D) (b:=(C.N:Int)-1) I;have m1:=EB (Cl D) (show 0<(C.N:Int)-1 by omega);have ad2:((i:Int)+1+Cl D%((C.N:Int)-1))%(C.N:Int)=(v:Int):=by
  rw[hv];have:(i:Int)+1+Cl D%((C.N:Int)-1)=((i+1+(Cl D%((C.N:Int)-1)).toNat:Nat):Int):=by omega
  rw[this];rfl
 have hlen:=b.jN.wl;have hs:=pH (o:=Dm C 3 2 v 0) (M:=M) (k:=3) (a:=2) rfl rfl eF eF (FB b.ar b.z b.cN hvN rfl rfl) (by rw[ct eF,ct eF,aP rfl];exact abt rfl);have hact:act (gA S i {act S i with fB:=(v:Int),bf:=Dm C 3 2 v 0,aD:=10}) i={act S i with fB:=(v:Int),bf:=Dm C 3 2 v 0,aD:=10}:=nr (b.wl hi);have hst:cB (gA S i {act S i with fB:=(v:Int),bf:=Dm C 3 2 v 0,aD:=10}) M (i:Int) (He D)=some (BP none,gA S i {act S i with fB:=(v:Int),bf:={Dm C 3 2 v 0 with J:=1,t:=s.mem (.top v)},aD:=10},nt M M.cell 0 (Am.cy C s (.top v)) (s.mem (.top v)) 0 true):=by
  unfold cB jH an;rw[uZ (by rw[hact];exact hs) (L2 (by show(3:Int)≠0;decide) (by show(1:Int)≠0;decide)),gj,aP rfl,hact,L5];rfl
 have hg:fT K S M (i:Int) D=pL (cB (gA S i {act S i with fB:=(v:Int),bf:=Dm C 3 2 v 0,aD:=10}) M (i:Int) (He D)) (λa b c=>some (a,b,c,He D)):=by
  unfold fT lB jH an;rw[ax,ct (by rw[hlen];omega),ax,hlen,eI (x:=(C.N:Int)-1) I,Tj I I,ax,ax,cO,show(J S.ai i).bg=i from w1,eI (x:=(i:Int)+1) I,eI (x:=(i:Int)+1+_) I,Tj I I,ax,ad2];rw[aP (by show bG (v:Int) S.dz.length;exact⟨I,by rw[b.jN.dl];omega⟩)];unfold xx;rw[show J S.dz (v:Int).toNat=L1 C v by rw[cO];exact b.jN.dq v hvN,Bb b,ax,ax,iB,iB];rfl
 refine js.draw b hi ?_ hg;unfold Am.aH;rw[hp];simp only;rw[<-hv];exact .mk b hi hst w1 w2 rfl ⟨rfl,⟨a2,a3⟩,rfl,⟨rfl,rfl,rfl,rfl⟩,rfl⟩ (b.yf rfl (by rw[hp];rfl) _ _ _ _ _) (Lg.nt rfl) trivial
end
def jJ(C:Am.kH)(k:Int)(f:Nat)(sl:Nat)(v:Int):cg:=⟨1,C.F,f,1,0,0,k,sl,v⟩
section
variable {C:Am.kH}{s:Am.St}{M M':ae}{sz n:Nat}{o o':cg}{f:Nat}
theorem Mk(h:AR C s M sz n)(hz:Am.SZ C s)(hf:f<C.F){t:aY}(hb:t.kz=1):gH t (f:Int)=some (Am.cy C s (.join f)):=by
 have p:=h.Vh hz (a:=.join f) hf;have e:Am.cy C s (.join f)=2+10*(f:Int):=rfl;rw[e]at p;unfold gH;rw[hb,eI (x:=(1:Int)+1) I,eI (x:=(f:Int)*10) I,eI I,e];congr 1;omega
theorem WZ(h:AR C s M sz n)(hz:Am.SZ C s)(hf:f<C.F){k:Nat}(hk:k<8){t:aY}(hb:t.kz=1):jT t (f:Int) (k:Int)=some (Am.cy C s (.slot f k)):=by
 have p:=h.Vh hz (a:=.slot f k) ⟨hf,hk⟩;have e:Am.cy C s (.slot f k)=4+10*(f:Int)+k:=rfl;have e1:Am.cy C s (.join f)=2+10*(f:Int):=rfl;rw[e]at p;unfold jT;rw[Mk h hz hf hb,ax,e1,eI (x:=2+10*(f:Int)+2) I,eI I,e];congr 1;omega
theorem abF(h:AR C s M sz n)(hz:Am.SZ C s)(hf:f<C.F){t:aY}(hb:t.kz=1):mJ t (f:Int)=some (Am.cy C s (.mark f)):=by
 have p:=h.Vh hz (a:=.mark f) hf;have e:Am.cy C s (.mark f)=3+10*(f:Int):=rfl;have e1:Am.cy C s (.join f)=2+10*(f:Int):=rfl;rw[e]at p;unfold mJ;rw[Mk h hz hf hb,ax,e1,eI I,e];congr 1;omega
theorem NQ(hC:C.OK)(hf:f<C.F){k:Int}{sl:Nat}(hs:sl<8){v:Int}:j8 k (⟨1,C.F⟩:aY) (f:Int) (sl:Int) v=some (jJ C k f sl v):=by
 have h1:=hC.f1;have h2:=hC.f4;unfold j8 pz;simp only;rw[pR,pR,pR,pR,tP I,ax,aP rfl,ez,ez];rfl
theorem FC(hC:C.OK)(hf:f<C.F){k v:Int}:j8 k (⟨1,C.F⟩:aY) (f:Int) 0 v=some (jJ C k f 0 v):=NQ (sl:=0) hC hf I
theorem Ka{o:cg}(hb:o.eu=1)(hs:o.az=0):iQ o=some (o.fg,o.lN):=by
 unfold iQ;rw[ct (λe=>by rw[e]at hb;exact absurd hb eF),ez]
theorem Tv{o:cg}(hb:o.eu=1)(hs:o.az>0):iQ o=some (0,0):=by
 unfold iQ;rw[ct (λe=>by rw[e]at hb;exact absurd hb eF),aP hs]
theorem Dr(hs:o.az≠0){r:Option (Int×cg×ae)}(hr:r=some (0,o',M'))
 (hk:r=(if o.kind=0 then jz o M else if o.kind=1 then lD o M else if o.kind=2 then gi o M else if o.kind=3 then ja o M else if o.kind=4 then kT o M else kU o M)) :
 da M o=some (if o'.az>0 then({o' with az:=wi (o'.az+1)},M')else(o',M')):=by
 have fin:(if(0:Int)=0 then(if o'.az>0 then some ({o' with az:=wi (o'.az+1)},M')else some (o',M'))else eV (ei o' 1 0) (λS=>some (S,M')))=some (if o'.az>0 then({o' with az:=wi (o'.az+1)},M')else(o',M')):=by
  rw[aP rfl];split<;>rfl
 rw[hr]at hk;unfold da;rw[ct hs];split at hk
 ·rename_i h;rw[aP h,<-hk,dw];exact fin
 ·rename_i h;rw[ct h];split at hk
  ·rename_i h;rw[aP h,<-hk,dw];exact fin
  ·rename_i h;rw[ct h];split at hk
   ·rename_i h;rw[aP h,<-hk,dw];exact fin
   ·rename_i h;rw[ct h];split at hk
    ·rename_i h;rw[aP h,<-hk,dw];exact fin
    ·rename_i h;rw[ct h];split at hk
     ·rename_i h;rw[aP h,<-hk,dw];exact fin
     ·rename_i h;rw[ct h,<-hk,dw];exact fin
theorem VA(h:AR C s M sz n)(hz:Am.SZ C s)(hn:n<=2000000000)(hf:f<C.F)(hv:-1000000000000<=s.mem (.mark f)/\s.mem (.mark f)<=1000000000000) :
 da M (jJ C 4 f 0 0)=some ({jJ C 4 f 0 0 with az:=0,fg:=14,lN:=s.mem (.mark f)+1},nt M (M.cell.set (Am.cy C s (.mark f)).toNat (s.mem (.mark f)+1)) 3 (Am.cy C s (.mark f)) 1 (s.mem (.mark f)+1) true):=by
 refine Dr (o':={jJ C 4 f 0 0 with az:=0,fg:=14,lN:=s.mem (.mark f)+1}) (M':=nt M (M.cell.set (Am.cy C s (.mark f)).toNat (s.mem (.mark f)+1)) 3 (Am.cy C s (.mark f)) 1 (s.mem (.mark f)+1) true) (by show(1:Int)≠0;decide) rfl ?_;show _=kT _ _;unfold kT ei;rw[show mJ _ (jJ C 4 f 0 0).gl=some (Am.cy C s (.mark f))from abF h hz hf rfl,ax,IJ h hz hn (a:=.mark f) hf (eI I),dw];rfl
theorem YO(h:AR C s M sz n)(hz:Am.SZ C s)(hn:n<=2000000000)(hf:f<C.F)(hv:-1000000000000<=s.mem (.join f)/\s.mem (.join f)<=1000000000000) :
 da M (jJ C 1 f 0 0)=some ({jJ C 1 f 0 0 with az:=0,fg:=9,lN:=s.mem (.join f)+1},nt M (M.cell.set (Am.cy C s (.join f)).toNat (s.mem (.join f)+1)) 3 (Am.cy C s (.join f)) 1 (s.mem (.join f)+1) true):=by
 refine Dr (o':={jJ C 1 f 0 0 with az:=0,fg:=9,lN:=s.mem (.join f)+1}) (M':=nt M (M.cell.set (Am.cy C s (.join f)).toNat (s.mem (.join f)+1)) 3 (Am.cy C s (.join f)) 1 (s.mem (.join f)+1) true) (by show(1:Int)≠0;decide) rfl ?_;show _=lD _ _;unfold lD ei;rw[show gH _ (jJ C 1 f 0 0).gl=some (Am.cy C s (.join f))from Mk h hz hf rfl,ax,IJ h hz hn (a:=.join f) hf (eI I),dw];rfl
theorem Tw(h:AR C s M sz n)(hz:Am.SZ C s)(hn:n<=2000000000)(hf:f<C.F)(hb:o.eu=1)(hh:o.gl=f)(hv:-1000000000000<=s.mem (.join f)/\s.mem (.join f)<=1000000000000)(c:Int) :
 iZ o M c=some (0,(if s.mem (.join f)-1=0 then o else {o with az:=0,fg:=c,lN:=s.mem (.join f)-1}),nt M (M.cell.set (Am.cy C s (.join f)).toNat (s.mem (.join f)-1)) 3 (Am.cy C s (.join f)) (-1) (s.mem (.join f)-1) true):=by
 unfold iZ ei;rw[hh,Mk (t:=⟨o.eu,o.dV⟩) h hz hf hb,ax,IJ h hz hn (a:=.join f) hf (v:=s.mem (.join f)-1) (by rw[eI I];omega),dw,aP rfl];by_cases e:s.mem (.join f)-1=0
 ·rw[aP e,aP e]
 ·rw[ct e,ct e,ax]
theorem Pk(h:AR C s M sz n)(hz:Am.SZ C s)(hn:n<=2000000000)(hf:f<C.F)(hb:o.eu=1)(hh:o.gl=f)(c:Int) :
 iD o M c=some (0,{o with az:=0,fg:=c,lN:=0},nt M (M.cell.set (Am.cy C s (.join f)).toNat 1) 1 (Am.cy C s (.join f)) 1 0 true):=by
 unfold iD ei;rw[hh,Mk (t:=⟨o.eu,o.dV⟩) h hz hf hb,ax,uY h hz hn (a:=.join f) hf,fc,aP rfl,ax]
theorem VB(h:AR C s M sz n)(hz:Am.SZ C s)(hn:n<=2000000000)(hf:f<C.F)(hv:-1000000000000<=s.mem (.join f)/\s.mem (.join f)<=1000000000000) :
 da M (jJ C 3 f 0 0)=some ((if s.mem (.join f)-1=0 then {jJ C 3 f 0 0 with az:=2}else {jJ C 3 f 0 0 with az:=0,fg:=12,lN:=s.mem (.join f)-1}),nt M (M.cell.set (Am.cy C s (.join f)).toNat (s.mem (.join f)-1)) 3 (Am.cy C s (.join f)) (-1) (s.mem (.join f)-1) true):=by
 have e:=Tw (o:=jJ C 3 f 0 0) h hz hn hf rfl rfl hv 12;have e2:ja (jJ C 3 f 0 0) M=iZ (jJ C 3 f 0 0) M 12:=by unfold ja;rw[aP (show(jJ C 3 f 0 0).az=1 from rfl),e,dw]
 have:=Dr (o:=jJ C 3 f 0 0) (M:=M) (by show(1:Int)≠0;decide) (e2.trans e) rfl;rw[this];by_cases e:s.mem (.join f)-1=0
 ·rw[aP e,aP e,aP (by show(1:Int)>0;decide)];rfl
 ·rw[ct e,ct e,ct (by show ¬(0:Int)>0;decide)]
theorem YP(h:AR C s M sz n)(hz:Am.SZ C s)(hn:n<=2000000000)(hf:f<C.F){k:Nat}(hk:k<8)(v:Int) :
 da M (jJ C 2 f k v)=some ({jJ C 2 f k v with az:=2},nt M (M.cell.set (Am.cy C s (.slot f k)).toNat v) 1 (Am.cy C s (.slot f k)) v 0 true):=by
 have e:gi (jJ C 2 f k v) M=some (0,jJ C 2 f k v,nt M (M.cell.set (Am.cy C s (.slot f k)).toNat v) 1 (Am.cy C s (.slot f k)) v 0 true):=by
  unfold gi;rw[aP (show(jJ C 2 f k v).az=1 from rfl),show jT _ (jJ C 2 f k v).gl (jJ C 2 f k v).slot=some (Am.cy C s (.slot f k))from WZ h hz hf hk rfl,ax,show(jJ C 2 f k v).K5=v from rfl,uY h hz hn (a:=.slot f k) ⟨hf,hk⟩,fc]
 have:=Dr (o:=jJ C 2 f k v) (M:=M) (by show(1:Int)≠0;decide) e rfl;rw[this,aP (by show(1:Int)>0;decide)];rfl
theorem VC(h:AR C s M sz n)(hz:Am.SZ C s)(hn:n<=2000000000)(hf:f<C.F){k:Nat}(hk:k<8) :
 da M (jJ C 5 f k 0)=some ({jJ C 5 f k 0 with az:=0,fg:=15,lN:=s.mem (.slot f k)},nt M M.cell 0 (Am.cy C s (.slot f k)) (s.mem (.slot f k)) 0 true):=by
 have e:kU (jJ C 5 f k 0) M=some (0,{jJ C 5 f k 0 with az:=0,fg:=15,lN:=s.mem (.slot f k)},nt M M.cell 0 (Am.cy C s (.slot f k)) (s.mem (.slot f k)) 0 true):=by
  unfold kU ei;rw[show jT _ (jJ C 5 f k 0).gl (jJ C 5 f k 0).slot=some (Am.cy C s (.slot f k))from WZ h hz hf hk rfl,ax,xY h hz hn (a:=.slot f k) ⟨hf,hk⟩,dw];rfl
 have:=Dr (o:=jJ C 5 f k 0) (M:=M) (by show(1:Int)≠0;decide) e rfl;rw[this,ct (by show ¬(0:Int)>0;decide)]
theorem VD(h:AR C s M sz n)(hz:Am.SZ C s)(hn:n<=2000000000)(hv:0<=s.mem .next/\s.mem .next<=1000000000000) :
 da M (jJ C 0 0 0 0)=some ((if s.mem .next+1<=C.F then {jJ C 0 0 0 0 with az:=0,fg:=4,lN:=s.mem .next}else {jJ C 0 0 0 0 with az:=0,fg:=3,lN:=0}),nt M (M.cell.set (Am.cy C s .next).toNat (s.mem .next+1)) 3 (Am.cy C s .next) 1 (s.mem .next+1) true):=by
 have e:jz (jJ C 0 0 0 0) M=some (0,(if s.mem .next+1<=C.F then {jJ C 0 0 0 0 with az:=0,fg:=4,lN:=s.mem .next}else {jJ C 0 0 0 0 with az:=0,fg:=3,lN:=0}),nt M (M.cell.set (Am.cy C s .next).toNat (s.mem .next+1)) 3 (Am.cy C s .next) 1 (s.mem .next+1) true):=by
  unfold jz ou ei;rw[ax,show(⟨(jJ C 0 0 0 0).eu,(jJ C 0 0 0 0).dV⟩:aY).kz=Am.cy C s .next from rfl,IJ h hz hn (a:=.next) trivial (eI I),dw,aP rfl,pR,ax];by_cases e:s.mem .next+1<=C.F
  ·rw[aP e,aP (by show decide (s.mem .next+1<=(C.F:Int))=true;exact tP e),eI I,show s.mem .next+1-1=s.mem .next by omega];rfl
  ·rw[ct e,ct (by show ¬decide (s.mem .next+1<=(C.F:Int))=true;simpa using e)];rfl
 have:=Dr (o:=jJ C 0 0 0 0) (M:=M) (by show(1:Int)≠0;decide) e rfl;rw[this];by_cases e:s.mem .next+1<=C.F
 ·rw[aP e,ct (by show ¬(0:Int)>0;decide)]
 ·rw[ct e,ct (by show ¬(0:Int)>0;decide)]
end
section
variable {K:Nat}{C:Am.kH}{p:aJ}{s:Am.St}{S:ag}{M M':ae}{sz n i f:Nat}{D:aM}{d:Int}{o':cg}
variable (b:vF C p s S M sz n)(hi:i<C.N)
include b hi
theorem FD(hb:Am.busy (Am.sig (s.pc i))=true) :∃f,s.hold i=some f/\f<s.nf/\f<C.F/\(act S i).au=f:=by
 obtain⟨f,hh⟩:=Am.sA b.fi hi hb;have h:=(Am.rF b.fi hi hh).2;exact⟨f,hh,h,Nat.lt_of_lt_of_le h b.fi.wj,by rw[show(act S i).au=fi (s.hold i)from(b.jN.wk i hi).au,hh];rfl⟩
theorem QI:(⟨S.dA,S.cJ⟩:aY)=⟨1,C.F⟩:=by rw[b.jN.tb,b.jN.tf]
theorem Ml{a:bz}{c v:Int}(h1:da M a.dK=some (o',M'))(h2:iQ o'=some (c,v)):eR (gA S i a) M (i:Int)=some (c,v,gA S i {a with dK:=o' },M'):=by
 unfold eR jH an;rw[zB b hi,h1,fc];simp only;rw[h2,fc,cO];show some (_,_,({S with ai:=(S.ai.set i a).set i {a with dK:=o' }}:ag),M')=_;rw[iB];rfl
theorem Tx{x:Int}(hp:s.pc i= .start x):js C p sz n M (Am.aH C s i d) (jo S M (i:Int) D):=by
 obtain⟨w1,w2,w3⟩:=b.jN.wk i hi;obtain⟨f,hh,hn,hF,hfr⟩:=FD b hi (by rw[hp];rfl);rw[hp]at w3;obtain⟨a1,a2⟩:=w3;have hs:=VA b.ar b.z b.cN hF (b.LZ rfl);have h:=Ml b hi (a:={act S i with dK:=jJ C 4 f 0 0}) hs (Ka rfl rfl);unfold Am.aH;rw[hp];simp only[hh,oJ];refine .mk (a:={act S i with dK:={jJ C 4 f 0 0 with az:=0,fg:=14,lN:=s.mem (.mark f)+1},aD:=1}) b hi ?_ w1 w2 rfl rfl (b.Ac (c:=.mark f) rfl (by rw[hp];rfl) hF _ _ _ _ _) (Lg.nt rfl) (by show(1:Nat)≠0;decide);unfold jo vU jH an;rw[QI b hi,cO,hfr,FC b.ok hF,ax,ax];rw[show({S with ai:=S.ai.set i {J S.ai i with dK:=jJ C 4 f 0 0}}:ag)=gA S i {act S i with dK:=jJ C 4 f 0 0}from rfl,h,gj,aP rfl,aP (by rw[jI];exact b.Af hi),show J (gA S i _).ai i=_ from nr (b.wl hi)];show some ((⟨0,0,1,(act S i).au,(act S i).from_,s.mem (.mark f)+1⟩:aj),({S with ai:=(S.ai.set i _).set i _}:ag),_)=_;rw[iB];refine mX some (Ak ?_ rfl);show(⟨0,0,1,(act S i).au,(act S i).from_,s.mem (.mark f)+1⟩:aj)=_;rw[hfr,show(act S i).from_=x from a2];rfl
theorem VE{c:Nat}(hp:s.pc i= .fork c):js C p sz n M (Am.aH C s i d) (jK S M (i:Int) D):=by
 obtain⟨w1,w2,w3⟩:=b.jN.wk i hi;obtain⟨f,hh,hn,hF,hfr⟩:=FD b hi (by rw[hp];rfl);rw[hp]at w3;obtain⟨a1,a2⟩:=w3;have hs:=YO b.ar b.z b.cN hF (b.LZ rfl);have h:=Ml b hi (a:={act S i with dK:=jJ C 1 f 0 0}) hs (Ka rfl rfl);unfold Am.aH;rw[hp];simp only[hh,oJ];refine .mk (a:={act S i with dK:={jJ C 1 f 0 0 with az:=0,fg:=9,lN:=s.mem (.join f)+1},bf:=Dm C 1 1 i c,aD:=3}) b hi ?_ w1 w2 rfl ⟨rfl,a2,⟨rfl,rfl,rfl,rfl⟩,rfl⟩ (b.Ac (c:=.join f) rfl (by rw[hp];rfl) hF _ _ _ _ _) (Lg.nt rfl) trivial;unfold jK xw jH an;rw[QI b hi,cO,hfr,FC b.ok hF,ax,ax];rw[show({S with ai:=S.ai.set i {J S.ai i with dK:=jJ C 1 f 0 0}}:ag)=gA S i {act S i with dK:=jJ C 1 f 0 0}from rfl,h,gj,aP rfl,aP (by rw[jI];exact b.Af hi),show J (gA S i _).ai i=_ from nr (b.wl hi)];unfold lY zh;rw[aP (by show bG (act S i).bg S.dz.length;rw[show(act S i).bg=i from w1];exact⟨I,by rw[b.jN.dl];omega⟩),ax];rw[show J (gA S i _).dz (Int.toNat _)=L1 C i from(by show J S.dz (act S i).bg.toNat=_;rw[show(act S i).bg=i from w1,cO];exact b.jN.dq i hi)];show eV (eV (n3 1 1 (L1 C i) (act S i).bU) _) _=_;rw[show n3 1 1 (L1 C i) (act S i).bU=some (Dm C 1 1 i c) by rw[show(act S i).bU=c from a2];exact Bb b _ _ _ _,ax,ax];show some (_,({S with ai:=((S.ai.set i _).set i _).set i _}:ag),_)=_;rw[iB,iB];rfl
theorem QJ{S0:ag}{a:bz}(h0:S0=gA S i a)(ha:a.bg=i)(M':ae):jw S0 M' (i:Int)=some (gA S i {a with bf:=Dm C 2 1 i 0,aD:=8}):=by
 subst h0;unfold jw lY yI jH an;rw[zB b hi,ha,aP (by show bG (i:Int) S.dz.length;exact⟨I,by rw[b.jN.dl];omega⟩),ax,cO,show J (gA S i a).dz i=L1 C i from b.jN.dq i hi,Bb b,ax,ax];show some ({S with ai:=((S.ai.set i _).set i _).set i _}:ag)=_;rw[iB,iB,<-ha];rfl
end
def kB(S:ag)(T:List aR):ag:={S with aG:=T}
section
variable {K:Nat}{C:Am.kH}{p:aJ}{s:Am.St}{S:ag}{M M':ae}{sz n i f:Nat}{D:aM}{d:Int}{o':cg}{T:List aR}{a:bz}
variable (b:vF C p s S M sz n)(hi:i<C.N)
include b hi
theorem vr:J (gA (kB S T) i a).ai (i:Int).toNat=a:=by rw[cO];exact nr (b.wl hi)
theorem Ty:bG (i:Int) (gA (kB S T) i a).ai.length:=by rw[jI];exact b.Af hi
theorem wP{c v:Int}(h1:da M a.dK=some (o',M'))(h2:iQ o'=some (c,v)):eR (gA (kB S T) i a) M (i:Int)=some (c,v,gA (kB S T) i {a with dK:=o' },M'):=by
 unfold eR jH an;rw[vr b hi,h1,fc];simp only;rw[h2,fc,cO];show some (_,_,({S with aG:=T,ai:=(S.ai.set i a).set i {a with dK:=o' }}:ag),M')=_;rw[iB];rfl
theorem VF(ha:a.bg=i)(M':ae):jw (gA (kB S T) i a) M' (i:Int)=some (gA (kB S T) i {a with bf:=Dm C 2 1 i 0,aD:=8}):=by
 unfold jw lY yI jH an;rw[vr b hi,aP (by rw[ha];show bG (i:Int) S.dz.length;exact⟨I,by rw[b.jN.dl];omega⟩),ax];rw[show J (gA (kB S T) i a).dz a.bg.toNat=L1 C i from(by rw[ha,cO];exact b.jN.dq i hi),Bb b,ax,ax,cO];show some ({S with aG:=T,ai:=((S.ai.set i _).set i _).set i _}:ag)=_;rw[iB,iB];rfl
theorem Tz(h1:da M a.dK=some (o',M'))(h2:o'.eu=1)(h3:o'.az>0):dg (gA (kB S T) i a) M (i:Int) D=some (BP none,gA (kB S T) i {a with dK:=o' },M'):=by
 unfold dg jH an;rw[wP b hi h1 (Tv h2 h3),gj,aP rfl];rfl
theorem QK(h1:da M a.dK=some (o',M'))(h2:o'.eu=1)(h3:o'.az=0)(h4:o'.fg=13)(hf:a.au=f):dg (gA (kB S T) i a) M (i:Int) D=some (BP (Am.ev 5 f 0 0),gA (kB S T) i {a with dK:=o',aD:=1},M'):=by
 unfold dg jH an;rw[wP b hi h1 (Ka h2 h3),gj,h4,ct eF,aP rfl,aP (Ty b hi),vr b hi,vr b hi,cO];show some ((⟨0,0,5,a.au,0,0⟩:aj),({S with aG:=T,ai:=(S.ai.set i _).set i _}:ag),M')=_;rw[iB];refine mX some (Ak ?_ rfl);show(⟨0,0,5,a.au,0,0⟩:aj)=_;rw[hf];rfl
theorem QL(ha:a.bg=i)(h1:da M a.dK=some (o',M'))(h2:o'.eu=1)(h3:o'.az=0)(h4:o'.fg=12)(hf:a.au=f):dg (gA (kB S T) i a) M (i:Int) D=some (BP (Am.ev 4 f 0 0),gA (kB S T) i {a with dK:=o',au:=-1,bf:=Dm C 2 1 i 0,aD:=8},M'):=by
 unfold dg jH an;rw[wP b hi h1 (Ka h2 h3),gj,h4,ct eF,ct eF,aP rfl,aP (Ty b hi),vr b hi,vr b hi,cO];have e:({gA (kB S T) i {a with dK:=o' }with ai:=(gA (kB S T) i {a with dK:=o' }).ai.set i {({a with dK:=o' }:bz)with au:=-1}}:ag)=gA (kB S T) i {a with dK:=o',au:=-1}:=by
  show({S with aG:=T,ai:=(S.ai.set i _).set i _}:ag)=_;rw[iB];rfl
 rw[e,VF b hi (a:={a with dK:=o',au:=-1}) ha,ax];refine mX some (Ak ?_ rfl);show(⟨0,0,4,a.au,0,0⟩:aj)=_;rw[hf];rfl
theorem NR:gA (kB S S.aG) i (act S i)=S:=jL b hi
theorem NS(hp:s.pc i= .rR):js C p sz n M (Am.aH C s i d) (dg S M (i:Int) D):=by
 obtain⟨w1,w2,w3⟩:=b.jN.wk i hi;obtain⟨f,hh,hn,hF,hfr⟩:=FD b hi (by rw[hp];rfl);rw[hp]at w3;obtain⟨a1,t1,t2,t3,t4,t5⟩:=w3;have t3:(act S i).dK.gl=f:=by rw[show(act S i).dK.gl=((act S i).au.toNat:Int)from t3,hfr];rfl
 have e:=Pk (o:=(act S i).dK) b.ar b.z b.cN hF t1 t3 13;have e2:ja (act S i).dK M=iD (act S i).dK M 13:=by
  unfold ja;rw[dJ t4,e,dw]
 have hs:=Dr (o:=(act S i).dK) (M:=M) (by rw[t4];decide) (e2.trans e) (by rw[t5];rfl);rw[ct (by show ¬(0:Int)>0;decide)]at hs;have h:=QK (D:=D) (T:=S.aG) (a:=act S i) b hi hs t1 rfl rfl hfr;rw[NR b hi]at h;unfold Am.aH;rw[hp];simp only[hh,oJ];exact .mk b hi h w1 w2 rfl rfl (b.Ac (c:=.join f) rfl (by rw[hp];rfl) hF _ _ _ _ _) (Lg.nt rfl) (by show(5:Nat)≠0;decide)
theorem TA(h1:da M (act S i).dK=some (o',M'))(h2:o'.eu=1)(h3:o'.az=0)(h4:o'.fg=10):eO S M (i:Int) D=some (BP none,gA S i {act S i with dK:=o',bf:=Dm C 2 1 i 0,aD:=8},M'):=by
 have w1:=(b.jN.wk i hi).self;unfold eO jH an;rw[J4 h1 (Ka h2 h3),gj,h4,ct eF,aP rfl,aP (by rw[jI];exact b.Af hi),QJ b hi (a:={act S i with dK:=o' }) rfl w1,ax];rfl
theorem TB(h1:da M (act S i).dK=some (o',M'))(h2:o'.eu=1)(h3:o'.az=0)(h4:o'.fg=11)(hin:bG (act S i).done S.aG.length):eO S M (i:Int) D=some ((⟨0,0,7,(J S.aG (act S i).done.toNat).parent,(act S i).done,0⟩:aj),gA S i {act S i with dK:=o',au:=(J S.aG (act S i).done.toNat).parent,aD:=1},M'):=by
 unfold eO dY jH an;rw[J4 h1 (Ka h2 h3),gj,h4,ct eF,ct eF,aP rfl,aP (by rw[jI];exact b.Af hi),cO,show J (gA S i {act S i with dK:=o' }).ai i={act S i with dK:=o' }from nr (b.wl hi)];rw[aP (by exact hin),je,aP (by exact hin)];show some ((⟨0,0,7,(J S.aG (act S i).done.toNat).parent,(act S i).done,0⟩:aj),({S with ai:=((S.ai.set i _).set i _).set i _}:ag),_)=_;rw[iB,iB];rfl
theorem YQ{pp c:Nat}(hp:s.pc i= .out pp c):js C p sz n M (Am.aH C s i d) (eO S M (i:Int) D):=by
 obtain⟨w1,w2,w3⟩:=b.jN.wk i hi;have hg:(Am.view s).g i= .out pp c:=by show Am.sig (s.pc i)=_;rw[hp];rfl
 obtain⟨q1,q2,q3,q4,q5,q6⟩:=b.fi.gO hi hg;have hF:pp<C.F:=Nat.lt_of_lt_of_le q3 b.fi.wj;rw[hp]at w3;obtain⟨a1,a2,t1,t2,t3,t4,t5⟩:=w3;have e:=Tw (o:=(act S i).dK) b.ar b.z b.cN hF t1 t3 (b.LZ rfl) 10;have e2:gi (act S i).dK M=iZ (act S i).dK M 10:=by
  unfold gi;rw[dJ t4,aP t4,e,dw]
 have hs:=Dr (o:=(act S i).dK) (M:=M) (by rw[t4];decide) (e2.trans e) (by rw[t5];rfl);unfold Am.aH;rw[hp];simp only;by_cases h0:s.mem (.join pp)-1=0
 ·rw[aP h0];rw[aP h0,aP (by rw[t4];decide)]at hs;have hst:wi ((act S i).dK.az+1)=3:=by rw[t4];rfl
  refine .mk (a:={act S i with dK:={(act S i).dK with az:=wi ((act S i).dK.az+1)}}) b hi ?_ w1 w2 rfl ⟨a1,a2,t1,t2,t3,hst,t5⟩ (b.Ac (c:=.join pp) rfl (by rw[hp];rfl) hF _ _ _ _ _) (Lg.nt rfl) trivial;unfold eO jH an;rw[J4 hs (Tv t1 (by show wi ((act S i).dK.az+1)>0;rw[hst];decide)),gj,aP rfl];rfl
 ·rw[ct h0];rw[ct h0,ct (by show ¬(0:Int)>0;decide)]at hs;exact .mk b hi (TA b hi hs t1 rfl rfl) w1 w2 rfl ⟨rfl,⟨rfl,rfl,rfl,rfl⟩,rfl,rfl⟩ (b.Ac (c:=.join pp) rfl (by rw[hp];rfl) hF _ _ _ _ _) (Lg.nt rfl) trivial
theorem VG{pp c:Nat}(hp:s.pc i= .take pp c):js C p sz n M (Am.aH C s i d) (eO S M (i:Int) D):=by
 obtain⟨w1,w2,w3⟩:=b.jN.wk i hi;have hg:(Am.view s).g i= .take pp c:=by show Am.sig (s.pc i)=_;rw[hp];rfl
 obtain⟨q6,q2,q4⟩:=b.fi.tp i pp c hi hg;have q3:pp<s.nf:=q4▸ b.fi.pr c q2;have hF:pp<C.F:=Nat.lt_of_lt_of_le q3 b.fi.wj;rw[hp]at w3;obtain⟨a1,a2,t1,t2,t3,t4,t5⟩:=w3;have e:=Pk (o:=(act S i).dK) b.ar b.z b.cN hF t1 t3 11;have e2:gi (act S i).dK M=iD (act S i).dK M 11:=by
  unfold gi;rw[dJ t4,dJ t4,e,dw]
 have hs:=Dr (o:=(act S i).dK) (M:=M) (by rw[t4];decide) (e2.trans e) (by rw[t5];rfl);rw[ct (by show ¬(0:Int)>0;decide)]at hs;have QM:(J S.aG (act S i).done.toNat).parent=pp:=by
  rw[show(act S i).done=c from a2,cO,(b.jN.tk c q2).par,ct q6];rw[show pp=(s.fr c).par from q4]
 have hin:bG (act S i).done S.aG.length:=by rw[show(act S i).done=c from a2];exact b.task q2
 unfold Am.aH;rw[hp];simp only;refine .mk b hi ((TB b hi hs t1 rfl rfl hin).trans (mX some (Ak ?_ rfl))) w1 (by show(J S.aG (act S i).done.toNat).parent=fi (Am.cY s.hold i (some pp) i);rw[QM,Am.bA];rfl) rfl rfl (b.Ac (c:=.join pp) rfl (by rw[hp];rfl) hF _ _ _ _ _) (Lg.nt rfl) (by show(7:Nat)≠0;decide) (hh:=λj hj=>Am.be hj);show(⟨0,0,7,(J S.aG (act S i).done.toNat).parent,(act S i).done,0⟩:aj)=_;rw[QM,show(act S i).done=c from a2];rfl
end
end Mo
end
end Go.Proofs.YtpikpffbcjpmcaaGreatDoor

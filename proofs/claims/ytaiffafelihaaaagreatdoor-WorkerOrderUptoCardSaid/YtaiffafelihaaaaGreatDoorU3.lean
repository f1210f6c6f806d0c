/- plunderlaw11.WorkerOrder answers true for every input of the bulk that the statement names, and leaves its input alone. Conditions: none. -/
import Derived.Test.YtaiffafelihaaaaGreatDoorU2
set_option linter.unusedVariables false
set_option linter.unusedSimpArgs false
set_option linter.unusedSectionVars false
set_option maxRecDepth 100000
set_option maxHeartbeats 4000000
set_option autoImplicit true
set_option relaxedAutoImplicit true
namespace Go.Proofs.YtaiffafelihaaaaGreatDoor
open Proofs.Tryz
section
namespace Mo
open Go SL GX
section
variable {K:Nat}
abbrev ar(sz:Int)(c:List Int)(l:List aR)(a:Int)(w:Bool):af:=⟨sz,(c.length:Nat),c,l,a,w⟩
def xl(w:Bool)(l xs:List aR):List aR:=if w then l++xs else l
theorem Ab(w:Bool)(l xs ys:List aR):xl w (xl w l xs) ys=xl w l (xs++ys):=by cases w<;>simp[xl]
theorem JS(w:Bool)(l:List aR):xl w l []=l:=by cases w<;>simp[xl]
theorem yd(w:Bool)(l xs:List aR):(xl w l xs).length<=l.length+xs.length:=by cases w<;>simp[xl]
theorem JT{sz:Int}{m:Int}{c:List Int}{l:List aR}{a:Int}{w:Bool}(hl:l.length<=2000000000)(k d x y:Int)(ok:Bool) :
 gb ⟨sz,m,c,l,a,w⟩ k d x y ok=some ⟨sz,m,c,xl w l [⟨a,k,d,x,y,ok⟩],a,w⟩:=by
 unfold gb xl;cases w
 ·rfl
 ·rw[aW rfl,aW (by show(l.length+1)*48<=_;omega)];rfl
theorem JU{sz:Int}{c:List Int}{l:List aR}{a:Int}{w:Bool}(hl:l.length<=2000000000)(hs:sz<=2000000000){n:Int}(h1:1<=n)(hn:(c.length:Int)+n<=sz) :
 fO (ar sz c l a w) n=some (((c.length:Nat):Int),0,ar sz (c++List.replicate n.toNat 0) (xl w l [⟨a,4,(c.length:Nat),n,0,true⟩]) a w):=by
 unfold fO my pn;rw[jm,eG,eF (by show -9223372036854775808<=sz-(c.length:Nat)/\sz-(c.length:Nat)<=9223372036854775807;omega),cF (by show ¬n>sz-(c.length:Nat);omega),ay,aW rfl,fh,
  aW ⟨aB,by show(c.length+n.toNat)*8<=_;omega⟩,JT hl,ay,eF (by show -9223372036854775808<=((c.length:Nat):Int)+n/\((c.length:Nat):Int)+n<=9223372036854775807;omega)]
 simp only[ar,jP,lY];rw[show((c.length+n.toNat:Nat):Int)=((c.length:Nat):Int)+n by omega]
theorem JV{sz:Int}{c:List Int}{l:List aR}{a:Int}{w:Bool}(hs:sz<=2000000000)(hs0:0<=sz)(hc:c.length<=2000000000){n:Int}(h1:1<=n)(hn:¬(c.length:Int)+n<=sz) :
 fO (ar sz c l a w) n=some (0,22,ar sz c l a w):=by
 unfold fO my;rw[jm,eG,eF (by show -9223372036854775808<=sz-(c.length:Nat)/\sz-(c.length:Nat)<=9223372036854775807;omega),aW (by show n>sz-(c.length:Nat);omega),ay,cF eL]
theorem SK{sz:Int}{c:List Int}{l:List aR}{a:Int}{w:Bool}{d:Int}(h0:0<=d)(h1:d<(c.length:Nat)):ic (ar sz c l a w) d=some false:=by
 unfold ic ql;rw[aW h0,ay];simp[h1]
theorem Nr{sz:Int}{c:List Int}{l:List aR}{a:Int}{w:Bool}(hl:l.length<=2000000000){d v:Int}(h0:0<=d)(h1:d<(c.length:Nat)) :
 dY (ar sz c l a w) d v=some (0,ar sz (c.set d.toNat v) (xl w l [⟨a,1,d,v,0,true⟩]) a w):=by
 unfold dY;rw[SK h0 h1,ay,cF eL,aW ⟨h0,h1⟩,JT hl,ay];simp only[ar,hU]
theorem Ym{sz:Int}{c:List Int}{l:List aR}{a:Int}{w:Bool}(hl:l.length<=2000000000){d v:Int}(h0:0<=d)(h1:d<(c.length:Nat)) :
 iM (ar sz c l a w) d v=some (wi (J c d.toNat+v),0,ar sz (c.set d.toNat (wi (J c d.toNat+v))) (xl w l [⟨a,3,d,v,wi (J c d.toNat+v),true⟩]) a w):=by
 unfold iM;have h2:d.toNat<c.length:=by omega
 rw[SK h0 h1,ay,cF eL,aW ⟨h0,h1⟩,aW ⟨h0,by rw[hU];exact h1⟩,JT hl,ay,aW ⟨h0,by show d<(((c.set d.toNat _).length:Nat):Int);rw[hU];exact h1⟩];simp only[ar,hU];rw[tC h2]
def pR(sz:Int):List aR->List aR
 | []=>[]
 | x::xs=>if x.aL=4/\x.Addr+x.A>sz then []else x::pR sz xs
theorem EW{sz:Int}:∀(xs ys:List aR),(∀x∈xs,x.aL≠4)->pR sz (xs++ys)=xs++pR sz ys
 | [],ys,_=>rfl
 | x::xs,ys,h=>by
  rw[sQ,pR,cF (λe=>h x (by simp) e.1),EW xs ys (λy hy=>h y (Ku _ hy))];rfl
theorem LW{sz:Int}:∀(xs ys:List aR),pR sz xs=xs->pR sz (xs++ys)=xs++pR sz ys
 | [],ys,_=>rfl
 | x::xs,ys,h=>by
  rw[pR]at h;by_cases e:x.aL=4/\x.Addr+x.A>sz
  ·rw[aW e]at h;exact absurd h (by simp)
  ·rw[cF e]at h;rw[sQ,pR,cF e,LW xs ys (List.cons.inj h).2];rfl
def JW(a:Int)(i:Nat):Nat->List aR
 | 0=>[]
 | d+1=>⟨a,1,2+10*(i:Int),1,0,true⟩::JW a (i+1) d
theorem LX{a:Int}:∀(d i:Nat),∀x∈JW a i d,x.aL≠4
 | 0,i,x,h=>by simp[JW]at h
 | d+1,i,x,h=>by
  rcases List.mem_cons.1 h with rfl | h
  ·show(1:Int)≠4;decide
  ·exact LX d (i+1) x h
theorem O4{a:Int}:∀(d i:Nat),(JW a i d).length=d
 | 0,i=>rfl
 | d+1,i=>by rw[JW,Ad,O4 d (i+1)]
def FP(a first:Int):Int->Nat->List aR
 | _,0=>[]
 | J,d+1=>⟨a,4,J,4+first,0,true⟩::⟨a,1,J+2,J+3,0,true⟩::⟨a,1,J+3,first,0,true⟩::FP a first (J+(4+first)) d
theorem O5{a first:Int}:∀(d:Nat) (J:Int),(FP a first J d).length=3*d
 | 0,_=>rfl
 | d+1,_=>by rw[FP,Ad,Ad,Ad,O5 d];omega
structure WV(F first most:Int):Prop where
 f1:1<=F
 f2:F<=4096
 a1:1<=first
 a2:first<=most
 m2:most<=4096
theorem Qm(p:aM)(args:List Int)(n:Int)(l:eM)(hK:3000<K) :∃e:Int,nq K p args n l=some e/\mW K p args n l=some e/\(e=0∨e=110∨e=111∨e=60∨e=61)/\(e=0->Valid p/\(args.length:Int)=(J p.ak 0).aV/\1<=n/\n<=64/\WV l.cA l.dS l.jL):=by
 obtain⟨x,e1,e2,e3⟩:=Sv (K:=K) p hK;unfold nq mW;rw[e1,e2,ay,ay];by_cases hx:x.OA=0
 ·have hv:=e3 hx;have:=hv.n1;have hi:bI (0:Int) p.ak.length:=⟨eL,aB⟩;rw[aW hx,aW hx,aW hi,aW hi];by_cases ha:((args.length:Nat):Int)=(J p.ak 0).aV
  ·rw[aW ha,aW ha];unfold qf kq qk;by_cases h1:n<1
   ·rw[aW h1,cF (show ¬n>=1 by omega)];exact⟨110,rfl,rfl,by simp,λh=>absurd h eL⟩
   ·rw[cF h1,aW (show n>=1 by omega)];by_cases h2:n>64
    ·rw[aW h2,Iy (show ¬n<=64 by omega)];exact⟨110,rfl,rfl,by simp,λh=>absurd h eL⟩
    ·rw[cF h2,tR (show n<=64 by omega),ay,aW rfl];by_cases g1:l.cA<1
     ·rw[aW g1,cF (show ¬l.cA>=1 by omega)];exact⟨111,rfl,rfl,by simp,λh=>absurd h eL⟩
     rw[cF g1,aW (show l.cA>=1 by omega)];by_cases g2:l.cA>4096
     ·rw[aW g2,cF (show ¬l.cA<=4096 by omega)];exact⟨111,rfl,rfl,by simp,λh=>absurd h eL⟩
     rw[cF g2,aW (show l.cA<=4096 by omega)];by_cases g3:l.dS<1
     ·rw[aW g3,cF (show ¬(1:Int)<=l.dS by omega)];exact⟨111,rfl,rfl,by simp,λh=>absurd h eL⟩
     rw[cF g3,aW (show(1:Int)<=l.dS by omega)];by_cases g4:l.dS>l.jL
     ·rw[aW g4,cF (show ¬l.dS<=l.jL by omega)];exact⟨111,rfl,rfl,by simp,λh=>absurd h eL⟩
     rw[cF g4,aW (show l.dS<=l.jL by omega)];by_cases g5:l.jL>4096
     ·rw[tR g5,Iy (show ¬l.jL<=4096 by omega)];exact⟨111,rfl,rfl,by simp,λh=>absurd h eL⟩
     ·rw[Iy g5,tR (show l.jL<=4096 by omega)];exact⟨0,rfl,rfl,.inl rfl,λ_=>⟨hv,ha,aB,aB,⟨aB,aB,aB,aB,aB⟩⟩⟩
  ·rw[cF ha,cF ha];exact⟨61,rfl,rfl,by simp,λh=>absurd h eL⟩
 ·rw[cF hx,cF hx];exact⟨60,rfl,rfl,by simp,λh=>absurd h eL⟩
structure GY(N F W:Nat)(first:Int)(c:List Int):Prop where
 len:c.length=4+10*F+N+N*W
 c0:J c 0=0
 c1:J c 1=1
 fr:∀f,f<F->∀r,r<10->J c (2+10*f+r)=if r=0 then 1 else 0
 lot:∀r,r<2+N->J c (2+10*F+r)=0
 dq:∀i,i<N->∀r,r<W->J c (4+10*F+N+i*W+r)=if r=2 then((4+10*F+N+i*W+3:Nat):Int)else if r=3 then first else 0
theorem Yn{x y:List Int}(hl:x.length=y.length)(he:∀i,i<x.length->J x i=J y i):x=y:=by
 refine Kt hl λi h1 h2 => ?_;have:=he i h1;unfold J at this;rw[List.getD_eq_getElem?_getD,List.getD_eq_getElem?_getD,List.getElem?_eq_getElem h1,List.getElem?_eq_getElem h2]at this;exact this
theorem GY.eq{N F W:Nat}(hW:0<W){first:Int}{c c':List Int}(h:GY N F W first c)(h':GY N F W first c'):c=c':=by
 refine Yn (by rw[h.len,h'.len]) λx hx => ?_;rw[h.len]at hx;by_cases e0:x=0
 ·subst e0;rw[h.c0,h'.c0]
 by_cases e1:x=1
 ·subst e1;rw[h.c1,h'.c1]
 by_cases e2:x<2+10*F
 ·rw[show x=2+10*((x-2)/10)+(x-2)%10 by omega,h.fr _ aB _ aB,h'.fr _ aB _ aB]
 by_cases e3:x<4+10*F+N
 ·rw[show x=2+10*F+(x-(2+10*F)) by omega,h.lot _ aB,h'.lot _ aB]
 have hd:=Nat.div_add_mod (x-(4+10*F+N)) W;have hm:=Nat.mod_lt (x-(4+10*F+N)) hW;have hi:(x-(4+10*F+N))/W<N:=by rw[Nat.div_lt_iff_lt_mul hW];omega
 rw[Nat.mul_comm]at hd;rw[show x=4+10*F+N+(x-(4+10*F+N))/W*W+(x-(4+10*F+N))%W by omega,h.dq _ hi _ hm,h'.dq _ hi _ hm]
end
section
variable {K:Nat}
theorem Bp{l:List Int}{i k:Nat}{x:Int}(h:i<l.length):J (l.set i x) k=if k=i then x else J l k:=pU h
theorem SM{sz a:Int}{w:Bool}{F:Nat}(hF:F<=4096):∀(d k i:Nat) (c:List Int) (l:List aR),i+d=F->d<k->2+10*F<=c.length->l.length+d<=1000000000->
 ∃c',jC K (F:Int) 1 k (ar sz c l a w) (i:Int)=some (⟨1,F⟩,0,ar sz c' (xl w l (JW a i d)) a w)/\c'.length=c.length/\(∀f,i<=f->f<F->J c' (2+10*f)=1)/\(∀x,(∀f,i<=f->f<F->x≠2+10*f)->J c' x=J c x)
 | d,k,i,c,l,hd,hk,hc,hl=>by
  obtain⟨k,rfl⟩ :∃m,k=m+1:=⟨k-1,aB⟩;rw[jC];by_cases hi:i<F
  ·obtain⟨d,rfl⟩ :∃m,d=m+1:=⟨d-1,aB⟩;unfold gL;rw[oU,eF (x:=(1:Int)+1) aB,eF (x:=(i:Int)*10) aB,eF aB,ay,Nr aB aB aB,fh,aW rfl,CG aB];have e:((1:Int)+1+(i:Int)*10).toNat=2+10*i:=by omega
   rw[e];have h1:=yd w l [(⟨a,1,1+1+(i:Int)*10,1,0,true⟩:aR)];simp only[F2]at h1;obtain⟨c',r1,r2,r3,r4⟩:=SM hF d k (i+1) (c.set (2+10*i) 1) (xl w l [⟨a,1,1+1+(i:Int)*10,1,0,true⟩]) aB aB (by rw[hU];exact hc) aB;refine⟨c',?_,by rw[r2,hU],λf h1 h2 => ?_,λx hx => ?_⟩
   ·rw[r1,Ab,JW,show(1:Int)+1+(i:Int)*10=2+10*(i:Int) by omega];rfl
   ·by_cases e:f=i
    ·subst e;rw[r4 _ (λg h3 h4=>aB),Bp aB,aW rfl]
    ·exact r3 f aB h2
   ·rw[r4 x (λf h3 h4=>hx f aB h4),Bp aB,cF (hx i (j9 _) hi)]
  ·rw[eG];obtain rfl:d=0:=by omega
   exact⟨c,by rw[JW,JS],rfl,λf h1 h2=>aB,λ_ _=>rfl⟩
def Uk(B W:Nat)(most:Int)(i:Nat):Nat->List cz
 | 0=>[]
 | d+1=>⟨((B+i*W:Nat):Int),most⟩::Uk B W most (i+1) d
theorem O6{B W:Nat}{most:Int}:∀(d i:Nat),(Uk B W most i d).length=d
 | 0,i=>rfl
 | d+1,i=>by rw[Uk,Ad,O6 d (i+1)]
theorem SN{B W:Nat}{most:Int}:∀(d i j:Nat),j<d->J (Uk B W most i d) j=⟨((B+(i+j)*W:Nat):Int),most⟩
 | d+1,i,0,_=>by rw[Uk];rfl
 | d+1,i,j+1,h=>by
  have:=SN (B:=B) (W:=W) (most:=most) d (i+1) j aB;rw[show i+1+j=i+(j+1) by omega]at this;exact this
theorem adI{sz a:Int}{w:Bool}{lp:eM}(hl:WV lp.cA lp.dS lp.jL)(hs:sz<=2000000000){c:List Int}{l:List aR}(hc:c.length<=1000000000)(hll:l.length<=1000000000) :
 ((c.length:Int)+(4+lp.dS)<=sz->oQ (ar sz c l a w) lp.dS lp.jL=some (⟨((c.length:Nat):Int),lp.jL⟩,0,ar sz (((c++List.replicate (4+lp.dS).toNat 0).set (c.length+2) ((c.length:Nat)+3)).set (c.length+3) lp.dS)
  (xl w l [⟨a,4,(c.length:Nat),4+lp.dS,0,true⟩,⟨a,1,(c.length:Nat)+2,(c.length:Nat)+3,0,true⟩,⟨a,1,(c.length:Nat)+3,lp.dS,0,true⟩]) a w))/\
 (0<=sz->¬(c.length:Int)+(4+lp.dS)<=sz->oQ (ar sz c l a w) lp.dS lp.jL=some (⟨0,0⟩,22,ar sz c l a w)):=by
 have h1:=hl.a1;have h2:=hl.a2;have h3:=hl.m2;unfold oQ sC;rw[aW h1,aW h2,tR h3,ay,aW rfl,eF (x:=(4:Int)+lp.dS) aB];refine⟨λhf => ?_,λh0 hf => ?_⟩
 ·have k1:=yd w l [(⟨a,4,(c.length:Nat),4+lp.dS,0,true⟩:aR)];simp only[F2]at k1;rw[JU aB hs aB hf,dz,aW rfl,eF (x:=((c.length:Nat):Int)+2) aB,eF (x:=((c.length:Nat):Int)+3) aB,Nr aB aB (by rw[jP,lY];omega),fh,aW rfl];have k2:=yd w (xl w l [(⟨a,4,(c.length:Nat),4+lp.dS,0,true⟩:aR)]) [(⟨a,1,(c.length:Nat)+2,(c.length:Nat)+3,0,true⟩:aR)];simp only[F2]at k2;rw[Nr aB aB (by rw[hU,jP,lY];omega),fh,aW rfl,Ab,Ab,show(((c.length:Nat):Int)+2).toNat=c.length+2 by omega,show(((c.length:Nat):Int)+3).toNat=c.length+3 by omega]
  rfl
 ·rw[JV hs h0 aB aB hf,dz,cF eL]
theorem abd{sz a:Int}{w:Bool}{lp:eM}(hl:WV lp.cA lp.dS lp.jL)(hs:sz<=1000000000)(hs0:0<=sz){N B W:Nat}(hN:N<=64)(hB:B<=100000)(hW:(W:Int)=4+lp.dS){O:ag}{iU:Int}{qZ:bg}{r32:fe}:∀(d k i:Nat) (c:List Int) (l:List aR) (D:List cz),i+d=N->d<k->c.length=B+i*W->D.length=i->l.length+3*d<=1000000000->
 (((B+N*W:Nat):Int)<=sz->∃c',jD K O (N:Int) lp iU qZ r32 k (ar sz c l a w) D (i:Int)=some (.inl (ar sz c' (xl w l (FP a lp.dS (c.length:Nat) d)) a w,D++Uk B W lp.jL i d))/\pR sz (FP a lp.dS (c.length:Nat) d)=FP a lp.dS (c.length:Nat) d/\c'.length=B+N*W/\(∀x,x<c.length->J c' x=J c x)/\
   (∀j,i<=j->j<N->∀r,r<W->J c' (B+j*W+r)=if r=2 then((B+j*W+3:Nat):Int)else if r=3 then lp.dS else 0))/\
 (¬((B+N*W:Nat):Int)<=sz->∃X c',jD K O (N:Int) lp iU qZ r32 k (ar sz c l a w) D (i:Int)=some (.inr (22,X,ar sz c' (xl w l (pR sz (FP a lp.dS (c.length:Nat) d))) a w))/\(∀ys,pR sz (FP a lp.dS (c.length:Nat) d++ys)=pR sz (FP a lp.dS (c.length:Nat) d))∨((B+i*W:Nat):Int)>sz/\d=0)
 | d,k,i,c,l,D,hd,hk,hc,hD,hll=>by
  obtain⟨k,rfl⟩ :∃m,k=m+1:=⟨k-1,aB⟩;have h1:=hl.a1;have h2:=hl.a2;have h3:=hl.m2;have hiW:i*W<=N*W:=ru W aB;have hNW:N*W<=64*4100:=Nat.mul_le_mul hN aB;rw[jD];by_cases hi:i<N
  ·obtain⟨d,rfl⟩ :∃m,d=m+1:=⟨d-1,aB⟩;have hsW:(i+1)*W=i*W+W:=EP i W;have ae9:(i+1)*W<=N*W:=ru W aB;have Ul:(((c++List.replicate (4+lp.dS).toNat (0:Int)).set (c.length+2) ((c.length:Nat)+3)).set (c.length+3) lp.dS).length=B+(i+1)*W:=by
    rw[hU,hU,jP,lY];omega
   rw[oU];obtain⟨n1,n2⟩:=adI (a:=a) (w:=w) hl (by omega:sz<=2000000000) (c:=c) (l:=l) aB aB;by_cases hf:(c.length:Int)+(4+lp.dS)<=sz
   ·rw[n1 hf,dz,aW rfl,oU,CG aB];have Vk:∀ys,pR sz ((⟨a,4,(c.length:Nat),4+lp.dS,0,true⟩:aR)::(⟨a,1,(c.length:Nat)+2,(c.length:Nat)+3,0,true⟩:aR)::(⟨a,1,(c.length:Nat)+3,lp.dS,0,true⟩:aR)::ys)=(⟨a,4,(c.length:Nat),4+lp.dS,0,true⟩:aR)::(⟨a,1,(c.length:Nat)+2,(c.length:Nat)+3,0,true⟩:aR)::(⟨a,1,(c.length:Nat)+3,lp.dS,0,true⟩:aR)::pR sz ys:=λys=>by
     rw[pR,cF (λh=>absurd h.2 (by show ¬((c.length:Nat):Int)+(4+lp.dS)>sz;omega)),pR,cF (λh=>absurd h.1 (by show ¬(1:Int)=4;decide)),pR,cF (λh=>absurd h.1 (by show ¬(1:Int)=4;decide))]
    have k1:=yd w l [(⟨a,4,(c.length:Nat),4+lp.dS,0,true⟩:aR),(⟨a,1,(c.length:Nat)+2,(c.length:Nat)+3,0,true⟩:aR),(⟨a,1,(c.length:Nat)+3,lp.dS,0,true⟩:aR)];simp only[Ad,zS]at k1;obtain⟨XB,XC⟩:=abd hl hs hs0 hN hB hW (O:=O) (iU:=iU) (qZ:=qZ) (r32:=r32) (a:=a) (w:=w) d k (i+1) _ (xl w l [(⟨a,4,(c.length:Nat),4+lp.dS,0,true⟩:aR),(⟨a,1,(c.length:Nat)+2,(c.length:Nat)+3,0,true⟩:aR),(⟨a,1,(c.length:Nat)+3,lp.dS,0,true⟩:aR)]) (D++[⟨((c.length:Nat):Int),lp.jL⟩]) aB aB Ul (by simp[hD]) aB;have el:((B+(i+1)*W:Nat):Int)=((c.length:Nat):Int)+(4+lp.dS):=by omega
    rw[Ul,el]at XB XC;refine⟨λhfit => ?_,λhno => ?_⟩
    ·obtain⟨c',r1,r0,r2,r3,r4⟩:=XB hfit;refine⟨c',?_,?_,r2,λx hx => ?_,λj h5 h6 r h7 => ?_⟩
     ·rw[r1,Ab,FP,Uk,pS,hc];rfl
     ·rw[FP,Vk,r0]
     ·rw[r3 x aB,Bp (by rw[hU,jP,lY];omega),eG,Bp (by rw[jP,lY];omega),eG,rZ hx]
     ·by_cases e:j=i
      ·subst e;rw[r3 _ aB,<-hc,Bp (by rw[hU,jP,lY];omega),Bp (by rw[jP,lY];omega),vz aB,show c.length+r-c.length=r by omega,xD aB];by_cases e2:r=2
       ·subst e2;rw[eG,aW rfl,aW rfl];omega
       ·by_cases e3:r=3
        ·subst e3;rw[aW rfl,eG,aW rfl]
        ·rw[eG,eG,cF e2,cF e3]
      ·exact r4 j aB h6 r h7
    ·obtain⟨X,c',⟨r1,r2⟩ | r1⟩:=XC hno
     ·exact⟨X,c',.inl ⟨by rw[r1,Ab,FP,Vk];rfl,λys=>by rw[FP,sQ,sQ,sQ,Vk,Vk,r2 ys]⟩⟩
     ·exfalso;omega
   ·have e2:=n2 hs0 hf;refine⟨λhfit=>by exfalso;omega,λhno => ?_⟩;rw[e2,dz,cF eL];have e3:xl w l (pR sz (FP a lp.dS (c.length:Nat) (d+1)))=l:=by
     rw[FP,pR,aW ⟨rfl,by show((c.length:Nat):Int)+(4+lp.dS)>sz;omega⟩,JS]
    rw[e3];exact⟨_,c,.inl ⟨rfl,λys=>by rw[FP,sQ,pR,pR,aW ⟨rfl,by show((c.length:Nat):Int)+(4+lp.dS)>sz;omega⟩,aW ⟨rfl,by show((c.length:Nat):Int)+(4+lp.dS)>sz;omega⟩]⟩⟩
  ·obtain rfl:d=0:=by omega
   obtain rfl:i=N:=by omega
   rw[eG];refine⟨λhfit=>⟨c,by rw[FP,JS,Uk,zU],rfl,hc,λ_ _=>rfl,λj h5 h6=>aB⟩,λhno=>⟨O,c,.inr ⟨aB,rfl⟩⟩⟩
def tG(a:Int)(N F:Nat)(first:Int):List aR:=
 [⟨a,4,0,1,0,true⟩,⟨a,4,1,1+10*(F:Int),0,true⟩]++JW a 0 F++(⟨a,4,2+10*(F:Int),2+(N:Int),0,true⟩::FP a first (4+10*F+N:Nat) N++[⟨a,3,1,1,1,true⟩])
theorem Ns{sz a:Int}{w:Bool}{F:Nat}(h1:1<=F)(h2:F<=4096)(hs:sz<=1000000000)(hs0:0<=sz)(hK:5000<K){l:List aR}(hl:l.length<=100) :
 ((2+10*F:Int)<=sz->∃c,oc K (ar sz [0] l a w) (F:Int)=some (⟨1,F⟩,0,ar sz c (xl w l (⟨a,4,1,1+10*(F:Int),0,true⟩::JW a 0 F)) a w)/\c.length=2+10*F/\(∀f,f<F->J c (2+10*f)=1)/\(∀x,x<2+10*F->(∀f,f<F->x≠2+10*f)->J c x=0))/\
 (¬(2+10*F:Int)<=sz->oc K (ar sz [0] l a w) (F:Int)=some (⟨0,0⟩,22,ar sz [0] l a w)):=by
 unfold oc q8;rw[cF (show ¬(F:Int)<1 by omega),cF (show ¬(F:Int)>4096 by omega),eF (x:=(F:Int)*10) aB,eF (x:=1+(F:Int)*10) aB,ay,cF (show ¬1+(F:Int)*10=0 by omega),ay];refine⟨λhf => ?_,λhf => ?_⟩
 ·rw[JU aB aB aB (by show((1:Nat):Int)+(1+(F:Int)*10)<=sz;omega),dz,aW rfl];have k1:=yd w l [(⟨a,4,1,1+(F:Int)*10,0,true⟩:aR)];simp only[F2]at k1;obtain⟨c,r1,r2,r3,r4⟩:=SM (K:=K) (sz:=sz) (a:=a) (w:=w) h2 F K 0 ([0]++List.replicate (1+(F:Int)*10).toNat 0) (xl w l [⟨a,4,1,1+(F:Int)*10,0,true⟩]) aB aB (by rw[jP,lY];simp;omega) aB;rw[pT]at r1;refine⟨c,?_,by rw[r2,jP,lY];simp;omega,λf hf=>r3 f (Cf _) hf,λx hx hn => ?_⟩
  ·show jC K (F:Int) ((1:Nat):Int) K (ar sz ([0]++List.replicate (1+(F:Int)*10).toNat 0) (xl w l [⟨a,4,((1:Nat):Int),1+(F:Int)*10,0,true⟩]) a w) 0=_;rw[show((1:Nat):Int)=1 from rfl,r1,Ab,show 1+(F:Int)*10=1+10*(F:Int) by omega];rfl
  ·rw[r4 x (λf _ h=>hn f h)];by_cases e:x=0
   ·subst e;rfl
   ·rw[vz (by simp;omega),xD (by simp;omega)]
 ·rw[JV aB hs0 (by simp) aB (by show ¬((1:Nat):Int)+(1+(F:Int)*10)<=sz;omega),dz,cF eL]
theorem SO{sz a:Int}{w:Bool}{N:Nat}(h1:1<=N)(h2:N<=64)(hs:sz<=1000000000)(hs0:0<=sz){c:List Int}(hc:c.length<=100000){l:List aR}(hl:l.length<=100000) :
 ((c.length+2+N:Int)<=sz->qm (ar sz c l a w) (N:Int)=some (⟨(c.length:Nat),N⟩,0,ar sz (c++List.replicate (2+N) 0) (xl w l [⟨a,4,(c.length:Nat),2+(N:Int),0,true⟩]) a w))/\
 (¬(c.length+2+N:Int)<=sz->qm (ar sz c l a w) (N:Int)=some (⟨0,0⟩,22,ar sz c l a w)):=by
 unfold qm mP;rw[cF (show ¬(N:Int)<1 by omega),cF (show ¬(N:Int)>64 by omega),eF (x:=2+(N:Int)) aB,ay,cF (show ¬2+(N:Int)=0 by omega),ay];refine⟨λhf => ?_,λhf => ?_⟩
 ·rw[JU aB aB aB aB,dz,aW rfl,show(2+(N:Int)).toNat=2+N by omega]
 ·rw[JV aB hs0 aB aB aB,dz,cF eL]
theorem Yo{sz a:Int}{w:Bool}{N F W:Nat}{lp:eM}(hl:WV lp.cA lp.dS lp.jL)(hF:lp.cA=F)(ZH:1<=N)(hN:N<=64)(hW:(W:Int)=4+lp.dS)(hs:sz<=1000000000)(hs0:0<=sz)(hK:5000<K){O:ag}(hp:O.dD=[]) :
 (((4+10*F+N+N*W:Nat):Int)<=sz->∃c,od K O (ar sz [] [] a w) (N:Int) lp=some (0,⟨O.code,0,1,F,2+10*(F:Int),N,Uk (4+10*F+N) W lp.jL 0 N,O.aH,O.ah,O.value,O.left⟩,ar sz c (xl w [] (tG a N F lp.dS)) a w)/\pR sz (tG a N F lp.dS)=tG a N F lp.dS/\GY N F W lp.dS c)/\
 (¬((4+10*F+N+N*W:Nat):Int)<=sz->∃X c,od K O (ar sz [] [] a w) (N:Int) lp=some (22,X,ar sz c (xl w [] (pR sz (tG a N F lp.dS))) a w)):=by
 have f1:=hl.f1;have f2:=hl.f2;have h1:=hl.a1;have h2:=hl.a2;have h3:=hl.m2;have hNW:N*W<=64*4100:=Nat.mul_le_mul hN aB;unfold od;rw[hF];by_cases s1:¬(1:Int)<=sz
 ·rw[JV (c:=[]) aB hs0 (by simp) aB (by show ¬((0:Nat):Int)+1<=sz;omega),dz,cF eL];refine⟨λh=>by exfalso;omega,λ_ => ?_⟩;have:xl w [] (pR sz (tG a N F lp.dS))=[]:=by
   rw[tG,sQ,sQ,pR,aW ⟨rfl,by show(0:Int)+1>sz;omega⟩,JS]
  rw[this];exact⟨_,[],rfl⟩
 have s1:=Decidable.not_not.1 s1;rw[JU (c:=[]) (by simp) aB aB (by show((0:Nat):Int)+1<=sz;omega),dz,aW rfl];have k0:=yd w [] [(⟨a,4,(([]:List Int).length:Nat),1,0,true⟩:aR)];simp only[F2,zS]at k0;obtain⟨fr1,fr2⟩:=Ns (K:=K) (sz:=sz) (a:=a) (w:=w) (F:=F) aB aB hs hs0 hK (l:=xl w [] [(⟨a,4,(([]:List Int).length:Nat),1,0,true⟩:aR)]) (by simp only[zS];omega);have Wg:pR sz (tG a N F lp.dS)=⟨a,4,0,1,0,true⟩::pR sz (⟨a,4,1,1+10*(F:Int),0,true⟩::JW a 0 F++(⟨a,4,2+10*(F:Int),2+(N:Int),0,true⟩::FP a lp.dS (4+10*F+N:Nat) N++[⟨a,3,1,1,1,true⟩])):=by
  rw[tG,sQ,sQ,pR,cF (λh=>absurd h.2 (by show ¬(0:Int)+1>sz;omega))];rfl
 have e0:ar sz ([]++List.replicate (1:Int).toNat 0) (xl w [] [(⟨a,4,(([]:List Int).length:Nat),1,0,true⟩:aR)]) a w=ar sz [0] (xl w [] [(⟨a,4,(([]:List Int).length:Nat),1,0,true⟩:aR)]) a w:=rfl;rw[e0];by_cases s2:¬(2+10*F:Int)<=sz
 ·rw[fr2 s2,dz,cF eL];refine⟨λh=>by exfalso;omega,λ_ => ?_⟩;rw[Wg,sQ,pR,aW ⟨rfl,by show(1:Int)+(1+10*(F:Int))>sz;omega⟩];exact⟨_,_,rfl⟩
 have s2:=Decidable.not_not.1 s2;obtain⟨c1,q1,q2,q3,q4⟩:=fr1 s2;rw[q1,dz,aW rfl];have Q5:pR sz (tG a N F lp.dS)=⟨a,4,0,1,0,true⟩::⟨a,4,1,1+10*(F:Int),0,true⟩::(JW a 0 F++pR sz (⟨a,4,2+10*(F:Int),2+(N:Int),0,true⟩::FP a lp.dS (4+10*F+N:Nat) N++[⟨a,3,1,1,1,true⟩])):=by
  rw[Wg,sQ,pR,cF (λh=>absurd h.2 (by show ¬(1:Int)+(1+10*(F:Int))>sz;omega)),EW _ _ (LX F 0)]
 have kf:(⟨a,4,1,1+10*(F:Int),0,true⟩::JW a 0 F:List aR).length=F+1:=by rw[Ad,O4]
 have k1:=yd w (xl w [] [(⟨a,4,(([]:List Int).length:Nat),1,0,true⟩:aR)]) (⟨a,4,1,1+10*(F:Int),0,true⟩::JW a 0 F);rw[kf]at k1;obtain⟨pk1,pk2⟩:=SO (sz:=sz) (a:=a) (w:=w) (N:=N) ZH hN hs hs0 (c:=c1) aB (l:=xl w (xl w [] [(⟨a,4,(([]:List Int).length:Nat),1,0,true⟩:aR)]) (⟨a,4,1,1+10*(F:Int),0,true⟩::JW a 0 F)) (by simp only[zS];simp only[zS]at k1;omega);by_cases s3:¬(c1.length+2+N:Int)<=sz
 ·rw[pk2 s3,dz,cF eL];refine⟨λh=>by exfalso;omega,λ_ => ?_⟩;rw[Q5,sQ,pR,aW ⟨rfl,by show 2+10*(F:Int)+(2+(N:Int))>sz;omega⟩,zU];rw[Ab];exact⟨_,c1,rfl⟩
 have s3:=Decidable.not_not.1 s3;rw[pk1 s3,dz,aW rfl,hp,Ab,Ab];have Ul:(c1++List.replicate (2+N) 0).length=4+10*F+N:=by rw[jP,lY];omega
 have kl:∀X:List aR,X.length<=100000->(xl w [] X).length<=100000:=λX hX=>E1 (yd w [] X) (by simpa using hX);obtain⟨d1,d2⟩:=abd (K:=K) hl hs hs0 hN (B:=4+10*F+N) aB hW (O:=O) (iU:=((([]:List Int).length:Nat):Int)) (qZ:=⟨1,F⟩) (r32:=⟨(c1.length:Nat),N⟩) (a:=a) (w:=w) N K 0 (c1++List.replicate (2+N) 0)
  (xl w [] ([(⟨a,4,(([]:List Int).length:Nat),1,0,true⟩:aR)]++(⟨a,4,1,1+10*(F:Int),0,true⟩::JW a 0 F++[⟨a,4,(c1.length:Nat),2+(N:Int),0,true⟩]))) [] aB aB (by rw[Ul];omega) rfl (by
   have:=kl ([(⟨a,4,(([]:List Int).length:Nat),1,0,true⟩:aR)]++(⟨a,4,1,1+10*(F:Int),0,true⟩::JW a 0 F++[⟨a,4,(c1.length:Nat),2+(N:Int),0,true⟩])) (by rw[jP,jP,kf];simp;omega);omega)
 rw[Ul]at d1 d2;rw[pT]at d1 d2;have hc3:pR sz (tG a N F lp.dS)=⟨a,4,0,1,0,true⟩::⟨a,4,1,1+10*(F:Int),0,true⟩::(JW a 0 F++(⟨a,4,2+10*(F:Int),2+(N:Int),0,true⟩::pR sz (FP a lp.dS (4+10*F+N:Nat) N++[⟨a,3,1,1,1,true⟩]))):=by
  rw[Q5,sQ,pR,cF (λh=>absurd h.2 (by show ¬2+10*(F:Int)+(2+(N:Int))>sz;omega))]
 by_cases s4:¬((4+10*F+N+N*W:Nat):Int)<=sz
 ·refine⟨λh=>absurd h s4,λ_ => ?_⟩;obtain⟨X,c',⟨r1,r2⟩ | r1⟩:=d2 s4
  ·rw[r1,Ux,Ab,hc3,r2];refine⟨X,c',?_⟩
   congr 5
   rw[q2];simp only[sQ,zb,pS,zS];rw[show((2+10*F:Nat):Int)=2+10*(F:Int) by omega];rfl
  ·exfalso;omega
 have s4:=Decidable.not_not.1 s4;refine⟨λ_ => ?_,λh=>absurd s4 h⟩;obtain⟨c',r1,r0,r2,r3,r4⟩:=d1 s4;have b0:J c' 1=0:=by
  rw[r3 1 aB,rZ aB,q4 1 aB (λf _=>aB)]
 have kk:∀X:List aR,X.length<=100000->(xl w [] X).length<=100000:=λX hX=>E1 (yd w [] X) (by simpa using hX);have kd:=O5 (a:=a) (first:=lp.dS) N (4+10*F+N:Nat);have ea:∀l:List aR,l.length<=100000->(eY (mY (⟨1,F⟩:bg)) λZA=>sR (de (ar sz c' l a w) ZA) λML Ue=>sR (iV ML) λRb IZ=>some (Rb,Ue))=some (4,ar sz (c'.set 1 1) (xl w l [⟨a,3,1,1,1,true⟩]) a w):=λl hl=>by
  unfold mY kr po;simp only[aW (show(1:Int)>=0 by decide),aW (show(F:Int)>=1 by omega),aW (show(F:Int)<=4096 by omega),aW (show(0:Int)>=0 by decide),tR (show(0:Int)<F by omega),ay,if_true,cF (show ¬(0:Int)<0 by decide),cF (show ¬(0:Int)>=8 by decide)];unfold de jH ox
  dsimp only
  rw[cF eL,aW rfl,ay,Ym aB eL aB,dz,aW rfl];rw[show(1:Int).toNat=1 from rfl,b0,show wi ((0:Int)+1)=1 from rfl,aW eL,tR (show(1:Int)<=(F:Int) by omega),ay,aW rfl]
  rfl
 have ea2:∀(l:List aR),l.length<=100000->∀(f:Int->af->Option (Int×ag×af)),(eY (mY (⟨1,F⟩:bg)) λZA=>sR (de (ar sz c' l a w) ZA) λML Ue=>sR (iV ML) λRb IZ=>f Rb Ue)=f 4 (ar sz (c'.set 1 1) (xl w l [⟨a,3,1,1,1,true⟩]) a w):=λl hl f=>by
  have h:=ea l hl;cases e1:mY (⟨1,F⟩:bg)with
  | none=>rw[e1]at h;simp[eY]at h
  | some x =>
   rw[e1,ay]at h;rw[ay];cases e2:de (ar sz c' l a w) x with
   | none=>rw[e2]at h;simp[sR]at h
   | some y =>
    obtain⟨y1,y2⟩:=y;rw[e2,fh]at h;rw[fh];cases e3:iV y1 with
    | none=>rw[e3]at h;simp[sR]at h
    | some afv =>
     obtain⟨u1,u2⟩:=afv;rw[e3,fh]at h;rw[fh];have:=Prod.mk.inj (Option.some.inj h);rw[this.1,this.2]
 have hlen:∀X:List aR,X.length<=100000->(xl w (xl w [] X) (FP a lp.dS (4+10*F+N:Nat) N)).length<=200000:=λX hX=>by
  have:=yd w (xl w [] X) (FP a lp.dS (4+10*F+N:Nat) N);have:=kk X hX;omega
 rw[r1,Uw,Ab,ea2 _ (kk _ (by rw[jP,jP,jP,kf,kd];simp;omega)) (λRb Ue=>if Rb=4 then some (0,_,Ue)else some (22,_,Ue)),aW rfl];have adJ:pR sz (tG a N F lp.dS)=tG a N F lp.dS:=by
  rw[hc3];rw[LW _ _ r0,show pR sz [(⟨a,3,1,1,1,true⟩:aR)]=[⟨a,3,1,1,1,true⟩] by rw[pR,cF (λh=>absurd h.1 (by show ¬(3:Int)=4;decide)),pR],tG];simp only[sQ,zb,pS]
 refine⟨c'.set 1 1,?_,adJ,?_⟩
 ·rw[Ab,q2];refine qG some (AF rfl (AF ?_ ?_))
  ·simp only[zb,zS];rw[show((2+10*F:Nat):Int)=2+10*(F:Int) by omega];rfl
  ·have:(([(⟨a,4,(([]:List Int).length:Nat),1,0,true⟩:aR)]++(⟨a,4,1,1+10*(F:Int),0,true⟩::JW a 0 F++[⟨a,4,((2+10*F:Nat):Int),2+(N:Int),0,true⟩]))++FP a lp.dS (4+10*F+N:Nat) N)++[⟨a,3,1,1,1,true⟩]=tG a N F lp.dS:=by
    rw[tG,show((2+10*F:Nat):Int)=2+10*(F:Int) by omega];simp only[sQ,zb,pS,zS];rfl
   rw[this]
 ·have E4:(c'.set 1 (1:Int)).length=c'.length:=hU;refine⟨by rw[E4,r2],?_,?_,λf hf r hr => ?_,λr hr => ?_,λi hi r hr => ?_⟩
  ·rw[Bp aB,cF eL,r3 0 aB,rZ aB,q4 0 aB (λf _=>aB)]
  ·rw[Bp aB,aW rfl]
  ·rw[Bp aB,eG,r3 _ aB,rZ aB];by_cases e:r=0
   ·subst e;rw[aW rfl];exact q3 f hf
   ·rw[cF e,q4 _ aB (λg _=>aB)]
  ·rw[Bp aB,eG,r3 _ aB,vz aB,xD aB]
  ·have:=ru W (show i+1<=N by omega);rw[EP]at this;rw[Bp aB,eG];exact r4 i (Cf _) hi r hr
end
section
variable {K:Nat}
theorem xI{α:Type}[Inhabited α]{l:List α}{i:Nat}(h:i<l.length):l.drop i=J l i::l.drop (i+1):=by
 rw[Ob h];unfold J;rw[List.getD_eq_getElem?_getD,List.getElem?_eq_getElem h];rfl
theorem SP{p:aM}(hv:Valid p):∀(d k i:Nat) (l:List aD),i+d=p.ak.length->d<k->l.length=i->ig K p k l (i:Int)=some (l++p.ak.drop i)
 | d,k,i,l,hd,hk,hl=>by
  obtain⟨k,rfl⟩ :∃m,k=m+1:=⟨k-1,aB⟩;have:=hv.n32;rw[ig];by_cases hi:i<p.ak.length
  ·obtain⟨d,rfl⟩ :∃m,d=m+1:=⟨d-1,aB⟩;have:=(hv.MG i hi).JF;rw[oU,aW ⟨aB,aB⟩,dc,aW (by simp;omega),oU,CG aB,zb,SP hv d k (i+1) _ aB aB (by simp[hl]),xI hi,pS];rfl
  ·rw[eG,yt aB,zU]
def adK:bV:=⟨0,0,0,0,0,0,0,0,0,0,0,0,0,false,0,0⟩
def adL:cy:=⟨0,0,0,0,0,0,0,0,0⟩
def adM:bY:=⟨0,0,0,0,0,0,0,0,0,List.replicate 64 ⟨0,0⟩,⟨0,0,0,0,0,0,0,0,0,0,0,0,0,false,0,0⟩⟩
def Nt(i:Int):bD:=⟨i,9,-1,0,0,0,0,0,adK,adL,adM,false⟩
def ye(i:Nat):Nat->List bD
 | 0=>[]
 | d+1=>Nt i::ye (i+1) d
theorem zF:∀(d i:Nat),(ye i d).length=d
 | 0,i=>rfl
 | d+1,i=>by rw[ye,Ad,zF d (i+1)]
theorem Ew:∀(d i j:Nat),j<d->J (ye i d) j=Nt ((i+j:Nat):Int)
 | d+1,i,0,_=>rfl
 | d+1,i,j+1,h=>by
  have:=Ew d (i+1) j aB;rw[show i+1+j=i+(j+1) by omega]at this;exact this
theorem LY{N:Nat}(hN:N<=64):∀(d k i:Nat) (l:List bD),i+d=N->d<k->l.length=i->ij K (N:Int) k l (i:Int)=some (l++ye i d)
 | d,k,i,l,hd,hk,hl=>by
  obtain⟨k,rfl⟩ :∃m,k=m+1:=⟨k-1,aB⟩;rw[ij];by_cases hi:i<N
  ·obtain⟨d,rfl⟩ :∃m,d=m+1:=⟨d-1,aB⟩;rw[oU,oU,CG aB,LY hN d k (i+1) _ aB aB (by simp[hl]),ye,pS];rfl
  ·rw[eG];obtain rfl:d=0:=by omega
   rw[ye,zU]
def SQ:aU:=⟨0,0,0,0,0,0,List.replicate 16 0⟩
def abe(p:aM)(args:List Int)(N F W:Nat)(most:Int):ag:=
 { code:=p.ak,result:=0,dH:=1,cQ:=F,fq:=2+10*(F:Int),cO:=N,dD:=Uk (4+10*F+N) W most 0 N,
   aH:=(List.replicate F SQ).set 0 ⟨0,0,-1,0,0,1,C6 16 args (List.replicate 16 0)⟩,
   ah:=(ye 0 N).set 0 {Nt 0 with ax:=0,from_:=-1,aG:=0},value:=0,left:=false}
theorem Nu{α:Type}{l:List α}{i:Nat}{x y:α}:(l.set i x).set i y=l.set i y:=by rw[iG]
theorem Yp{sz a:Int}{w:Bool}{p:aM}{args:List Int}{N F W:Nat}{lp:eM}(hv:Valid p)(ha:(args.length:Int)=(J p.ak 0).aV)(hl:WV lp.cA lp.dS lp.jL)(hF:lp.cA=F)(ZH:1<=N)(hN:N<=64)(hW:(W:Int)=4+lp.dS)(hs:sz<=1000000000)(hs0:0<=sz)(hK:5000<K)(hr:mW K p args (N:Int) lp=some 0) :
 (((4+10*F+N+N*W:Nat):Int)<=sz->∃c,lM K (ar sz [] [] a w) p args (N:Int) lp=some (some (abe p args N F W lp.jL),0,ar sz c (xl w [] (tG a N F lp.dS)) a w)/\pR sz (tG a N F lp.dS)=tG a N F lp.dS/\GY N F W lp.dS c)/\
 (¬((4+10*F+N+N*W:Nat):Int)<=sz->∃c,lM K (ar sz [] [] a w) p args (N:Int) lp=some (none,22,ar sz c (xl w [] (pR sz (tG a N F lp.dS))) a w)):=by
 have f1:=hl.f1;have f2:=hl.f2;have hp8:=(hv.MG 0 (by have:=hv.n1;omega)).p8;have WW:=SP (K:=K) hv p.ak.length K 0 [] aB (by have:=hv.n32;omega) rfl;rw[pT,zb,ni]at WW;unfold lM;rw[hr,ay,aW rfl,aW ⟨aB,aB⟩,WW,ay];obtain⟨l1,l2⟩:=Yo (K:=K) (a:=a) (w:=w) hl hF ZH hN hW hs hs0 hK (O:=(⟨p.ak,0,0,0,0,0,([]:List cz),List.replicate lp.cA.toNat (⟨0,0,0,0,0,0,List.replicate 16 (0:Int)⟩:aU),([]:List bD),0,false⟩:ag)) rfl;refine⟨λhf => ?_,λhf => ?_⟩
 ·obtain⟨c,e1,e2,e3⟩:=l1 hf;have hFt:lp.cA.toNat=F:=by omega
  have hact:=LY (K:=K) hN N K 0 [] aB aB rfl;rw[pT,zb]at hact;refine⟨c,?_,e2,e3⟩;rw[e1,dz,aW rfl]
  dsimp only
  rw[hFt,aW ⟨eL,by rw[lY];omega⟩,aW ⟨eL,by rw[hU,lY];omega⟩,oU,hact,ay,aW ⟨eL,by rw[zF];omega⟩];rw[Nu,Nu,Nu,Ew N 0 0 aB]
  rfl
 ·obtain⟨X,c,e1⟩:=l2 hf;rw[e1,dz,cF eL];exact⟨c,rfl⟩
end
end Mo
end
section
namespace Am
def dW{α β:Type}[DecidableEq α](f:α->β)(a:α)(v:β):α->β:=λx=>if x=a then v else f x
@[simp] theorem bK{α β:Type}[DecidableEq α](f:α->β)(a:α)(v:β):dW f a v a=v:=by simp[dW]
theorem bA{α β:Type}[DecidableEq α]{f:α->β}{a x:α}{v:β}(h:x≠a):dW f a v x=f x:=by simp[dW,h]
theorem fC{α β:Type}[DecidableEq α](f:α->β)(a x:α)(v:β):dW f a v x=if x=a then v else f x:=rfl
inductive ZI
 | const (a:Nat) (k:Int) | move (a b:Nat) | arith (op:Int) (a b c:Nat) | jump (a:Nat) | branch (a b:Nat)
 | spawn (s f c:Nat) | sync | load (a s:Nat) | nD (a:Nat) | ret (a:Nat)
deriving DecidableEq,Inhabited
structure kT where
 N:Nat
 F:Nat
 first:Nat
 most:Nat
 WX:Nat
 len:Nat->Nat
 params:Nat->Nat
 da:Nat->Nat
 code:Nat->Nat->ZI
 ap:Int->Int->Int->Int
 pd:Int->Nat->Int
inductive uw
 | result | next | join (f:Nat) | mark (f:Nat) | slot (f s:Nat) | tK | Ex | flag (i:Nat)
 | top (i:Nat) | bot (i:Nat) | buf (i:Nat) | cap (i g:Nat) | el (i g n:Nat)
deriving DecidableEq
structure Fr where
 fn:Nat
 J:Nat
 par:Nat
 slot:Nat
 ct:Nat
 nD:Int
 da:Nat->Int
structure Ev where
 kind:Nat
 ax:Int
 x:Int
 v:Int
structure Acc where
 kind:Nat
 a:uw
 x:Int
 y:Int
 ok:Bool
inductive Pc
 | halted | full | start (x:Int) | run | fork (c:Nat) | ta | out (p c:Nat) | take (p c:Nat)
 | done | tell (j:Nat) | xJ (j:Nat)
 | Dz (c:Nat) | Ac (c:Nat) (b:Int) | tc (c:Nat) (b t:Int) | td (c:Nat) (b t:Int)
 | grow (c:Nat) (b t cc:Int) | pD (c:Nat) (b t cc:Int) | mL (c:Nat) (b t cc n:Int)
 | mS (c:Nat) (b t cc n x:Int) | pE (c:Nat) (b t cc:Int) | mM (c:Nat) (b cc:Int) | rW (c:Nat) (b:Int)
 | Ig | uj (j:Nat) | wc (j:Nat)
 | GZ | wX (b:Int) | rH (b:Int) | Ey (b:Int) | qu (t:Int) | vG (b t:Int)
 | sE (b t cc:Int) | uP (b t x:Int) | tA (t x:Int) (AU:Bool)
 | rm | vH (v:Nat) (t:Int) | rI (v:Nat) (t:Int) | qv (v:Nat) (t:Int) (g:Nat)
 | og (v:Nat) (t:Int) (g:Nat) (cc:Int) | pF (v:Nat) (t x:Int)
 | Ez | flag | sleep | vr | EX (j:Nat) | DA (j:Nat) (t:Int) | parked | back (h:Bool) | we (h:Bool)
deriving DecidableEq
inductive Loc
 | free | cw (i:Nat) | SR (i:Nat) | pop (i:Nat) | held (i:Nat) | uk (i:Nat) | waiting | yf (i:Nat) | fin (i:Nat) | gone
deriving DecidableEq
structure St where
 mem:uw->Int
 pc:Nat->Pc
 hold:Nat->Option Nat
 fZ:Nat->Nat
 fr:Nat->Fr
 nf:Nat
 cur:Nat->Nat
 base:Nat->Nat->Int
 size:Int
 val:Option Int
 JX:Bool
 loc:Nat->Loc
 q:Nat->List Nat
 pop:Nat->Option Nat
 ct:Nat->List Nat
structure Out where
 s:St
 ev:Option Ev
 acc:Option Acc
def ix(n c:Int):Nat:=(n%c).toNat
def jr(C:kT)(cc:Int):Int:=if 2*cc<=C.most then 2*cc else C.most
def LZ(C:kT)(i:Nat):Nat:=(i+1)%C.N
namespace St
def wr(s:St)(a:uw)(v:Int):St:={s with mem:=dW s.mem a v}
def to(s:St)(i:Nat)(p:Pc):St:={s with pc:=dW s.pc i p}
def holds(s:St)(i:Nat)(f:Option Nat):St:={s with hold:=dW s.hold i f}
def put(s:St)(f:Nat)(l:Loc):St:={s with loc:=dW s.loc f l}
def tB(s:St)(i n:Nat):St:={s with fZ:=dW s.fZ i n}
def lay(s:St)(f:Nat)(x:Fr):St:={s with fr:=dW s.fr f x}
def qU(s:St)(j:Nat)(l:List Nat):St:={s with q:=dW s.q j l}
def mZ(s:St)(i:Nat)(x:Option Nat):St:={s with pop:=dW s.pop i x}
def Fz(s:St)(f:Nat)(l:List Nat):St:={s with ct:=dW s.ct f l}
end St
def pV(a:uw)(v:Int):Option Acc:=some ⟨0,a,v,0,true⟩
def sL(a:uw)(v:Int):Option Acc:=some ⟨1,a,v,0,true⟩
def Ih(a:uw)(o n:Int)(ok:Bool):Option Acc:=some ⟨2,a,o,n,ok⟩
def B8(a:uw)(d v:Int):Option Acc:=some ⟨3,a,d,v,true⟩
def Yq(a:uw)(n:Int):Option Acc:=some ⟨4,a,n,0,true⟩
def ev(k:Nat)(f x v:Int):Option Ev:=some ⟨k,f,x,v⟩
def pG(s:St)(C:kT)(i j:Nat)(acc:Option Acc):Out:=
 if j=i then⟨s.to i .halted,ev 10 0 0 0,acc⟩else⟨s.to i (.tell j),none,acc⟩
def looking(s:St)(C:kT)(i j:Nat)(acc:Option Acc):Out:=
 if j=i then⟨s.to i .parked,ev 9 0 0 0,acc⟩else⟨s.to i (.EX j),none,acc⟩
def Ii(s:St)(C:kT)(i:Nat):St:=s.to i (if C.N=1 then .flag else .rm)
def DB(s:St)(C:kT)(i:Nat)(h:Bool)(acc:Option Acc):Out:=
 if h then⟨s.to i .halted,ev 10 0 0 0,acc⟩else⟨Ii (s.tB i 0) C i,none,acc⟩
def got(s:St)(i:Nat)(x:Int)(v:Int):St:=
 ((s.holds i (some x.toNat)).to i (.start v)).put x.toNat (.held i)
def lT(C:kT)(p:Fr)(f:Nat)(sl g c:Nat):Fr:=
 { fn:=g,J:=0,par:=f,slot:=sl,ct:=0,nD:=C.pd p.nD p.ct,da:=λr=>if r<C.params g then p.da (c+r)else 0}
def instr(C:kT)(s:St)(i:Nat):Out:=
 let f:=(s.hold i).getD 0
 let x:=s.fr f
 let y:Fr:={x with J:=x.J+1}
 match C.code x.fn x.J with
 | .const a k=>⟨s.lay f {y with da:=dW x.da a k},none,none⟩
 | .move a b=>⟨s.lay f {y with da:=dW x.da a (x.da b)},none,none⟩
 | .arith op a b c=>⟨s.lay f {y with da:=dW x.da a (C.ap op (x.da b) (x.da c))},none,none⟩
 | .jump a=>⟨s.lay f {y with J:=a},none,none⟩
 | .branch a b=>⟨s.lay f (if x.da a≠0 then {y with J:=b}else y),none,none⟩
 | .nD a=>⟨s.lay f {y with da:=dW x.da a x.nD},none,none⟩
 | .load a sl=>⟨s.lay f {y with da:=dW x.da a (s.mem (.slot f sl))},none,pV (.slot f sl) (s.mem (.slot f sl))⟩
 | .spawn sl g c =>
  let n:=s.mem .next+1
  let s:=(s.wr .next n).lay f y
  if (C.F:Int)<=n-1 then⟨{s with JX:=true}.to i .full,ev 11 (-1) 0 0,B8 .next 1 n⟩
  else ⟨{((s.lay f {y with ct:=x.ct+1}).lay s.nf (lT C x f sl g c))with nf:=s.nf+1}.put s.nf (.cw i) |>.to i (.fork s.nf),none,B8 .next 1 n⟩
 | .sync =>
  let n:=s.mem (.join f)-1
  let s:=(s.wr (.join f) n).lay f y
  if 0<n then⟨((s.holds i none).to i .GZ).put f .waiting,ev 4 f 0 0,B8 (.join f) (-1) n⟩
  else ⟨(s.to i .ta).put f (.uk i),none,B8 (.join f) (-1) n⟩
 | .ret a =>
  let v:=x.da a
  let s:=s.lay f y
  if f=0 then⟨{(((s.wr .result v).holds i none).to i .done).put 0 (.fin i)with val:=some v},ev 6 0 (-1) v,sL .result v⟩
  else ⟨(((s.wr (.slot x.par x.slot) v).holds i none).to i (.out x.par f)).put f (.fin i),ev 6 f x.par v,sL (.slot x.par x.slot) v⟩
def aJ(C:kT)(s:St)(i:Nat)(d:Int):Out:=
 let f:=(s.hold i).getD 0
 match s.pc i with
 | .halted | .full=>⟨s,none,none⟩
 | .start x=>let v:=s.mem (.mark f)+1;⟨(s.wr (.mark f) v).to i .run,ev 1 f x v,B8 (.mark f) 1 v⟩
 | .run=>instr C s i
 | .fork c=>let v:=s.mem (.join f)+1;⟨((s.wr (.join f) v).Fz f (c::s.ct f)).to i (.Dz c),none,B8 (.join f) 1 v⟩
 | .ta=>⟨((s.wr (.join f) 1).to i .run).put f (.held i),ev 5 f 0 0,sL (.join f) 1⟩
 | .out p c =>
  let n:=s.mem (.join p)-1
  let s:=((s.wr (.join p) n).Fz p ((s.ct p).erase c)).put c .gone
  if n=0 then⟨(s.to i (.take p c)).put p (.yf i),none,B8 (.join p) (-1) n⟩else⟨s.to i .GZ,none,B8 (.join p) (-1) n⟩
 | .take p c=>⟨(((s.wr (.join p) 1).holds i (some p)).to i .run).put p (.held i),ev 7 p c 0,sL (.join p) 1⟩
 | .done=>pG (s.wr .Ex 1) C i (LZ C i) (sL .Ex 1)
 | .tell j=>if s.mem (.flag j)=1 then⟨(s.wr (.flag j) 0).to i (.xJ j),none,Ih (.flag j) 1 0 true⟩
  else pG s C i (LZ C j) (Ih (.flag j) 1 0 false)
 | .xJ j=>let v:=s.mem .tK-1;pG (s.wr .tK v) C i (LZ C j) (B8 .tK (-1) v)
 | .Dz c=>⟨s.to i (.Ac c (s.mem (.bot i))),none,pV (.bot i) (s.mem (.bot i))⟩
 | .Ac c b=>⟨s.to i (.tc c b (s.mem (.top i))),none,pV (.top i) (s.mem (.top i))⟩
 | .tc c b t=>⟨s.to i (.td c b t),none,pV (.buf i) (s.mem (.buf i))⟩
 | .td c b t =>
  let cc:=s.mem (.cap i (s.cur i))
  let a:=pV (.cap i (s.cur i)) cc
  if b-t<cc then⟨s.to i (.mM c b cc),none,a⟩
  else if(C.most:Int)<=cc then⟨{s with JX:=true}.to i .full,ev 11 c 1 0,a⟩
  else ⟨s.to i (.grow c b t cc),none,a⟩
 | .grow c b t cc =>
  let g:=s.cur i+1
  ⟨{s with base:=dW s.base i (dW (s.base i) g s.size),size:=s.size+1+jr C cc,
            mem:=λa=>match a with | .cap i' g'=>if i'=i/\g'=g then 0 else s.mem a | .el i' g' _=>if i'=i/\g'=g then 0 else s.mem a | _=>s.mem a}.to i (.pD c b t cc),
   none,Yq (.cap i g) (1+jr C cc)⟩
 | .pD c b t cc=>⟨(s.wr (.cap i (s.cur i+1)) (jr C cc)).to i (.mL c b t cc t),none,sL (.cap i (s.cur i+1)) (jr C cc)⟩
 | .mL c b t cc n=>let x:=s.mem (.el i (s.cur i) (ix n cc));⟨s.to i (.mS c b t cc n x),none,pV (.el i (s.cur i) (ix n cc)) x⟩
 | .mS c b t cc n x =>
  ⟨(s.wr (.el i (s.cur i+1) (ix n (jr C cc))) x).to i (if n+1<b then .mL c b t cc (n+1)else .pE c b t cc),none,sL (.el i (s.cur i+1) (ix n (jr C cc))) x⟩
 | .pE c b t cc =>
  let a:=s.base i (s.cur i+1)
  ⟨{s.wr (.buf i) a with cur:=dW s.cur i (s.cur i+1)}.to i (.mM c b (jr C cc)),none,sL (.buf i) a⟩
 | .mM c b cc=>⟨(s.wr (.el i (s.cur i) (ix b cc)) c).to i (.rW c b),none,sL (.el i (s.cur i) (ix b cc)) c⟩
 | .rW c b=>⟨(((s.wr (.bot i) (b+1)).qU i (s.q i++[c])).put c (.SR i)).to i .Ig,ev 2 c f (s.fr c).nD,sL (.bot i) (b+1)⟩
 | .Ig=>let n:=s.mem .tK;⟨s.to i (if 0<n/\1<C.N then .uj (LZ C i)else .run),none,pV .tK n⟩
 | .uj j =>
  if s.mem (.flag j)=1 then⟨(s.wr (.flag j) 0).to i (.wc j),none,Ih (.flag j) 1 0 true⟩
  else ⟨s.to i (if LZ C j=i then .run else .uj (LZ C j)),none,Ih (.flag j) 1 0 false⟩
 | .wc j=>let v:=s.mem .tK-1;⟨(s.wr .tK v).to i .run,ev 3 f j 0,B8 .tK (-1) v⟩
 | .GZ=>⟨s.to i (.wX (s.mem (.bot i)-1)),none,pV (.bot i) (s.mem (.bot i))⟩
 | .wX b=>⟨s.to i (.rH b),none,pV (.buf i) (s.mem (.buf i))⟩
 | .rH b=>⟨(s.wr (.bot i) b).to i (.Ey b),none,sL (.bot i) b⟩
 | .Ey b =>
  let t:=s.mem (.top i)
  let a:=pV (.top i) t
  if t<b then
   let x:=(s.q i).getLastD 0
   ⟨(((s.to i (.vG b t)).qU i (s.q i).dropLast).put x (.pop i)).mZ i (some x),none,a⟩
  else if t=b then⟨s.to i (.vG b t),none,a⟩else⟨s.to i (.qu t),none,a⟩
 | .qu t=>⟨Ii ((s.wr (.bot i) t).tB i 0) C i,none,sL (.bot i) t⟩
 | .vG b t=>let cc:=s.mem (.cap i (s.cur i));⟨s.to i (.sE b t cc),none,pV (.cap i (s.cur i)) cc⟩
 | .sE b t cc =>
  let x:=s.mem (.el i (s.cur i) (ix b cc))
  let a:=pV (.el i (s.cur i) (ix b cc)) x
  if t<b then⟨(got s i x (-1)).mZ i none,none,a⟩else⟨s.to i (.uP b t x),none,a⟩
 | .uP b t x =>
  if s.mem (.top i)=t then⟨((((s.wr (.top i) (t+1)).to i (.tA t x true)).qU i []).put x.toNat (.pop i)).mZ i (some x.toNat),none,Ih (.top i) t (t+1) true⟩
  else ⟨s.to i (.tA t x false),none,Ih (.top i) t (t+1) false⟩
 | .tA t x AU =>
  let s:=(s.wr (.bot i) (t+1)).tB i 0
  ⟨if AU then(got s i x (-1)).mZ i none else Ii s C i,none,sL (.bot i) (t+1)⟩
 | .rm =>
  let v:=((i+1+(d%((C.N:Int)-1)).toNat)%C.N)
  ⟨s.to i (.vH v (s.mem (.top v))),none,pV (.top v) (s.mem (.top v))⟩
 | .vH v t =>
  let b:=s.mem (.bot v)
  if b<=t then⟨(s.tB i (s.fZ i+1)).to i .Ez,none,pV (.bot v) b⟩else⟨s.to i (.rI v t),none,pV (.bot v) b⟩
 | .rI v t=>⟨s.to i (.qv v t (s.cur v)),none,pV (.buf v) (s.mem (.buf v))⟩
 | .qv v t g=>let cc:=s.mem (.cap v g);⟨s.to i (.og v t g cc),none,pV (.cap v g) cc⟩
 | .og v t g cc=>let x:=s.mem (.el v g (ix t cc));⟨s.to i (.pF v t x),none,pV (.el v g (ix t cc)) x⟩
 | .pF v t x =>
  if s.mem (.top v)=t then⟨got ((s.wr (.top v) (t+1)).qU v (s.q v).tail) i x v,ev 8 x v 0,Ih (.top v) t (t+1) true⟩
  else ⟨(s.tB i (s.fZ i+1)).to i .Ez,none,Ih (.top v) t (t+1) false⟩
 | .Ez =>
  let d:=s.mem .Ex
  if d=1 then⟨s.to i .halted,ev 10 0 0 0,pV .Ex d⟩
  else ⟨s.to i (if s.fZ i<3 then .rm else .flag),none,pV .Ex d⟩
 | .flag=>⟨(s.wr (.flag i) 1).to i .sleep,none,sL (.flag i) 1⟩
 | .sleep=>let v:=s.mem .tK+1;⟨(s.wr .tK v).to i .vr,none,B8 .tK 1 v⟩
 | .vr=>let d:=s.mem .Ex;if d=1 then⟨s.to i (.back true),none,pV .Ex d⟩else looking s C i (LZ C i) (pV .Ex d)
 | .EX j=>⟨s.to i (.DA j (s.mem (.top j))),none,pV (.top j) (s.mem (.top j))⟩
 | .DA j t=>let b:=s.mem (.bot j);if t<b then⟨s.to i (.back false),none,pV (.bot j) b⟩else looking s C i (LZ C j) (pV (.bot j) b)
 | .parked=>let v:=s.mem (.flag i);if v=1 then⟨s,none,pV (.flag i) v⟩else⟨Ii (s.tB i 0) C i,none,pV (.flag i) v⟩
 | .back h=>if s.mem (.flag i)=1 then⟨(s.wr (.flag i) 0).to i (.we h),none,Ih (.flag i) 1 0 true⟩else DB s C i h (Ih (.flag i) 1 0 false)
 | .we h=>let v:=s.mem .tK-1;DB (s.wr .tK v) C i h (B8 .tK (-1) v)
theorem Yr{m n c:Int}(hc:0<c)(h:ix m c=ix n c)(h1:m-n<c)(h2:n-m<c):m=n:=by
 have a1:=ER m (b:=c) aB;have a2:=ER n (b:=c) aB;have b1:=ES m hc;have b2:=ES n hc;have h':m%c=n%c:=by unfold ix at h;omega
 have e1:=Int.mul_ediv_add_emod m c;have e2:=Int.mul_ediv_add_emod n c;have h3:m-n=c*(m/c-n/c):=by rw[Int.mul_sub];omega
 have:m/c-n/c=0:=by
  rcases Int.lt_trichotomy (m/c-n/c) 0 with h | h | h
  ·have:c*(m/c-n/c)<=c*(-1):=Int.mul_le_mul_of_nonneg_left aB aB;omega
  ·exact h
  ·have:c*1<=c*(m/c-n/c):=Int.mul_le_mul_of_nonneg_left aB aB;omega
 rw[this]at h3;omega
theorem SS{m n c:Int}(hc:0<c)(h1:m-n<c)(h2:n-m<c)(h:m≠n):ix m c≠ix n c:=λe=>h (Yr hc e h1 h2)
namespace St
abbrev T(s:St)(j:Nat):Int:=s.mem (.top j)
abbrev B(s:St)(j:Nat):Int:=s.mem (.bot j)
abbrev cc(s:St)(j:Nat):Int:=s.mem (.cap j (s.cur j))
abbrev L(s:St)(j:Nat):Int:=((s.q j).length:Int)
end St
def DC(C:kT)(s:St)(j:Nat)(b t cc:Int):Prop:=s.B j=b/\s.T j+s.L j=b/\s.L j<=s.cc j/\t<=s.T j/\cc=s.cc j/\b-t=cc/\cc<C.most
def Bq(C:kT)(s:St)(j:Nat)(n:Int):Prop:=
 s.mem (.cap j (s.cur j+1))=jr C (s.cc j)/\∀m,s.T j<=m->m<n->s.mem (.el j (s.cur j+1) (ix m (jr C (s.cc j))))=s.mem (.el j (s.cur j) (ix m (s.cc j)))
def wh(s:St)(j:Nat)(b t:Int):Prop:=
 s.B j=b/\t<=b/\0<=b/\(t<b->s.T j+s.L j=b/\s.L j+1<=s.cc j/\∃x:Nat,s.pop j=some x/\s.mem (.el j (s.cur j) (ix b (s.cc j)))=x)
  /\(t=b->s.T j+s.L j=b+1/\t<=s.T j/\s.L j<=s.cc j)
def rN(C:kT)(s:St)(j:Nat):Prop:=
 match s.pc j with
 | .Ac c b=>s.B j=b/\s.T j+s.L j=b/\s.L j<=s.cc j
 | .tc c b t=>s.B j=b/\s.T j+s.L j=b/\s.L j<=s.cc j/\t<=s.T j/\b-t<=s.cc j
 | .td c b t=>s.B j=b/\s.T j+s.L j=b/\s.L j<=s.cc j/\t<=s.T j/\b-t<=s.cc j
 | .grow c b t cc=>DC C s j b t cc
 | .pD c b t cc=>DC C s j b t cc
 | .mL c b t cc n=>DC C s j b t cc/\Bq C s j n/\t<=n/\n<b
 | .mS c b t cc n x=>DC C s j b t cc/\Bq C s j n/\t<=n/\n<b/\x=s.mem (.el j (s.cur j) (ix n (s.cc j)))
 | .pE c b t cc=>DC C s j b t cc/\Bq C s j b
 | .mM c b cc=>s.B j=b/\s.T j+s.L j=b/\s.L j+1<=s.cc j/\cc=s.cc j
 | .rW c b=>s.B j=b/\s.T j+s.L j=b/\s.L j+1<=s.cc j/\s.mem (.el j (s.cur j) (ix b (s.cc j)))=c
 | .wX b=>s.B j=b+1/\s.T j+s.L j=b+1/\s.L j<=s.cc j
 | .rH b=>s.B j=b+1/\s.T j+s.L j=b+1/\s.L j<=s.cc j
 | .Ey b=>s.B j=b/\s.T j+s.L j=b+1/\s.L j<=s.cc j
 | .qu t=>s.T j=t/\s.L j=0/\s.B j=t-1
 | .vG b t=>wh s j b t
 | .sE b t cc=>wh s j b t/\cc=s.cc j
 | .uP b t x=>s.B j=b/\t=b/\s.T j+s.L j=b+1/\t<=s.T j/\(s.T j=t->s.q j=[x.toNat]/\0<=x)/\s.L j<=s.cc j
 | .tA t x AU=>s.B j=t/\s.T j=t+1/\s.L j=0/\(AU=true->s.pop j=some x.toNat/\0<=x)
 | _=>s.B j=s.T j+s.L j/\s.L j<=s.cc j
structure D(C:kT)(s:St)(j:Nat):Prop where
 t0:0<=s.T j
 zG:∀g,g<=s.cur j->1<=s.mem (.cap j g)
 Ct:s.cc j<=C.most
 EA:s.mem (.buf j)=s.base j (s.cur j)
 els:∀n,n<(s.q j).length->s.mem (.el j (s.cur j) (ix (s.T j+n) (s.cc j)))=(((s.q j).getD n 0:Nat):Int)
 ph:rN C s j
def Th(C:kT)(s:St)(i:Nat):Prop:=
 match s.pc i with
 | .rm=>C.N≠1
 | .Ez=>C.N≠1
 | .vH v t=>v<C.N/\v≠i/\t<=s.T v
 | .rI v t=>v<C.N/\v≠i/\t<=s.T v/\(t=s.T v->s.q v≠[])
 | .qv v t g=>v<C.N/\v≠i/\t<=s.T v/\g<=s.cur v/\(t=s.T v->∃x l,s.q v=x::l/\s.mem (.el v g (ix t (s.mem (.cap v g))))=(x:Nat))
 | .og v t g cc=>v<C.N/\v≠i/\t<=s.T v/\g<=s.cur v/\cc=s.mem (.cap v g)/\(t=s.T v->∃x l,s.q v=x::l/\s.mem (.el v g (ix t (s.mem (.cap v g))))=(x:Nat))
 | .pF v t x=>v<C.N/\v≠i/\t<=s.T v/\(t=s.T v->∃y l,s.q v=y::l/\x=(y:Nat))
 | _=>True
structure Br(s s':St)(j:Nat):Prop where
 top:s'.mem (.top j)=s.mem (.top j)
 bot:s'.mem (.bot j)=s.mem (.bot j)
 buf:s'.mem (.buf j)=s.mem (.buf j)
 cap:∀g,s'.mem (.cap j g)=s.mem (.cap j g)
 el:∀g n,s'.mem (.el j g n)=s.mem (.el j g n)
 cur:s'.cur j=s.cur j
 base:s'.base j=s.base j
 q:s'.q j=s.q j
 pop:s'.pop j=s.pop j
theorem D.same{C:kT}{s s':St}{j:Nat}(h:D C s j)(e:Br s s' j)(hp:rN C s' j):D C s' j:=by
 obtain⟨h1,h2,h3,h4,h5,h6⟩:=h;obtain⟨e1,e2,e3,e4,e5,e6,e7,e8,e9⟩:=e;refine⟨?_,?_,?_,?_,?_,hp⟩
 ·rw[St.T,e1];exact h1
 ·intro g hg;rw[e4];rw[e6]at hg;exact h2 g hg
 ·rw[St.cc,e6,e4];exact h3
 ·rw[e3,e7,e6];exact h4
 ·intro n hn;simp only[St.T,St.cc,e1,e4,e5,e6,e8];exact h5 n (by rw[e8]at hn;exact hn)
theorem rN.same{C:kT}{s s':St}{j:Nat}(h:rN C s j)(e:Br s s' j)(hp:s'.pc j=s.pc j):rN C s' j:=by
 obtain⟨e1,e2,e3,e4,e5,e6,e7,e8,e9⟩:=e;unfold rN at h⊢;simp only[hp,DC,Bq,wh,St.T,St.B,St.L,St.cc,e1,e2,e3,e4,e5,e6,e7,e8,e9]at h⊢;exact h
theorem D.WY{C:kT}{s s':St}{j:Nat}(h:D C s j)(e:Br s s' j)(hp:s'.pc j=s.pc j):D C s' j:=h.same e (h.ph.same e hp)
structure Calm(s s':St)(v:Nat):Prop where
 top:s.T v<=s'.T v
 cur:s.cur v<=s'.cur v
 cap:∀g,g<=s.cur v->s'.mem (.cap v g)=s.mem (.cap v g)
 q:s.T v=s'.T v->∀x l,s.q v=x::l->(∃l',s'.q v=x::l')/\∀g,g<=s.cur v->s.mem (.el v g (ix (s.T v) (s.mem (.cap v g))))=(x:Nat)->s'.mem (.el v g (ix (s.T v) (s.mem (.cap v g))))=(x:Nat)
theorem Th.calm{C:kT}{s s':St}{i:Nat}(h:Th C s i)(e:∀v,v≠i->Calm s s' v)(hp:s'.pc i=s.pc i):Th C s' i:=by
 unfold Th at h⊢;rw[hp];split
 ·rename_i hh;rw[hh]at h;exact h
 ·rename_i hh;rw[hh]at h;exact h
 ·rename_i v t hh;rw[hh]at h;simp only at h;exact⟨h.1,h.2.1,Int.le_trans h.2.2 (e v h.2.1).top⟩
 ·rename_i v t hh;rw[hh]at h;simp only at h;have E:=e v h.2.1;refine⟨h.1,h.2.1,Int.le_trans h.2.2.1 E.top,λht => ?_⟩;have e1:t=s.T v:=Int.le_antisymm h.2.2.1 (ht▸ E.top);obtain⟨x,l,hq⟩:=List.exists_cons_of_ne_nil (h.2.2.2 e1);obtain⟨⟨l',h'⟩,_⟩:=E.q (e1.symm.trans ht) x l hq;rw[h'];exact List.cons_ne_nil _ _
 ·rename_i v t g hh;rw[hh]at h;simp only at h;have E:=e v h.2.1;obtain⟨h1,h2,h3,h4,h5⟩:=h;refine⟨h1,h2,Int.le_trans h3 E.top,E1 h4 E.cur,λht => ?_⟩;have e1:t=s.T v:=Int.le_antisymm h3 (ht▸ E.top);obtain⟨x,l,hq,hx⟩:=h5 e1;obtain⟨⟨l',h'⟩,h''⟩:=E.q (e1.symm.trans ht) x l hq;refine⟨x,l',h',?_⟩;rw[E.cap g h4,e1];exact h'' g h4 (by rw[<-e1];exact hx)
 ·rename_i v t g cc hh;rw[hh]at h;simp only at h;have E:=e v h.2.1;obtain⟨h1,h2,h3,h4,h0,h5⟩:=h;refine⟨h1,h2,Int.le_trans h3 E.top,E1 h4 E.cur,by rw[E.cap g h4];exact h0,λht => ?_⟩;have e1:t=s.T v:=Int.le_antisymm h3 (ht▸ E.top);obtain⟨x,l,hq,hx⟩:=h5 e1;obtain⟨⟨l',h'⟩,h''⟩:=E.q (e1.symm.trans ht) x l hq;refine⟨x,l',h',?_⟩;rw[E.cap g h4,e1];exact h'' g h4 (by rw[<-e1];exact hx)
 ·rename_i v t x hh;rw[hh]at h;simp only at h;have E:=e v h.2.1;obtain⟨h1,h2,h3,h5⟩:=h;refine⟨h1,h2,Int.le_trans h3 E.top,λht => ?_⟩;have e1:t=s.T v:=Int.le_antisymm h3 (ht▸ E.top);obtain⟨y,l,hq,hx⟩:=h5 e1;obtain⟨⟨l',h'⟩,h''⟩:=E.q (e1.symm.trans ht) y l hq;exact⟨y,l',h',hx⟩
 ·trivial
theorem Br.calm{s s':St}{v:Nat}(e:Br s s' v):Calm s s' v:=by
 obtain⟨e1,e2,e3,e4,e5,e6,e7,e8,e9⟩:=e;exact⟨by simp only[St.T,e1];exact xn _,by rw[e6];exact j9 _,λg _=>e4 g,λ_ x l hq=>⟨⟨l,e8▸ hq⟩,λg _ h=>by rw[e5];exact h⟩⟩
def DT(C:kT)(s:St):Prop:=(∀j,j<C.N->D C s j)/\∀i,i<C.N->Th C s i
theorem DT.own{C:kT}{s s':St}{i:Nat}(h:DT C s)(hs:∀j,j≠i->Br s s' j)(hp:∀j,j≠i->s'.pc j=s.pc j)(hd:D C s' i)(hc:Calm s s' i)(ht:Th C s' i):DT C s':=by
 refine⟨λj hj => ?_,λk hk => ?_⟩
 ·by_cases e:j=i
  ·subst e;exact hd
  ·exact(h.1 j hj).WY (hs j e) (hp j e)
 ·by_cases e:k=i
  ·subst e;exact ht
  ·exact(h.2 k hk).calm (λv hv=>by
    by_cases e':v=i
    ·subst e';exact hc
    ·exact(hs v e').calm) (hp k e)
def uw.own:uw->Option Nat
 | .top i | .bot i | .buf i | .cap i _ | .el i _ _=>some i
 | _=>none
theorem Br.of{s s':St}{j:Nat}(hm:∀a,a.own=some j->s'.mem a=s.mem a)(h1:s'.cur j=s.cur j)(h2:s'.base j=s.base j)(h3:s'.q j=s.q j)(h4:s'.pop j=s.pop j):Br s s' j:=
 ⟨hm _ rfl,hm _ rfl,hm _ rfl,λ_=>hm _ rfl,λ_ _=>hm _ rfl,h1,h2,h3,h4⟩
def Idle:Pc->Prop
 | .Ac .. | .tc .. | .td .. | .grow .. | .pD .. | .mL .. | .mS .. | .pE .. | .mM .. | .rW ..
 | .wX .. | .rH .. | .Ey .. | .qu .. | .vG .. | .sE .. | .uP .. | .tA .. => False
 | _=>True
theorem rN.idle{C:kT}{s:St}{j:Nat}(hi:Idle (s.pc j)):rN C s j↔s.B j=s.T j+s.L j/\s.L j<=s.cc j:=by
 unfold rN;split<;>rename_i hh<;>first | (rw[hh]at hi;exact hi.elim) | exact Iff.rfl
theorem D.idle{C:kT}{s s':St}{j:Nat}(h:D C s j)(e:Br s s' j)(hi:Idle (s.pc j))(hi':Idle (s'.pc j)):D C s' j:=by
 refine h.same e ((rN.idle hi').2 ?_);have:=(rN.idle hi).1 h.ph;obtain⟨e1,e2,e3,e4,e5,e6,e7,e8,e9⟩:=e
 simpa only [St.T,St.B,St.L,St.cc,e1,e2,e4,e6,e8]using this
theorem DT.gF{C:kT}{s s':St}{i:Nat}(h:DT C s)(hi:i<C.N)(hm:∀a,a.own≠none->s'.mem a=s.mem a)(h1:s'.cur=s.cur)(h2:s'.base=s.base)(h3:s'.q=s.q)(h4:s'.pop=s.pop)
 (hp:∀j,j≠i->s'.pc j=s.pc j) (hid:Idle (s.pc i)) (Ys:Idle (s'.pc i)) (ht:Th C s' i):DT C s':=by
 have e:∀j,Br s s' j:=λj=>Br.of (λa ha=>hm a (by rw[ha];exact Option.some_ne_none _)) (by rw[h1]) (by rw[h2]) (by rw[h3]) (by rw[h4]);exact h.own (i:=i) (λj _=>e j) hp ((h.1 i hi).idle (e i) hid Ys) (e i).calm ht
theorem Th.plain{C:kT}{s:St}{i:Nat}(h:match s.pc i with | .rm | .Ez | .vH .. | .rI .. | .qv .. | .og .. | .pF .. => False | _=>True):Th C s i:=by
 unfold Th;split<;>rename_i hh<;>first | (rw[hh]at h;exact h.elim) | trivial
theorem DT.mine{C:kT}{s s':St}{i:Nat}(h:DT C s)(hi:i<C.N)(hm:∀a,a.own≠some i->s'.mem a=s.mem a)(h1:∀j,j≠i->s'.cur j=s.cur j)(h2:∀j,j≠i->s'.base j=s.base j)(h3:∀j,j≠i->s'.q j=s.q j)(h4:∀j,j≠i->s'.pop j=s.pop j)
 (hp:∀j,j≠i->s'.pc j=s.pc j) (hd:D C s' i) (hc:Calm s s' i) (ht:Th C s' i):DT C s':=
 h.own (i:=i) (λj hj=>Br.of (λa ha=>hm a (by rw[ha];intro e;exact hj (Option.some.inj e))) (h1 j hj) (h2 j hj) (h3 j hj) (h4 j hj)) hp hd hc ht
section
variable {C:kT}{s:St}{i:Nat}
theorem DT.reads{s':St}(h:DT C s)(hi:i<C.N)(hm:s'.mem=s.mem)(h1:s'.cur=s.cur)(h2:s'.base=s.base)(h3:s'.q=s.q)(h4:s'.pop=s.pop)
 (hp:∀j,j≠i->s'.pc j=s.pc j) (hd:rN C s' i) (ht:Th C s' i):DT C s':=by
 have e:∀j,Br s s' j:=λj=>Br.of (λa _=>by rw[hm]) (by rw[h1]) (by rw[h2]) (by rw[h3]) (by rw[h4]);exact h.own (i:=i) (λj _=>e j) hp ((h.1 i hi).same (e i) hd) (e i).calm ht
theorem oE{s:St}{i j:Nat}{p:Pc}(h:j≠i):(s.to i p).pc j=s.pc j:=bA h
theorem j0{s:St}{i:Nat}{p:Pc}:(s.to i p).pc i=p:=bK _ _ _
theorem nr{s:St}{a x:uw}{v:Int}(h:x≠a):(s.wr a v).mem x=s.mem x:=bA h
end
section
variable {C:kT}{s:St}{i:Nat}
theorem I0{cc:Int}(h:cc<C.most)(h1:1<=cc):cc<jr C cc/\jr C cc<=C.most:=by unfold jr;split<;>omega
theorem Qn(h:DT C s)(hi:i<C.N){c b t cc d}(hp:s.pc i= .grow c b t cc):DT C (aJ C s i d).s:=by
 have H:=h.1 i hi;have P:=H.ph;unfold rN at P;rw[hp]at P;simp only at P;unfold aJ;rw[hp];simp only;have e1:∀g n,g<=s.cur i->(if True/\g=s.cur i+1 then(0:Int)else n)=n:=λg n hg=>cF aB;refine h.mine hi ?_ (λj hj=>rfl) (λj hj=>bA hj) (λj hj=>rfl) (λj hj=>rfl) (λj hj=>oE hj) ⟨H.t0,?_,?_,?_,?_,?_⟩ ⟨xn _,j9 _,?_,?_⟩ (Th.plain (by rw[j0];trivial))
 ·intro a ha;simp only[St.to];cases a<;>simp only[uw.own,ne_eq,Option.some.injEq]at ha⊢<;> simp[ha]
 ·intro g hg;simp only[St.to]at hg⊢;rw[e1 g _ hg];exact H.zG g hg
 ·simp only[St.cc,St.to];rw[e1 _ _ (j9 _)];exact H.Ct
 ·simp only[St.to,bK];rw[bA aB];exact H.EA
 ·intro n hn;simp only[St.to,St.T,St.cc]at hn⊢;rw[e1 _ _ (j9 _),e1 _ _ (j9 _)];exact H.els n hn
 ·unfold rN;rw[j0];simp only[DC,St.B,St.T,St.L,St.cc,St.to]at P⊢;rw[e1 _ _ (j9 _)];exact P
 ·intro g hg;simp only[St.to];exact e1 g _ hg
 ·intro _ x l hq;refine⟨⟨l,hq⟩,λg hg hx => ?_⟩;simp only[St.to];rw[e1 g _ hg];exact hx
theorem JY(h:DT C s)(hi:i<C.N){c b t cc d}(hp:s.pc i= .pD c b t cc):DT C (aJ C s i d).s:=by
 have H:=h.1 i hi;have P:=H.ph;unfold rN at P;rw[hp]at P;simp only at P;unfold aJ;rw[hp];simp only;have e1:∀g,g<=s.cur i->uw.cap i g≠.cap i (s.cur i+1):=λg hg e=>by injection e;omega
 refine h.mine hi (λa ha => ?_) (λj hj=>rfl) (λj hj=>rfl) (λj hj=>rfl) (λj hj=>rfl) (λj hj=>oE hj) ⟨?_,?_,?_,?_,?_,?_⟩ ⟨?_,j9 _,?_,?_⟩ (Th.plain (by rw[j0];trivial))
 ·exact nr (λe=>ha (by rw[e];rfl))
 ·simp only[St.T,St.cc,St.to,St.wr,St.put,St.qU];rw[bA pW];exact H.t0
 ·intro g hg;simp only[St.T,St.cc,St.to,St.wr,St.put,St.qU];rw[bA (e1 g hg)];exact H.zG g hg
 ·simp only[St.T,St.cc,St.to,St.wr,St.put,St.qU];rw[bA (e1 _ (j9 _))];exact H.Ct
 ·simp only[St.T,St.cc,St.to,St.wr,St.put,St.qU];rw[bA pW];exact H.EA
 ·intro n hn;simp only[St.T,St.cc,St.to,St.wr,St.put,St.qU]at hn⊢;rw[bA pW,bA pW,bA (e1 _ (j9 _))];exact H.els n hn
 ·unfold rN;rw[j0];simp only[DC,Bq,St.B,St.T,St.L,St.cc,St.to,St.wr,bK]at P⊢;rw[bA (e1 _ (j9 _)),bA pW,bA pW];have:=H.zG _ (j9 (s.cur i));refine⟨P,⟨by rw[P.2.2.2.2.1],λm h1 h2=>aB⟩,xn _,aB⟩
 ·simp only[St.T,St.cc,St.to,St.wr,St.put,St.qU];rw[bA pW];exact xn _
 ·intro g hg;exact nr (e1 g hg)
 ·intro _ x l hq;refine⟨⟨l,hq⟩,λg hg hx => ?_⟩;simp only[St.T,St.cc,St.to,St.wr,St.put,St.qU];rw[bA pW];exact hx
theorem Ij(h:DT C s)(hi:i<C.N){c b t cc n d}(hp:s.pc i= .mL c b t cc n):DT C (aJ C s i d).s:=by
 have H:=h.1 i hi;have P:=H.ph;unfold rN at P;rw[hp]at P;simp only at P;unfold aJ;rw[hp];simp only;refine h.reads hi rfl rfl rfl rfl rfl (λj hj=>oE hj) ?_ (Th.plain (by rw[j0];trivial));unfold rN;rw[j0];simp only;exact⟨P.1,P.2.1,P.2.2.1,P.2.2.2,by rw[P.1.2.2.2.2.1];rfl⟩
theorem G0(h:DT C s)(hi:i<C.N){c b t cc n x d}(hp:s.pc i= .mS c b t cc n x):DT C (aJ C s i d).s:=by
 have H:=h.1 i hi;have P:=H.ph;unfold rN at P;rw[hp]at P;simp only at P;obtain⟨⟨g1,g2,g3,g4,g5,g6,g7⟩,⟨k1,k2⟩,p3,p4,p5⟩:=P;have c1:=H.zG _ (j9 (s.cur i));obtain⟨b1,b2⟩:=I0 (C:=C) g7 (by rw[g5];exact c1);unfold aJ;rw[hp];simp only;have e1:∀g k,g<=s.cur i->uw.el i g k≠.el i (s.cur i+1) (ix n (jr C cc)):=λg k hg e=>by injection e;omega
 refine h.mine hi (λa ha=>nr (λe=>ha (by rw[e];rfl))) (λj hj=>rfl) (λj hj=>rfl) (λj hj=>rfl) (λj hj=>rfl) (λj hj=>oE hj) ⟨?_,?_,?_,?_,?_,?_⟩ ⟨?_,j9 _,?_,?_⟩ (Th.plain (by rw[j0];by_cases hb:n+1<b<;>simp[hb]))
 ·simp only[St.T,St.cc,St.to,St.wr,St.put,St.qU];rw[bA pW];exact H.t0
 ·intro g hg;simp only[St.T,St.cc,St.to,St.wr,St.put,St.qU];rw[bA pW];exact H.zG g hg
 ·simp only[St.T,St.cc,St.to,St.wr,St.put,St.qU];rw[bA pW];exact H.Ct
 ·simp only[St.T,St.cc,St.to,St.wr,St.put,St.qU];rw[bA pW];exact H.EA
 ·intro n hn;simp only[St.T,St.cc,St.to,St.wr,St.put,St.qU]at hn⊢;rw[bA (e1 _ _ (j9 _)),bA pW,bA pW];exact H.els n hn
 ·have hG:DC C ((s.wr (.el i (s.cur i+1) (ix n (jr C cc))) x).to i (if n+1<b then .mL c b t cc (n+1)else .pE c b t cc)) i b t cc:=by
   simp only[DC,St.B,St.T,St.L,St.cc,St.to,St.wr]at *;rw[bA pW,bA pW,bA pW];exact⟨g1,g2,g3,g4,g5,g6,g7⟩
  have hC:Bq C ((s.wr (.el i (s.cur i+1) (ix n (jr C cc))) x).to i (if n+1<b then .mL c b t cc (n+1)else .pE c b t cc)) i (n+1):=by
   simp only[Bq,St.T,St.cc,St.to,St.wr]at *;rw[bA pW,bA pW,bA pW];refine⟨k1,λm h1 h2 => ?_⟩;rw[bA (e1 _ _ (j9 _)),<-g5];by_cases hm:m=n
   ·subst hm;rw[bK,p5,<-g5]
   ·rw[bA (λe=>SS (m:=m) (n:=n) (c:=jr C cc) aB aB aB hm (by injection e)),g5];exact k2 m h1 aB
  unfold rN;rw[j0];by_cases hb:n+1<b
  ·simp only[aW hb]at hG hC⊢;exact⟨hG,hC,aB,hb⟩
  ·simp only[cF hb]at hG hC⊢;exact⟨hG,by rw[show b=n+1 by omega];rw[show b=n+1 by omega]at hC;exact hC⟩
 ·simp only[St.T,St.cc,St.to,St.wr,St.put,St.qU];rw[bA pW];exact xn _
 ·intro g hg;simp only[St.to,St.wr,St.put,St.qU];rw[bA pW]
 ·intro _ x l hq;refine⟨⟨l,hq⟩,λg hg hx => ?_⟩;simp only[St.T,St.cc,St.to,St.wr,St.put,St.qU];rw[bA (e1 _ _ hg)];exact hx
theorem JZ(h:DT C s)(hi:i<C.N){c b t cc d}(hp:s.pc i= .pE c b t cc):DT C (aJ C s i d).s:=by
 have H:=h.1 i hi;have P:=H.ph;unfold rN at P;rw[hp]at P;simp only at P;obtain⟨⟨g1,g2,g3,g4,g5,g6,g7⟩,⟨k1,k2⟩⟩:=P;have c1:=H.zG _ (j9 (s.cur i));obtain⟨b1,b2⟩:=I0 (C:=C) g7 (by rw[g5];exact c1);unfold aJ;rw[hp];simp only;rw[g5]at b1 b2;simp only[St.B,St.T,St.L,St.cc]at *;refine h.mine hi (λa ha=>nr (λe=>ha (by rw[e];rfl))) (λj hj=>bA hj) (λj hj=>rfl) (λj hj=>rfl) (λj hj=>rfl) (λj hj=>oE hj) ⟨?_,?_,?_,?_,?_,?_⟩ ⟨?_,?_,?_,?_⟩ (Th.plain (by rw[j0];trivial))
 ·simp only[St.T,St.cc,St.to,St.wr,St.put,St.qU];rw[bA pW];exact H.t0
 ·intro g hg;simp only[St.T,St.cc,St.to,St.wr,St.put,St.qU];rw[bA pW];simp only[St.to,bK]at hg;by_cases e:g=s.cur i+1
  ·rw[e,k1];omega
  ·exact H.zG g aB
 ·simp only[St.cc,St.to,bK];rw[nr pW,k1];exact b2
 ·simp only[St.to,bK];simp only[St.T,St.cc,St.to,St.wr,St.put,St.qU];exact bK _ _ _
 ·intro n hn;simp only[St.T,St.cc,St.to,bK]at hn⊢;rw[nr pW,nr pW,nr pW,k1,k2 _ aB (by simp only[St.L,St.wr]at *;omega)];exact H.els n hn
 ·unfold rN;rw[j0];simp only[St.B,St.T,St.L,St.cc,St.to,St.wr,bK]at *;rw[bA pW,bA pW,bA pW,k1,g5];exact⟨g1,g2,aB,rfl⟩
 ·simp only[St.T,St.cc,St.to,St.wr,St.put,St.qU];rw[bA pW];exact xn _
 ·simp only[St.to,bK];omega
 ·intro g hg;simp only[St.to,St.wr,St.put,St.qU];rw[bA pW]
 ·intro _ x l hq;refine⟨⟨l,hq⟩,λg hg hx => ?_⟩;simp only[St.T,St.cc,St.to,St.wr,St.put,St.qU];rw[bA pW];exact hx
theorem Ik(h:DT C s)(hi:i<C.N){c b cc d}(hp:s.pc i= .mM c b cc):DT C (aJ C s i d).s:=by
 have H:=h.1 i hi;have P:=H.ph;unfold rN at P;rw[hp]at P;simp only at P;obtain⟨g1,g2,g3,g4⟩:=P;have c1:=H.zG _ (j9 (s.cur i));have E:=H.els;have t0:=H.t0;unfold aJ;rw[hp];simp only;simp only[St.B,St.T,St.L,St.cc]at *;refine h.mine hi (λa ha=>nr (λe=>ha (by rw[e];rfl))) (λj hj=>rfl) (λj hj=>rfl) (λj hj=>rfl) (λj hj=>rfl) (λj hj=>oE hj) ⟨?_,?_,?_,?_,?_,?_⟩ ⟨?_,j9 _,?_,?_⟩ (Th.plain (by rw[j0];trivial))
 ·simp only[St.T,St.cc,St.to,St.wr,St.put,St.qU];rw[bA pW];exact H.t0
 ·intro g hg;simp only[St.T,St.cc,St.to,St.wr,St.put,St.qU];rw[bA pW];exact H.zG g hg
 ·simp only[St.T,St.cc,St.to,St.wr,St.put,St.qU];rw[bA pW];exact H.Ct
 ·simp only[St.T,St.cc,St.to,St.wr,St.put,St.qU];rw[bA pW];exact H.EA
 ·intro n hn;simp only[St.T,St.cc,St.to,St.wr,St.put,St.qU]at hn⊢;rw[bA (a:=uw.el i (s.cur i) (ix b cc)) (x:=uw.top i) pW,bA (x:=uw.cap i (s.cur i)) pW,g4];have hn':n<(s.q i).length:=hn;rw[bA (λe=>SS (m:=s.mem (.top i)+n) (n:=b) (c:=s.mem (.cap i (s.cur i))) aB aB aB aB (by injection e))];exact E n hn
 ·unfold rN;rw[j0];simp only[St.B,St.T,St.L,St.cc,St.to,St.wr,bK]at *;rw[bA pW,bA pW,bA pW,g4,bK];exact⟨g1,g2,aB,rfl⟩
 ·simp only[St.T,St.cc,St.to,St.wr,St.put,St.qU];rw[bA pW];exact xn _
 ·intro g hg;simp only[St.to,St.wr,St.put,St.qU];rw[bA pW]
 ·intro ht x l hq;refine⟨⟨l,hq⟩,λg hg hx => ?_⟩;simp only[St.T,St.cc,St.to,St.wr,St.put,St.qU];have hl:1<=(s.q i).length:=by rw[hq];simp
  by_cases eg:g=s.cur i
  ·subst eg;rw[bA (λe=>SS (m:=s.mem (.top i)) (n:=b) (c:=s.mem (.cap i (s.cur i))) aB aB aB aB (by rw[g4]at e;injection e))];exact hx
  ·rw[bA (λe=>eg (by injection e))];exact hx
theorem J0(h:DT C s)(hi:i<C.N){c b d}(hp:s.pc i= .rW c b):DT C (aJ C s i d).s:=by
 have H:=h.1 i hi;have P:=H.ph;unfold rN at P;rw[hp]at P;simp only at P;obtain⟨g1,g2,g3,g4⟩:=P;have E:=H.els;have t0:=H.t0;unfold aJ;rw[hp];simp only;simp only[St.B,St.T,St.L,St.cc]at *;refine h.mine hi (λa ha=>nr (λe=>ha (by rw[e];rfl))) (λj hj=>rfl) (λj hj=>rfl) (λj hj=>bA hj) (λj hj=>rfl) (λj hj=>oE hj) ⟨?_,?_,?_,?_,?_,?_⟩ ⟨?_,j9 _,?_,?_⟩ (Th.plain (by rw[j0];trivial))
 ·simp only[St.T,St.cc,St.to,St.wr,St.put,St.qU];rw[bA pW];exact H.t0
 ·intro g hg;simp only[St.T,St.cc,St.to,St.wr,St.put,St.qU];rw[bA pW];exact H.zG g hg
 ·simp only[St.T,St.cc,St.to,St.wr,St.put,St.qU];rw[bA pW];exact H.Ct
 ·simp only[St.T,St.cc,St.to,St.wr,St.put,St.qU];rw[bA pW];exact H.EA
 ·intro n hn;simp only[St.T,St.cc,St.to,St.put,St.qU,St.wr,bK]at hn⊢;rw[bA pW,bA pW,bA pW];rw[jP,F2]at hn;by_cases e:n<(s.q i).length
  ·rw[List.getD_eq_getElem?_getD,List.getElem?_append_left e,<-List.getD_eq_getElem?_getD];exact E n e
  ·have:n=(s.q i).length:=by omega
   subst this;rw[List.getD_eq_getElem?_getD,List.getElem?_append_right (j9 _)];simp only[Nat.sub_self,List.getElem?_cons_zero,qH];rw[g2];exact g4
 ·refine(rN.idle (by rw[j0];trivial)).2 ?_;simp only[St.B,St.T,St.L,St.cc,St.to,St.put,St.qU,St.wr,bK,jP,F2]at *;rw[bA pW,bA pW];constructor<;>omega
 ·simp only[St.T,St.cc,St.to,St.wr,St.put,St.qU];rw[bA pW];exact xn _
 ·intro g hg;simp only[St.to,St.wr,St.put,St.qU];rw[bA pW]
 ·intro ht x l hq;simp only[St.to,St.put,St.qU,bK];refine⟨⟨l++[c],by rw[hq];rfl⟩,λg hg hx => ?_⟩;simp only[St.T,St.cc,St.to,St.wr,St.put,St.qU];rw[bA pW];exact hx
end
section
variable {C:kT}{s:St}{i:Nat}
theorem DT.J1{s':St}(h:DT C s)(hi:i<C.N){v:Int}(hm:s'.mem=dW s.mem (.bot i) v)(h1:s'.cur=s.cur)(h2:s'.base=s.base)(h3:s'.q=s.q)(h4:∀j,j≠i->s'.pop j=s.pop j)
 (hp:∀j,j≠i->s'.pc j=s.pc j) (hd:rN C s' i) (ht:Th C s' i):DT C s':=by
 have H:=h.1 i hi;have e:∀a,a≠.bot i->s'.mem a=s.mem a:=λa ha=>by rw[hm];exact bA ha
 refine h.mine hi (λa ha=>e a (λe=>ha (by rw[e];rfl))) (λj _=>by rw[h1]) (λj _=>by rw[h2]) (λj _=>by rw[h3]) h4 hp ⟨?_,?_,?_,?_,?_,hd⟩ ⟨?_,by rw[h1];exact j9 _,?_,?_⟩ ht
 ·simp only[St.T];rw[e _ pW];exact H.t0
 ·intro g hg;rw[e _ pW];rw[h1]at hg;exact H.zG g hg
 ·simp only[St.cc,h1];rw[e _ pW];exact H.Ct
 ·rw[e _ pW,h1,h2];exact H.EA
 ·intro n hn;simp only[St.T,St.cc,h1,h3]at hn⊢;rw[e _ pW,e _ pW,e _ pW];exact H.els n hn
 ·simp only[St.T];rw[e _ pW];exact xn _
 ·intro g hg;rw[e _ pW]
 ·intro _ x l hq;refine⟨⟨l,by rw[h3];exact hq⟩,λg hg hx => ?_⟩;rw[e _ pW];exact hx
theorem Nv:∀(l:List Nat) (n:Nat),n+1=l.length->l.getD n 0=l.getLastD 0
 | [],n,h=>by simp at h
 | a::l,n,h=>by
  simp only[Ad]at h;have:n=l.length:=by omega
  subst this;rw[List.getLastD_cons,List.getD_eq_getElem?_getD,List.getElem?_eq_getElem (by simp),qH,List.getLastD_eq_getLast?,List.getLast?_eq_getElem?];cases l with
  | nil=>rfl
  | cons b l=>simp
theorem Il(l:List Nat)(n:Nat)(h:n+1<l.length):l.dropLast.getD n 0=l.getD n 0:=by
 simp only[List.getD_eq_getElem?_getD];rw[List.getElem?_dropLast,oU]
theorem Qo(h:DT C s)(hi:i<C.N){b d}(hp:s.pc i= .Ey b):DT C (aJ C s i d).s:=by
 have H:=h.1 i hi;have P:=H.ph;unfold rN at P;rw[hp]at P;simp only at P;obtain⟨g1,g2,g3⟩:=P;have E:=H.els;have t0:=H.t0;unfold aJ;rw[hp];simp only;simp only[St.B,St.T,St.L,St.cc]at *;split
 ·rename_i hb;have hl:((s.q i).length-1)+1=(s.q i).length:=by omega
  have hdl:(s.q i).dropLast.length=(s.q i).length-1:=by simp
  refine h.mine hi (λa ha=>rfl) (λj hj=>rfl) (λj hj=>rfl) (λj hj=>bA hj) (λj hj=>bA hj) (λj hj=>oE hj) ⟨H.t0,H.zG,H.Ct,H.EA,?_,?_⟩ ⟨xn _,j9 _,λ_ _=>rfl,?_⟩ (Th.plain (by simp[St.mZ,St.put,St.qU,St.to]))
  ·intro n hn;simp only[St.T,St.cc,St.to,St.put,St.qU,St.mZ,bK]at hn⊢;rw[hdl]at hn;rw[Il _ _ aB];exact E n aB
  ·unfold rN;simp only[St.mZ,St.put,St.qU,St.to,bK,wh,St.B,St.T,St.L,St.cc,hdl];refine⟨g1,aB,aB,λ_=>⟨aB,aB,_,rfl,?_⟩,λe=>aB⟩;rw[<-Nv _ _ hl,<-E _ aB];rw[show s.mem (.top i)+(((s.q i).length-1:Nat):Int)=b by omega]
  ·intro _ x l hq;simp only[St.mZ,St.put,St.qU,St.to,bK];refine⟨?_,λg hg hx=>hx⟩;rw[hq]at hl g2⊢;cases l with
   | nil=>simp at g2;omega
   | cons y l=>exact⟨_,rfl⟩
 ·split
  ·rename_i hn ht;refine h.reads hi rfl rfl rfl rfl rfl (λj hj=>oE hj) ?_ (Th.plain (by rw[j0];trivial));unfold rN;simp only[St.to,bK,wh,St.B,St.T,St.L,St.cc];exact⟨g1,aB,aB,λe=>aB,λ_=>⟨g2,aB,g3⟩⟩
  ·rename_i hn ht;refine h.reads hi rfl rfl rfl rfl rfl (λj hj=>oE hj) ?_ (Th.plain (by rw[j0];trivial));unfold rN;simp only[St.to,bK,St.B,St.T,St.L,St.cc];exact⟨trivial,aB,aB⟩
theorem Im(h:DT C s)(hi:i<C.N){b d}(hp:s.pc i= .rH b):DT C (aJ C s i d).s:=by
 have H:=h.1 i hi;have P:=H.ph;unfold rN at P;rw[hp]at P;simp only at P;obtain⟨g1,g2,g3⟩:=P;unfold aJ;rw[hp];simp only;refine h.J1 hi rfl rfl rfl rfl (λ_ _=>rfl) (λj hj=>oE hj) ?_ (Th.plain (by rw[j0];trivial));unfold rN;simp only[St.to,St.wr,bK,St.B,St.T,St.L,St.cc]at *;rw[bA pW,bA pW];exact⟨trivial,g2,g3⟩
theorem O7{s:St}:(Ii s C i).pc i=if C.N=1 then .flag else .rm:=bK _ _ _
theorem EB{s:St}:Idle ((Ii s C i).pc i):=by rw[O7];split<;>trivial
theorem J2{s:St}:Th C (Ii s C i) i:=by
 unfold Th;rw[O7];by_cases h:C.N=1
 ·rw[aW h];trivial
 ·rw[cF h];exact h
theorem Io(h:DT C s)(hi:i<C.N){t d}(hp:s.pc i= .qu t):DT C (aJ C s i d).s:=by
 have H:=h.1 i hi;have P:=H.ph;unfold rN at P;rw[hp]at P;simp only at P;obtain⟨g1,g2,g3⟩:=P;have c1:=H.zG _ (j9 (s.cur i));unfold aJ;rw[hp];simp only;refine h.J1 hi rfl rfl rfl rfl (λ_ _=>rfl) (λj hj=>bA hj) ((rN.idle EB).2 ?_) J2;simp only[Ii,St.to,St.wr,St.tB,bK,St.B,St.T,St.L,St.cc]at *;rw[bA pW,bA pW];exact⟨aB,aB⟩
theorem J3(h:DT C s)(hi:i<C.N){b t cc d}(hp:s.pc i= .sE b t cc):DT C (aJ C s i d).s:=by
 have H:=h.1 i hi;have P:=H.ph;unfold rN at P;rw[hp]at P;simp only[wh]at P;obtain⟨⟨g1,g2,g3,g4,g5⟩,g6⟩:=P;unfold aJ;rw[hp];simp only;have E:=H.els;split
 ·rename_i hb;obtain⟨k1,k2,k3⟩:=g4 hb;refine h.mine hi (λa ha=>rfl) (λj hj=>rfl) (λj hj=>rfl) (λj hj=>rfl) (λj hj=>bA hj) (λj hj=>bA hj) ⟨H.t0,H.zG,H.Ct,H.EA,E,?_⟩ ⟨xn _,j9 _,λ_ _=>rfl,?_⟩ (Th.plain (by simp[got,St.mZ,St.put,St.holds,St.to]))
  ·refine(rN.idle (by simp[got,St.mZ,St.put,St.holds,St.to,Idle])).2 ?_;simp only[got,St.mZ,St.put,St.holds,St.to,St.B,St.T,St.L,St.cc]at *;exact⟨aB,aB⟩
  ·intro _ x l hq;exact⟨⟨l,hq⟩,λg hg hx=>hx⟩
 ·rename_i hb;have e:t=b:=by omega
  obtain⟨k1,k2,k3⟩:=g5 e;refine h.reads hi rfl rfl rfl rfl rfl (λj hj=>oE hj) ?_ (Th.plain (by rw[j0];trivial));unfold rN;simp only[St.to,bK,St.B,St.T,St.L,St.cc]at *;refine⟨g1,e,k1,k2,λht => ?_,k3⟩;have hl:(s.q i).length=1:=by omega
  obtain⟨x,hx⟩:=List.length_eq_one_iff.1 hl;have:=E 0 aB;rw[hx]at this;simp only[List.getD_cons_zero]at this;rw[show s.mem (.top i)+((0:Nat):Int)=b by omega,<-g6]at this;rw[this,hx];exact⟨rfl,aB⟩
theorem L0(h:DT C s)(hi:i<C.N){b t x d}(hp:s.pc i= .uP b t x):DT C (aJ C s i d).s:=by
 have H:=h.1 i hi;have P:=H.ph;unfold rN at P;rw[hp]at P;simp only at P;obtain⟨g1,g2,g3,g4,g5,g6⟩:=P;have t0:=H.t0;have c1:=H.zG _ (j9 (s.cur i));unfold aJ;rw[hp];simp only;simp only[St.B,St.T,St.L,St.cc]at *;split
 ·rename_i ht;obtain⟨k1,k2⟩:=g5 ht;refine h.mine hi (λa ha=>nr (λe=>ha (by rw[e];rfl))) (λj hj=>rfl) (λj hj=>rfl) (λj hj=>bA hj) (λj hj=>bA hj) (λj hj=>bA hj) ⟨?_,?_,?_,?_,?_,?_⟩ ⟨?_,j9 _,?_,?_⟩ (Th.plain (by simp[St.mZ,St.put,St.qU,St.to]))
  ·simp only[St.T,St.mZ,St.put,St.qU,St.to,St.wr,bK];omega
  ·intro g hg;simp only[St.mZ,St.put,St.qU,St.to,St.wr];rw[bA pW];exact H.zG g hg
  ·simp only[St.cc,St.mZ,St.put,St.qU,St.to,St.wr];rw[bA pW];exact H.Ct
  ·simp only[St.mZ,St.put,St.qU,St.to,St.wr];rw[bA pW];exact H.EA
  ·intro n hn;simp[St.mZ,St.put,St.qU,St.to]at hn
  ·unfold rN;simp only[St.mZ,St.put,St.qU,St.to,bK,St.B,St.T,St.L,St.cc,St.wr];rw[bA pW];exact⟨aB,trivial,by simp,λ_=>⟨trivial,k2⟩⟩
  ·simp only[St.T,St.mZ,St.put,St.qU,St.to,St.wr,bK];omega
  ·intro g hg;simp only[St.mZ,St.put,St.qU,St.to,St.wr];rw[bA pW]
  ·intro ht' ;simp only[St.T,St.mZ,St.put,St.qU,St.to,St.wr,bK]at ht';omega
 ·rename_i ht;refine h.reads hi rfl rfl rfl rfl rfl (λj hj=>oE hj) ?_ (Th.plain (by rw[j0];trivial));unfold rN;simp only[St.to,bK,St.B,St.T,St.L,St.cc]at *;exact⟨aB,aB,aB,λe=>Bool.noConfusion e⟩
theorem L1(h:DT C s)(hi:i<C.N){t x AU d}(hp:s.pc i= .tA t x AU):DT C (aJ C s i d).s:=by
 have H:=h.1 i hi;have P:=H.ph;unfold rN at P;rw[hp]at P;simp only at P;obtain⟨g1,g2,g3,g4⟩:=P;have c1:=H.zG _ (j9 (s.cur i));unfold aJ;rw[hp];simp only;cases AU
 ·refine h.J1 hi rfl rfl rfl rfl (λ_ _=>rfl) (λj hj=>bA hj) ((rN.idle EB).2 ?_) J2;simp only[Ii,St.to,St.wr,St.tB,bK,St.B,St.T,St.L,St.cc,Ix,if_false]at *;rw[bA pW,bA pW];exact⟨aB,aB⟩
 ·refine h.J1 hi rfl rfl rfl rfl (λj hj=>bA hj) (λj hj=>bA hj) ((rN.idle (by simp[got,St.mZ,St.put,St.holds,St.to,Idle])).2 ?_) (Th.plain (by simp[got,St.mZ,St.put,St.holds,St.to]));simp only[got,St.to,St.wr,St.tB,St.mZ,St.put,St.holds,bK,St.B,St.T,St.L,St.cc,if_true]at *;rw[bA pW,bA pW];exact⟨aB,aB⟩
theorem D.Yt{s':St}{v:Nat}{x:Nat}{l:List Nat}(H:D C s v)(hq:s.q v=x::l)(hm:s'.mem=dW s.mem (.top v) (s.T v+1))(h1:s'.cur=s.cur)(h2:s'.base=s.base)(h3:s'.q v=l)(h4:s'.pop v=s.pop v)(hp:s'.pc v=s.pc v):D C s' v:=by
 have e:∀a,a≠.top v->s'.mem a=s.mem a:=λa ha=>by rw[hm];exact bA ha
 have et:s'.mem (.top v)=s.mem (.top v)+1:=by rw[hm];exact bK _ _ _
 have E:=H.els;have t0:=H.t0;have eb:=e (.bot v) pW;have ec:=λg=>e (.cap v g) pW;have ee:=λg n=>e (.el v g n) pW;have hl:(s.q v).length=l.length+1:=by rw[hq];rfl
 have P:=H.ph;refine⟨?_,?_,?_,?_,?_,?_⟩
 ·simp only[St.T]at *;rw[et];omega
 ·intro g hg;rw[ec];rw[h1]at hg;exact H.zG g hg
 ·simp only[St.cc,h1];rw[ec];exact H.Ct
 ·rw[e _ pW,h1,h2];exact H.EA
 ·intro n hn;rw[h3]at hn;simp only[St.T,St.cc,h1,h3]at *;rw[ee,ec,et];have:=E (n+1) aB;rw[hq]at this;simp only[List.getD_cons_succ]at this;rw[<-this,show s.mem (.top v)+1+(n:Int)=s.mem (.top v)+((n+1:Nat):Int) by omega]
 ·unfold rN at P⊢;rw[hp];simp only[DC,Bq,wh,St.B,St.T,St.L,St.cc,h1,h3,h4,et,eb,ec,ee]at P⊢;rw[hl]at P;split<;>rename_i hh<;>simp only[hh]at P<;>try omega
  ·refine⟨aB,⟨P.2.1.1,λm a b=>P.2.1.2 m aB b⟩,aB⟩
  ·refine⟨aB,⟨P.2.1.1,λm a b=>P.2.1.2 m aB b⟩,P.2.2.1,P.2.2.2.1,P.2.2.2.2⟩
  ·refine⟨aB,⟨P.2.1,λm a b=>P.2.2 m aB b⟩⟩
  ·refine⟨P.1,P.2.1,P.2.2.1,λhb => ?_,λhb => ?_⟩
   ·obtain⟨a1,a2,a3⟩:=P.2.2.2.1 hb;exact⟨aB,aB,a3⟩
   ·obtain⟨a1,a2,a3⟩:=P.2.2.2.2 hb;exact⟨aB,aB,aB⟩
  ·refine⟨⟨P.1.1,P.1.2.1,P.1.2.2.1,λhb => ?_,λhb => ?_⟩,P.2⟩
   ·obtain⟨a1,a2,a3⟩:=P.1.2.2.2.1 hb;exact⟨aB,aB,a3⟩
   ·obtain⟨a1,a2,a3⟩:=P.1.2.2.2.2 hb;exact⟨aB,aB,aB⟩
end
section
variable {C:kT}{s:St}{i:Nat}
theorem ne1{v:Nat}(hi:i<C.N)(hv:v<C.N)(h:v≠i):C.N≠1:=by omega
theorem Ip(h:DT C s)(hi:i<C.N){v t x d}(hp:s.pc i= .pF v t x):DT C (aJ C s i d).s:=by
 have P:=h.2 i hi;unfold Th at P;rw[hp]at P;simp only at P;obtain⟨g1,g2,g3,g4⟩:=P;have Hv:=h.1 v g1;have Hi:=h.1 i hi;unfold aJ;rw[hp];simp only;split
 ·rename_i ht;obtain⟨y,l,hq,hx⟩:=g4 ht.symm;have ep:∀j,j≠i->(got ((s.wr (.top v) (t+1)).qU v (s.q v).tail) i x v).pc j=s.pc j:=λj hj=>bA hj;have em:∀a,a≠.top v->(got ((s.wr (.top v) (t+1)).qU v (s.q v).tail) i x v).mem a=s.mem a:=λa ha=>bA ha;have eS:∀j,j≠v->Br s (got ((s.wr (.top v) (t+1)).qU v (s.q v).tail) i x v) j:=λj hj=>Br.of (λa ha=>em a (λe=>hj (by rw[e]at ha;exact(Option.some.inj ha).symm))) rfl rfl (bA hj) rfl;refine⟨λj hj => ?_,λk hk => ?_⟩
  ·by_cases e:j=v
   ·subst e;exact Hv.Yt hq (by rw[St.T,ht];rfl) rfl rfl (by show(dW s.q j (s.q j).tail) j=l;rw[bK,hq];rfl) rfl (bA g2)
   ·by_cases e':j=i
    ·subst e';have hI:Idle (s.pc j):=by rw[hp];trivial
     refine Hi.idle (s':=got ((s.wr (.top v) (t+1)).qU v (s.q v).tail) j x v) ?_ hI (by simp[got,St.put,St.holds,St.to,Idle])
     ·exact Br.of (λa ha=>em a (λe=>by rw[e]at ha;exact g2 (Option.some.inj ha))) rfl rfl (bA e) rfl
    ·exact(h.1 j hj).WY (eS j e) (ep j e')
  ·by_cases e:k=i
   ·subst e;exact Th.plain (by simp[got,St.mZ,St.put,St.holds,St.to])
   ·refine(h.2 k hk).calm (λj hj => ?_) (ep k e);by_cases e':j=v
    ·subst e';refine⟨?_,j9 _,λg hg=>em _ pW,λhT => ?_⟩
     ·show s.mem (.top j)<=dW s.mem (.top j) (t+1) (.top j);rw[bK];omega
     ·have:s.mem (.top j)=dW s.mem (.top j) (t+1) (.top j):=hT;rw[bK]at this;omega
    ·exact(eS j e').calm
 ·refine h.gF hi (λ_ _=>rfl) rfl rfl rfl rfl (λj hj=>oE hj) (by rw[hp];trivial) (by rw[j0];trivial) (by unfold Th;rw[j0];exact ne1 hi g1 g2)
theorem Qp(hi:i<C.N)(hN:C.N≠1)(d:Int):(i+1+(d%((C.N:Int)-1)).toNat)%C.N<C.N/\(i+1+(d%((C.N:Int)-1)).toNat)%C.N≠i:=by
 have h1:=ER d (b:=(C.N:Int)-1) aB;have h2:=ES d (b:=(C.N:Int)-1) aB;generalize hr:(d%((C.N:Int)-1)).toNat=r;have XA:r<C.N-1:=by omega
 refine⟨Nat.mod_lt _ aB,?_⟩;by_cases h:i+1+r<C.N
 ·rw[F3 h];omega
 ·rw[Nat.mod_eq_sub_mod aB,F3 aB];omega
theorem D.bot_le{j:Nat}(h:D C s j):s.B j<=s.T j+s.L j:=by
 have P:=h.ph;unfold rN at P;split at P<;>simp only[DC,wh,St.B,St.T,St.L,St.cc]at * <;> first
  | omega
  | (rcases Int.lt_or_eq_of_le P.2.1 with e | e
     ·have:=P.2.2.2.1 e;omega
     ·have:=P.2.2.2.2 e;omega)
  | (rcases Int.lt_or_eq_of_le P.1.2.1 with e | e
     ·have:=P.1.2.2.2.1 e;omega
     ·have:=P.1.2.2.2.2 e;omega)
def Far:Pc->Prop
 | .rm | .Ez | .vH .. | .rI .. | .qv .. | .og .. | .pF .. => False
 | _=>True
theorem DT.oK{s':St}{p:Pc}(h:DT C s)(hi:i<C.N)(hm:∀a,a.own≠none->s'.mem a=s.mem a)(h1:s'.cur=s.cur)(h2:s'.base=s.base)(h3:s'.q=s.q)(h4:s'.pop=s.pop)
 (hp:s'.pc=dW s.pc i p) (hid:Idle (s.pc i)) (Ys:Idle p) (hf:Far p):DT C s':=by
 have e:s'.pc i=p:=by rw[hp];exact bK _ _ _
 refine h.gF hi hm h1 h2 h3 h4 (λj hj=>by rw[hp];exact bA hj) hid (by rw[e];exact Ys) (Th.plain ?_);rw[e];cases p<;>first | exact hf | trivial
theorem DT.Nw{s':St}(h:DT C s)(hi:i<C.N)(hm:∀a,a.own≠none->s'.mem a=s.mem a)(h1:s'.cur=s.cur)(h2:s'.base=s.base)(h3:s'.q=s.q)(h4:s'.pop=s.pop)
 (hp:s'.pc=s.pc) (hid:Idle (s.pc i)):DT C (Ii s' C i):=
 h.gF hi hm h1 h2 h3 h4 (λj hj=>by show dW s'.pc i _ j=s.pc j;rw[bA hj,hp]) hid EB J2
theorem DT.same{s':St}(h:DT C s)(hi:i<C.N)(hm:∀a,a.own≠none->s'.mem a=s.mem a)(h1:s'.cur=s.cur)(h2:s'.base=s.base)(h3:s'.q=s.q)(h4:s'.pop=s.pop)(hp:s'.pc=s.pc)(hr:s.pc i= .run):DT C s':=
 h.gF hi hm h1 h2 h3 h4 (λj hj=>by rw[hp]) (by rw[hr];trivial) (by rw[hp,hr];trivial) (Th.plain (by rw[hp,hr];trivial))
theorem Nx(h:DT C s)(hi:i<C.N)(hp:s.pc i= .run):DT C (instr C s i).s:=by
 unfold instr;simp only;split
 ·exact h.same hi (λ_ _=>rfl) rfl rfl rfl rfl rfl hp
 ·exact h.same hi (λ_ _=>rfl) rfl rfl rfl rfl rfl hp
 ·exact h.same hi (λ_ _=>rfl) rfl rfl rfl rfl rfl hp
 ·exact h.same hi (λ_ _=>rfl) rfl rfl rfl rfl rfl hp
 ·exact h.same hi (λ_ _=>rfl) rfl rfl rfl rfl rfl hp
 ·exact h.same hi (λ_ _=>rfl) rfl rfl rfl rfl rfl hp
 ·exact h.same hi (λ_ _=>rfl) rfl rfl rfl rfl rfl hp
 ·split
  ·exact DT.oK h hi (by intro a ha;exact nr (by intro e;rw[e]at ha;exact ha rfl)) rfl rfl rfl rfl rfl (by rw[hp];trivial) trivial trivial
  ·exact DT.oK h hi (by intro a ha;exact nr (by intro e;rw[e]at ha;exact ha rfl)) rfl rfl rfl rfl rfl (by rw[hp];trivial) trivial trivial
 ·split
  ·exact DT.oK h hi (by intro a ha;exact nr (by intro e;rw[e]at ha;exact ha rfl)) rfl rfl rfl rfl rfl (by rw[hp];trivial) trivial trivial
  ·exact DT.oK h hi (by intro a ha;exact nr (by intro e;rw[e]at ha;exact ha rfl)) rfl rfl rfl rfl rfl (by rw[hp];trivial) trivial trivial
 ·split
  ·exact DT.oK h hi (by intro a ha;exact nr (by intro e;rw[e]at ha;exact ha rfl)) rfl rfl rfl rfl rfl (by rw[hp];trivial) trivial trivial
  ·exact DT.oK h hi (by intro a ha;exact nr (by intro e;rw[e]at ha;exact ha rfl)) rfl rfl rfl rfl rfl (by rw[hp];trivial) trivial trivial
theorem DT.aJ(h:DT C s)(hi:i<C.N)(d:Int):DT C (aJ C s i d).s:=by
 have H:=h.1 i hi;have HT:=h.2 i hi;have P:=H.ph;cases hp:s.pc i with
 | grow=>exact Qn h hi hp
 | pD=>exact JY h hi hp
 | mL=>exact Ij h hi hp
 | mS=>exact G0 h hi hp
 | pE=>exact JZ h hi hp
 | mM=>exact Ik h hi hp
 | rW=>exact J0 h hi hp
 | Ey=>exact Qo h hi hp
 | rH=>exact Im h hi hp
 | qu=>exact Io h hi hp
 | sE=>exact J3 h hi hp
 | uP=>exact L0 h hi hp
 | tA=>exact L1 h hi hp
 | pF=>exact Ip h hi hp
 | halted=>unfold Am.aJ;rw[hp];exact h
 | full=>unfold Am.aJ;rw[hp];exact h
 | Dz c =>
  unfold Am.aJ;rw[hp];refine h.reads hi rfl rfl rfl rfl rfl (λj hj=>oE hj) ?_ (Th.plain (by rw[j0];trivial));have:=(rN.idle (by rw[hp];trivial)).1 P;unfold rN;simp only[St.to,bK,St.B,St.T,St.L,St.cc]at *;exact⟨trivial,this.1.symm,this.2⟩
 | Ac c b =>
  unfold Am.aJ;rw[hp];refine h.reads hi rfl rfl rfl rfl rfl (λj hj=>oE hj) ?_ (Th.plain (by rw[j0];trivial));unfold rN at P⊢;rw[hp]at P;simp only[St.to,bK,St.B,St.T,St.L,St.cc]at *;exact⟨P.1,P.2.1,P.2.2,xn _,aB⟩
 | tc c b t =>
  unfold Am.aJ;rw[hp];refine h.reads hi rfl rfl rfl rfl rfl (λj hj=>oE hj) ?_ (Th.plain (by rw[j0];trivial));unfold rN at P⊢;rw[hp]at P;simp only[St.to,bK,St.B,St.T,St.L,St.cc]at *;exact P
 | td c b t =>
  unfold Am.aJ;rw[hp];simp only;unfold rN at P;rw[hp]at P;simp only at P;split
  ·refine h.reads hi rfl rfl rfl rfl rfl (λj hj=>oE hj) ?_ (Th.plain (by rw[j0];trivial));unfold rN;simp only[St.to,bK,St.B,St.T,St.L,St.cc]at *;exact⟨P.1,P.2.1,aB,bx⟩
  ·split
   ·refine h.reads hi rfl rfl rfl rfl rfl (λj hj=>oE hj) ?_ (Th.plain (by rw[j0];trivial));refine(rN.idle (by rw[j0];trivial)).2 ?_;simp only[St.to,bK,St.B,St.T,St.L,St.cc]at *;exact⟨aB,P.2.2.1⟩
   ·refine h.reads hi rfl rfl rfl rfl rfl (λj hj=>oE hj) ?_ (Th.plain (by rw[j0];trivial));unfold rN;simp only[DC,St.to,bK,St.B,St.T,St.L,St.cc]at *;exact⟨P.1,P.2.1,P.2.2.1,P.2.2.2.1,trivial,aB,aB⟩
 | GZ =>
  unfold Am.aJ;rw[hp];refine h.reads hi rfl rfl rfl rfl rfl (λj hj=>oE hj) ?_ (Th.plain (by rw[j0];trivial));have:=(rN.idle (by rw[hp];trivial)).1 P;unfold rN;simp only[St.to,bK,St.B,St.T,St.L,St.cc]at *;exact⟨aB,aB,this.2⟩
 | wX b =>
  unfold Am.aJ;rw[hp];refine h.reads hi rfl rfl rfl rfl rfl (λj hj=>oE hj) ?_ (Th.plain (by rw[j0];trivial));unfold rN at P⊢;rw[hp]at P;simp only[St.to,bK,St.B,St.T,St.L,St.cc]at *;exact P
 | vG b t =>
  unfold Am.aJ;rw[hp];refine h.reads hi rfl rfl rfl rfl rfl (λj hj=>oE hj) ?_ (Th.plain (by rw[j0];trivial));unfold rN at P⊢;rw[hp]at P;simp only[wh,St.to,bK,St.B,St.T,St.L,St.cc]at *;exact⟨P,bx⟩
 | rm =>
  have hN:C.N≠1:=by unfold Th at HT;rw[hp]at HT;exact HT
  unfold Am.aJ;rw[hp];simp only;have hv:=Qp hi hN d;refine h.gF hi (λ_ _=>rfl) rfl rfl rfl rfl (λj hj=>oE hj) (by rw[hp];trivial) (by rw[j0];trivial) ?_;unfold Th;rw[j0];exact⟨hv.1,hv.2,xn _⟩
 | vH v t =>
  unfold Th at HT;rw[hp]at HT;simp only at HT;unfold Am.aJ;rw[hp];simp only;split
  ·refine h.gF hi (λ_ _=>rfl) rfl rfl rfl rfl (λj hj=>oE hj) (by rw[hp];trivial) (by rw[j0];trivial) ?_;unfold Th;rw[j0];exact ne1 hi HT.1 HT.2.1
  ·rename_i hb;refine h.gF hi (λ_ _=>rfl) rfl rfl rfl rfl (λj hj=>oE hj) (by rw[hp];trivial) (by rw[j0];trivial) ?_;unfold Th;rw[j0];refine⟨HT.1,HT.2.1,HT.2.2,λht => ?_⟩;have hB:=(h.1 v HT.1).bot_le;intro hq;have hB:s.B v<=s.T v+s.L v:=hB;have:s.L v=0:=by show((s.q v).length:Int)=0;rw[show s.q v=[]from hq];rfl
   have ht':t=s.T v:=ht;simp only[St.B]at hB;omega
 | rI v t =>
  unfold Th at HT;rw[hp]at HT;simp only at HT;unfold Am.aJ;rw[hp];simp only;refine h.gF hi (λ_ _=>rfl) rfl rfl rfl rfl (λj hj=>oE hj) (by rw[hp];trivial) (by rw[j0];trivial) ?_;unfold Th;rw[j0];refine⟨HT.1,HT.2.1,HT.2.2.1,j9 _,λht => ?_⟩;obtain⟨x,l,hq⟩:=List.exists_cons_of_ne_nil (HT.2.2.2 ht);refine⟨x,l,hq,?_⟩;have:=(h.1 v HT.1).els 0 (by rw[hq];simp);rw[hq]at this;have ht':t=s.T v:=ht;simp only[St.T,St.cc,List.getD_cons_zero]at this ht';rw[ht']
  simpa [St.to]using this
 | qv v t g =>
  unfold Th at HT;rw[hp]at HT;simp only at HT;unfold Am.aJ;rw[hp];simp only;refine h.gF hi (λ_ _=>rfl) rfl rfl rfl rfl (λj hj=>oE hj) (by rw[hp];trivial) (by rw[j0];trivial) ?_;unfold Th;rw[j0];exact⟨HT.1,HT.2.1,HT.2.2.1,HT.2.2.2.1,rfl,HT.2.2.2.2⟩
 | og v t g cc =>
  unfold Th at HT;rw[hp]at HT;simp only at HT;unfold Am.aJ;rw[hp];simp only;refine h.gF hi (λ_ _=>rfl) rfl rfl rfl rfl (λj hj=>oE hj) (by rw[hp];trivial) (by rw[j0];trivial) ?_;unfold Th;rw[j0];refine⟨HT.1,HT.2.1,HT.2.2.1,λht => ?_⟩;obtain⟨x,l,hq,hx⟩:=HT.2.2.2.2.2 ht;exact⟨x,l,hq,by rw[HT.2.2.2.2.1];exact hx⟩
 | Ez =>
  have hN:C.N≠1:=by unfold Th at HT;rw[hp]at HT;exact HT
  unfold Am.aJ;rw[hp];simp only;split
  ·exact h.gF hi (λ_ _=>rfl) rfl rfl rfl rfl (λj hj=>oE hj) (by rw[hp];trivial) (by rw[j0];trivial) (Th.plain (by rw[j0];trivial))
  ·refine h.gF hi (λ_ _=>rfl) rfl rfl rfl rfl (λj hj=>oE hj) (by rw[hp];trivial) (by rw[j0];split<;>trivial) ?_;unfold Th;rw[j0];by_cases h3:s.fZ i<3
   ·simp only[aW h3];exact hN
   ·simp only[cF h3]
 | run =>
  unfold Am.aJ;rw[hp];simp only;exact Nx h hi hp
 | tell j =>
  unfold Am.aJ;rw[hp];simp only[pG];split
  ·exact DT.oK h hi (by intro a ha;exact nr (by intro e;rw[e]at ha;exact ha rfl)) rfl rfl rfl rfl rfl (by rw[hp];trivial) trivial trivial
  ·split
   ·exact DT.oK h hi (λ_ _=>rfl) rfl rfl rfl rfl rfl (by rw[hp];trivial) trivial trivial
   ·exact DT.oK h hi (λ_ _=>rfl) rfl rfl rfl rfl rfl (by rw[hp];trivial) trivial trivial
 | xJ j =>
  unfold Am.aJ;rw[hp];simp only[pG];split<;>exact DT.oK h hi (by intro a ha;exact nr (by intro e;rw[e]at ha;exact ha rfl)) rfl rfl rfl rfl rfl (by rw[hp];trivial) trivial trivial
 | done =>
  unfold Am.aJ;rw[hp];simp only[pG];split<;>exact DT.oK h hi (by intro a ha;exact nr (by intro e;rw[e]at ha;exact ha rfl)) rfl rfl rfl rfl rfl (by rw[hp];trivial) trivial trivial
 | out p c =>
  unfold Am.aJ;rw[hp];simp only;split<;>exact DT.oK h hi (by intro a ha;exact nr (by intro e;rw[e]at ha;exact ha rfl)) rfl rfl rfl rfl rfl (by rw[hp];trivial) trivial trivial
 | Ig =>
  unfold Am.aJ;rw[hp];simp only;refine DT.oK h hi (λ_ _=>rfl) rfl rfl rfl rfl rfl (by rw[hp];trivial) ?_ ?_<;>split<;>trivial
 | uj j =>
  unfold Am.aJ;rw[hp];simp only;split
  ·exact DT.oK h hi (by intro a ha;exact nr (by intro e;rw[e]at ha;exact ha rfl)) rfl rfl rfl rfl rfl (by rw[hp];trivial) trivial trivial
  ·refine DT.oK h hi (λ_ _=>rfl) rfl rfl rfl rfl rfl (by rw[hp];trivial) ?_ ?_<;>split<;>trivial
 | vr =>
  unfold Am.aJ;rw[hp];simp only[looking];split
  ·exact DT.oK h hi (λ_ _=>rfl) rfl rfl rfl rfl rfl (by rw[hp];trivial) trivial trivial
  ·split<;>exact DT.oK h hi (λ_ _=>rfl) rfl rfl rfl rfl rfl (by rw[hp];trivial) trivial trivial
 | DA j t =>
  unfold Am.aJ;rw[hp];simp only[looking];split
  ·exact DT.oK h hi (λ_ _=>rfl) rfl rfl rfl rfl rfl (by rw[hp];trivial) trivial trivial
  ·split<;>exact DT.oK h hi (λ_ _=>rfl) rfl rfl rfl rfl rfl (by rw[hp];trivial) trivial trivial
 | parked =>
  unfold Am.aJ;rw[hp];simp only;split
  ·exact h
  ·exact DT.Nw h hi (s':=s.tB i 0) (λ_ _=>rfl) rfl rfl rfl rfl rfl (by rw[hp];trivial)
 | back b =>
  unfold Am.aJ;rw[hp];simp only[DB];split
  ·exact DT.oK h hi (by intro a ha;exact nr (by intro e;rw[e]at ha;exact ha rfl)) rfl rfl rfl rfl rfl (by rw[hp];trivial) trivial trivial
  ·split
   ·exact DT.oK h hi (λ_ _=>rfl) rfl rfl rfl rfl rfl (by rw[hp];trivial) trivial trivial
   ·exact DT.Nw h hi (s':=s.tB i 0) (λ_ _=>rfl) rfl rfl rfl rfl rfl (by rw[hp];trivial)
 | we b =>
  unfold Am.aJ;rw[hp];simp only[DB];split
  ·exact DT.oK h hi (by intro a ha;exact nr (by intro e;rw[e]at ha;exact ha rfl)) rfl rfl rfl rfl rfl (by rw[hp];trivial) trivial trivial
  ·exact DT.Nw h hi (s':=(s.wr .tK (s.mem .tK-1)).tB i 0) (by intro a ha;exact nr (by intro e;rw[e]at ha;exact ha rfl)) rfl rfl rfl rfl rfl (by rw[hp];trivial)
 | start x=>unfold Am.aJ;rw[hp];exact DT.oK h hi (by intro a ha;exact nr (by intro e;rw[e]at ha;exact ha rfl)) rfl rfl rfl rfl rfl (by rw[hp];trivial) trivial trivial
 | fork c=>unfold Am.aJ;rw[hp];exact DT.oK h hi (by intro a ha;exact nr (by intro e;rw[e]at ha;exact ha rfl)) rfl rfl rfl rfl rfl (by rw[hp];trivial) trivial trivial
 | ta=>unfold Am.aJ;rw[hp];exact DT.oK h hi (by intro a ha;exact nr (by intro e;rw[e]at ha;exact ha rfl)) rfl rfl rfl rfl rfl (by rw[hp];trivial) trivial trivial
 | take p c=>unfold Am.aJ;rw[hp];exact DT.oK h hi (by intro a ha;exact nr (by intro e;rw[e]at ha;exact ha rfl)) rfl rfl rfl rfl rfl (by rw[hp];trivial) trivial trivial
 | wc j=>unfold Am.aJ;rw[hp];exact DT.oK h hi (by intro a ha;exact nr (by intro e;rw[e]at ha;exact ha rfl)) rfl rfl rfl rfl rfl (by rw[hp];trivial) trivial trivial
 | flag=>unfold Am.aJ;rw[hp];exact DT.oK h hi (by intro a ha;exact nr (by intro e;rw[e]at ha;exact ha rfl)) rfl rfl rfl rfl rfl (by rw[hp];trivial) trivial trivial
 | sleep=>unfold Am.aJ;rw[hp];exact DT.oK h hi (by intro a ha;exact nr (by intro e;rw[e]at ha;exact ha rfl)) rfl rfl rfl rfl rfl (by rw[hp];trivial) trivial trivial
 | EX j=>unfold Am.aJ;rw[hp];exact DT.oK h hi (λ_ _=>rfl) rfl rfl rfl rfl rfl (by rw[hp];trivial) trivial trivial
end
inductive Yu | none | full | start | run | fork (c:Nat) | push (c:Nat) | one | out (p c:Nat) | take (p c:Nat)
deriving DecidableEq
def sig:Pc->Yu
 | .start _=>.start
 | .run | .Ig | .uj _ | .wc _=>.run
 | .fork c=>.fork c
 | .Dz c | .Ac c _ | .tc c _ _ | .td c _ _ | .grow c _ _ _ | .pD c _ _ _ | .mL c _ _ _ _
 | .mS c _ _ _ _ _ | .pE c _ _ _ | .mM c _ _ | .rW c _=>.push c
 | .ta=>.one
 | .out p c=>.out p c
 | .take p c=>.take p c
 | .full=>.full
 | _=>.none
structure V where
 g:Nat->Yu
 hold:Nat->Option Nat
 loc:Nat->Loc
 par:Nat->Nat
 nf:Nat
 ct:Nat->List Nat
 q:Nat->List Nat
 pop:Nat->Option Nat
 join:Nat->Int
 mark:Nat->Int
 next:Int
def afq(l:Loc)(n:Int)(k:List Nat):Prop:=
 match l with
 | .waiting=>n=k.length/\k≠[]
 | .uk _ | .yf _=>n=0/\k=[]
 | _=>n=1+k.length
def early:Loc->Bool
 | .free | .cw _ | .SR _ | .pop _=>true
 | _=>false
def busy:Yu->Bool
 | .start | .run | .fork _ | .push _ | .one=>true
 | _=>false
def rest:Yu->Bool
 | .none | .out _ _ | .take _ _=>true
 | _=>false
def Ny(N:Nat)(g:Nat->Yu)(c:Nat):Loc->Prop
 | .cw j=>j<N/\g j= .fork c
 | _=>False
structure V.FI(N F:Nat)(v:V):Prop where
 zH:1<=v.nf
 wD:v.nf<=F
 nx:v.next=v.nf∨(v.nf=F/\(F:Int)<=v.next)
 free:∀f,v.nf<=f->v.loc f= .free
 used:∀f,f<v.nf->v.loc f≠.free
 new:∀f,v.nf<=f->v.ct f=[]/\v.join f=1
 hold:∀i f,i<N->v.hold i=some f->(v.g i= .one/\v.loc f= .uk i)∨(v.g i≠.one/\v.loc f= .held i)
 hs:∀i,i<N->busy (v.g i)=true->v.hold i≠.none
 hr:∀i,i<N->rest (v.g i)=true->v.hold i= .none
 fk:∀i c,i<N->v.g i= .fork c->c≠0/\v.loc c= .cw i/\v.hold i=some (v.par c)/\∀p,c∉v.ct p
 ps:∀i c,i<N->v.g i= .push c->c≠0/\v.loc c= .cw i/\v.hold i=some (v.par c)/\c∈v.ct (v.par c)
 q:∀j x,j<N->x∈v.q j->x≠0/\v.loc x= .SR j
 qn:∀j,j<N->(v.q j).Nodup
 pop:∀i x,i<N->v.pop i=some x->x≠0/\v.loc x= .pop i
 tk:∀i p c,i<N->v.g i= .take p c->v.loc p= .yf i
 tp:∀i p c,i<N->v.g i= .take p c->c≠0/\c<v.nf/\p=v.par c
 out:∀i p c,i<N->v.g i= .out p c->c≠0/\v.loc c= .fin i/\p=v.par c
 I:∀p,(v.ct p).Nodup
 kd:∀p c,c∈v.ct p->c≠0/\v.par c=p/\v.loc c≠.gone/\v.loc c≠.free
 un:∀c,c≠0->c<v.nf->v.loc c≠.gone->c∈v.ct (v.par c)∨Ny N v.g c (v.loc c)
 pr:∀c,c<v.nf->v.par c<v.nf
 jn:∀f,f<v.nf->afq (v.loc f) (v.join f) (v.ct f)
 y9:∀f,early (v.loc f)=true->v.mark f=0
 za:∀i f,i<N->v.g i= .start->v.hold i=some f->v.mark f=0
attribute [grind =] fC
attribute [grind] early busy rest
theorem SU{N g c l}:Ny N g c l=match (l:Loc)with | .cw j=>j<N/\g j= .fork c | _=>False:=by cases l<;>rfl
theorem J_d{l n k}:afq l n k=match (l:Loc)with | .waiting=>n=k.length/\k≠[] | .uk _ | .yf _=>n=0/\k=[] | _=>n=1+(k.length:Int):=by cases l<;>rfl
attribute [grind =] SU J_d
namespace V
variable {N F:Nat}{v:V}{i:Nat}
theorem FI.gF(h:v.FI N F)(hi:i<N){p:Yu}(hb:busy p=true)(hg:busy (v.g i)=true)(hp:p= .run∨p= .full)(h1:v.g i≠.one)(hn:∀c,v.g i≠.fork c) :
 FI N F {v with g:=dW v.g i p} where
 zH:=h.zH
 wD:=h.wD
 nx:=h.nx
 free:=h.free
 used:=h.used
 new:=h.new
 hold:=by have:=h.hold;grind
 hs:=by have:=h.hs;grind
 hr:=by have:=h.hr;grind
 fk:=by have:=h.fk;grind
 ps:=by have:=h.ps;grind
 q:=h.q
 qn:=h.qn
 pop:=h.pop
 tk:=by have:=h.tk;grind
 out:=by have:=h.out;grind
 tp:=by have:=h.tp;grind
 I:=h.I
 kd:=h.kd
 un:=by have:=h.un;grind
 pr:=h.pr
 jn:=h.jn
 y9:=h.y9
 za:=by have:=h.za;grind
theorem FI.full(h:v.FI N F)(hi:i<N)(hg:busy (v.g i)=true)(h1:v.g i≠.one)(hn:∀c,v.g i≠.fork c) :
 FI N F {v with g:=dW v.g i .full} where
 zH:=h.zH
 wD:=h.wD
 nx:=h.nx
 free:=h.free
 used:=h.used
 new:=h.new
 hold:=by have:=h.hold;grind
 hs:=by have:=h.hs;grind
 hr:=by have:=h.hr;grind
 fk:=by have:=h.fk;grind
 ps:=by have:=h.ps;grind
 q:=h.q
 qn:=h.qn
 pop:=h.pop
 tk:=by have:=h.tk;grind
 out:=by have:=h.out;grind
 tp:=by have:=h.tp;grind
 I:=h.I
 kd:=h.kd
 un:=by have:=h.un;grind
 pr:=h.pr
 jn:=h.jn
 y9:=h.y9
 za:=by have:=h.za;grind
theorem FI.start(h:v.FI N F)(hi:i<N)(hg:v.g i= .start){f:Nat}(hf:v.hold i=some f){m:Int} :
 FI N F {v with g:=dW v.g i .run,mark:=dW v.mark f m} where
 zH:=h.zH
 wD:=h.wD
 nx:=h.nx
 free:=h.free
 used:=h.used
 new:=h.new
 hold:=by have:=h.hold;grind
 hs:=by have:=h.hs;grind
 hr:=by have:=h.hr;grind
 fk:=by have:=h.fk;grind
 ps:=by have:=h.ps;grind
 q:=h.q
 qn:=h.qn
 pop:=h.pop
 tk:=by have:=h.tk;grind
 out:=by have:=h.out;grind
 tp:=by have:=h.tp;grind
 I:=h.I
 kd:=h.kd
 un:=by have:=h.un;grind
 pr:=h.pr
 jn:=h.jn
 y9:=by have:=h.y9;have:=h.hold;grind
 za:=by have:=h.za;have:=h.hold;grind
theorem FI.spawn(h:v.FI N F)(hi:i<N)(hg:v.g i= .run){f:Nat}(hf:v.hold i=some f)(hn:v.next<F) :
 FI N F {v with g:=dW v.g i (.fork v.nf),next:=v.next+1,nf:=v.nf+1,par:=dW v.par v.nf f,loc:=dW v.loc v.nf (.cw i)} where
 zH:=by have:=h.zH;have:=h.free;have:=h.used;grind
 wD:=by have:=h.wD;have:=h.free;have:=h.used;have:=h.nx;grind
 nx:=by have:=h.nx;have:=h.free;have:=h.used;have:=h.wD;grind
 free:=by have:=h.free;have:=h.used;grind
 used:=by have:=h.used;have:=h.free;grind
 new:=by have:=h.new;have:=h.free;have:=h.used;grind
 hold:=by have:=h.hold;have:=h.free;have:=h.used;grind
 hs:=by have:=h.hs;have:=h.free;have:=h.used;grind
 hr:=by have:=h.hr;have:=h.free;have:=h.used;grind
 fk:=by have:=h.fk;have:=h.free;have:=h.used;have:=h.kd;have:=h.new;have:=h.hold;grind
 ps:=by have:=h.ps;have:=h.free;have:=h.used;have:=h.kd;grind
 q:=by have:=h.q;have:=h.free;have:=h.used;grind
 qn:=h.qn
 pop:=by have:=h.pop;have:=h.free;have:=h.used;grind
 tk:=by have:=h.tk;have:=h.free;have:=h.used;grind
 out:=by have:=h.out;have:=h.free;have:=h.used;have:=h.pr;grind
 tp:=by have:=h.tp;have:=h.free;have:=h.used;grind
 I:=h.I
 kd:=by have:=h.kd;have:=h.free;have:=h.used;have:=h.new;grind
 un:=by have:=h.un;have:=h.free;have:=h.used;grind
 pr:=by have:=h.pr;have:=h.free;have:=h.used;have:=h.hold;grind
 jn:=by have:=h.jn;have:=h.free;have:=h.used;have:=h.new;grind
 y9:=by have:=h.y9;have:=h.free;have:=h.used;grind
 za:=by have:=h.za;have:=h.free;have:=h.used;grind
theorem FI.zI(h:v.FI N F)(hi:i<N)(hg:v.g i= .run)(hn:(F:Int)<=v.next) :
 FI N F {v with g:=dW v.g i .full,next:=v.next+1} where
 zH:=h.zH
 wD:=h.wD
 nx:=by have:=h.nx;have:=h.wD;grind
 free:=h.free
 used:=h.used
 new:=h.new
 hold:=by have:=h.hold;grind
 hs:=by have:=h.hs;grind
 hr:=by have:=h.hr;grind
 fk:=by have:=h.fk;grind
 ps:=by have:=h.ps;grind
 q:=h.q
 qn:=h.qn
 pop:=h.pop
 tk:=by have:=h.tk;grind
 out:=by have:=h.out;grind
 tp:=by have:=h.tp;grind
 I:=h.I
 kd:=h.kd
 un:=by have:=h.un;grind
 pr:=h.pr
 jn:=h.jn
 y9:=h.y9
 za:=by have:=h.za;grind
theorem FI.fork(h:v.FI N F)(hi:i<N){c f:Nat}(hg:v.g i= .fork c)(hf:v.hold i=some f) :
 FI N F {v with g:=dW v.g i (.push c),join:=dW v.join f (v.join f+1),ct:=dW v.ct f (c::v.ct f)} where
 zH:=h.zH
 wD:=h.wD
 nx:=h.nx
 free:=h.free
 used:=h.used
 new:=by have:=h.new;have:=h.fk;have:=h.hold;have:=h.free;grind
 hold:=by have:=h.hold;have:=h.fk;grind
 hs:=by have:=h.hs;have:=h.fk;have:=h.hold;grind
 hr:=by have:=h.hr;have:=h.fk;have:=h.hold;grind
 fk:=by have:=h.fk;have:=h.hold;grind
 ps:=by have:=h.ps;have:=h.fk;have:=h.hold;grind
 q:=h.q
 qn:=h.qn
 pop:=h.pop
 tk:=by have:=h.tk;have:=h.fk;have:=h.hold;grind
 out:=by have:=h.out;have:=h.fk;have:=h.hold;grind
 tp:=by have:=h.tp;have:=h.fk;have:=h.hold;grind
 I:=by have:=h.I;have:=h.fk;have:=h.hold;grind
 kd:=by have:=h.kd;have:=h.fk;have:=h.hold;grind
 un:=by have:=h.un;have:=h.fk;have:=h.hold;grind
 pr:=h.pr
 jn:=by have:=h.jn;have:=h.fk;have:=h.hold;grind
 y9:=h.y9
 za:=by have:=h.za;have:=h.fk;have:=h.hold;grind
theorem FI.push(h:v.FI N F)(hi:i<N){c:Nat}(hg:v.g i= .push c) :
 FI N F {v with g:=dW v.g i .run,q:=dW v.q i (v.q i++[c]),loc:=dW v.loc c (.SR i)} where
 zH:=h.zH
 wD:=h.wD
 nx:=h.nx
 free:=by have:=h.free;have:=h.ps;grind
 used:=by have:=h.used;have:=h.ps;grind
 new:=h.new
 hold:=by have:=h.hold;have:=h.ps;grind
 hs:=by have:=h.hs;have:=h.ps;grind
 hr:=by have:=h.hr;have:=h.ps;grind
 fk:=by have:=h.fk;have:=h.ps;grind
 ps:=by have:=h.ps;grind
 q:=by have:=h.q;have:=h.ps;grind
 qn:=by have:=h.qn;have:=h.ps;have:=h.q;grind
 pop:=by have:=h.pop;have:=h.ps;grind
 tk:=by have:=h.tk;have:=h.ps;grind
 out:=by have:=h.out;have:=h.ps;grind
 tp:=by have:=h.tp;have:=h.ps;grind
 I:=h.I
 kd:=by have:=h.kd;have:=h.ps;grind
 un:=by have:=h.un;have:=h.ps;have:=h.hold;grind
 pr:=h.pr
 jn:=by have:=h.jn;have:=h.ps;grind
 y9:=by have:=h.y9;have:=h.ps;grind
 za:=by have:=h.za;have:=h.ps;have:=h.hold;grind
theorem FI.wait(h:v.FI N F)(hi:i<N){f:Nat}(hg:v.g i= .run)(hf:v.hold i=some f)(hk:0<v.join f-1) :
 FI N F {v with g:=dW v.g i .none,hold:=dW v.hold i none,join:=dW v.join f (v.join f-1),loc:=dW v.loc f .waiting} where
 zH:=h.zH
 wD:=h.wD
 nx:=h.nx
 free:=by have:=h.free;have:=h.hold;grind
 used:=by have:=h.used;have:=h.hold;grind
 new:=by have:=h.new;have:=h.hold;have:=h.free;grind
 hold:=by have:=h.hold;grind
 hs:=by have:=h.hs;have:=h.hold;grind
 hr:=by have:=h.hr;have:=h.hold;grind
 fk:=by have:=h.fk;have:=h.hold;grind
 ps:=by have:=h.ps;have:=h.hold;grind
 q:=by have:=h.q;have:=h.hold;grind
 qn:=h.qn
 pop:=by have:=h.pop;have:=h.hold;grind
 tk:=by have:=h.tk;have:=h.hold;grind
 out:=by have:=h.out;have:=h.hold;grind
 tp:=by have:=h.tp;have:=h.hold;grind
 I:=h.I
 kd:=by have:=h.kd;have:=h.hold;grind
 un:=by have:=h.un;have:=h.hold;grind
 pr:=h.pr
 jn:=by have:=h.jn;have:=h.hold;grind
 y9:=by have:=h.y9;have:=h.hold;grind
 za:=by have:=h.za;have:=h.hold;grind
theorem FI.pass(h:v.FI N F)(hi:i<N){f:Nat}(hg:v.g i= .run)(hf:v.hold i=some f)(hk:¬0<v.join f-1) :
 FI N F {v with g:=dW v.g i .one,join:=dW v.join f (v.join f-1),loc:=dW v.loc f (.uk i)} where
 zH:=h.zH
 wD:=h.wD
 nx:=h.nx
 free:=by have:=h.free;have:=h.hold;grind
 used:=by have:=h.used;have:=h.hold;grind
 new:=by have:=h.new;have:=h.hold;have:=h.free;grind
 hold:=by have:=h.hold;grind
 hs:=by have:=h.hs;have:=h.hold;grind
 hr:=by have:=h.hr;have:=h.hold;grind
 fk:=by have:=h.fk;have:=h.hold;grind
 ps:=by have:=h.ps;have:=h.hold;grind
 q:=by have:=h.q;have:=h.hold;grind
 qn:=h.qn
 pop:=by have:=h.pop;have:=h.hold;grind
 tk:=by have:=h.tk;have:=h.hold;grind
 out:=by have:=h.out;have:=h.hold;grind
 tp:=by have:=h.tp;have:=h.hold;grind
 I:=h.I
 kd:=by have:=h.kd;have:=h.hold;grind
 un:=by have:=h.un;have:=h.hold;grind
 pr:=h.pr
 jn:=by have:=h.jn;have:=h.hold;grind [List.length_eq_zero_iff]
 y9:=by have:=h.y9;have:=h.hold;grind
 za:=by have:=h.za;have:=h.hold;grind
theorem FI.one(h:v.FI N F)(hi:i<N){f:Nat}(hg:v.g i= .one)(hf:v.hold i=some f) :
 FI N F {v with g:=dW v.g i .run,join:=dW v.join f 1,loc:=dW v.loc f (.held i)} where
 zH:=h.zH
 wD:=h.wD
 nx:=h.nx
 free:=by have:=h.free;have:=h.hold;grind
 used:=by have:=h.used;have:=h.hold;grind
 new:=by have:=h.new;have:=h.hold;have:=h.free;grind
 hold:=by have:=h.hold;grind
 hs:=by have:=h.hs;have:=h.hold;grind
 hr:=by have:=h.hr;have:=h.hold;grind
 fk:=by have:=h.fk;have:=h.hold;grind
 ps:=by have:=h.ps;have:=h.hold;grind
 q:=by have:=h.q;have:=h.hold;grind
 qn:=h.qn
 pop:=by have:=h.pop;have:=h.hold;grind
 tk:=by have:=h.tk;have:=h.hold;grind
 out:=by have:=h.out;have:=h.hold;grind
 tp:=by have:=h.tp;have:=h.hold;grind
 I:=h.I
 kd:=by have:=h.kd;have:=h.hold;grind
 un:=by have:=h.un;have:=h.hold;grind
 pr:=h.pr
 jn:=by have:=h.jn;have:=h.hold;grind
 y9:=by have:=h.y9;have:=h.hold;grind
 za:=by have:=h.za;have:=h.hold;grind
theorem FI.Iq(h:v.FI N F)(hi:i<N)(hg:v.g i= .run)(hf:v.hold i=some 0) :
 FI N F {v with g:=dW v.g i .none,hold:=dW v.hold i none,loc:=dW v.loc 0 (.fin i)} where
 zH:=h.zH
 wD:=h.wD
 nx:=h.nx
 free:=by have:=h.free;have:=h.hold;grind
 used:=by have:=h.used;have:=h.hold;grind
 new:=h.new
 hold:=by have:=h.hold;grind
 hs:=by have:=h.hs;have:=h.hold;grind
 hr:=by have:=h.hr;have:=h.hold;grind
 fk:=by have:=h.fk;have:=h.hold;grind
 ps:=by have:=h.ps;have:=h.hold;grind
 q:=by have:=h.q;have:=h.hold;grind
 qn:=h.qn
 pop:=by have:=h.pop;have:=h.hold;grind
 tk:=by have:=h.tk;have:=h.hold;grind
 out:=by have:=h.out;have:=h.hold;grind
 tp:=by have:=h.tp;have:=h.hold;grind
 I:=h.I
 kd:=by have:=h.kd;have:=h.hold;grind
 un:=by have:=h.un;have:=h.hold;grind
 pr:=h.pr
 jn:=by have:=h.jn;have:=h.hold;grind
 y9:=by have:=h.y9;have:=h.hold;grind
 za:=by have:=h.za;have:=h.hold;grind
theorem FI.ret(h:v.FI N F)(hi:i<N)(hg:v.g i= .run){f:Nat}(hf:v.hold i=some f)(h0:f≠0) :
 FI N F {v with g:=dW v.g i (.out (v.par f) f),hold:=dW v.hold i none,loc:=dW v.loc f (.fin i)} where
 zH:=h.zH
 wD:=h.wD
 nx:=h.nx
 free:=by have:=h.free;have:=h.hold;grind
 used:=by have:=h.used;have:=h.hold;grind
 new:=h.new
 hold:=by have:=h.hold;grind
 hs:=by have:=h.hs;have:=h.hold;grind
 hr:=by have:=h.hr;have:=h.hold;grind
 fk:=by have:=h.fk;have:=h.hold;grind
 ps:=by have:=h.ps;have:=h.hold;grind
 q:=by have:=h.q;have:=h.hold;grind
 qn:=h.qn
 pop:=by have:=h.pop;have:=h.hold;grind
 tk:=by have:=h.tk;have:=h.hold;grind
 out:=by have:=h.out;have:=h.hold;grind
 tp:=by have:=h.tp;have:=h.hold;grind
 I:=h.I
 kd:=by have:=h.kd;have:=h.hold;grind
 un:=by have:=h.un;have:=h.hold;grind
 pr:=h.pr
 jn:=by have:=h.jn;have:=h.hold;grind
 y9:=by have:=h.y9;have:=h.hold;grind
 za:=by have:=h.za;have:=h.hold;grind
theorem FI.gT(h:v.FI N F)(hi:i<N){p c:Nat}(hg:v.g i= .out p c):c∈v.ct p/\c<v.nf/\p<v.nf/\p=v.par c/\v.loc c= .fin i/\c≠0:=by
 have z0:=h.out i p c hi hg;have z1:=h.free c;have z2:=h.un c;have z3:=h.pr c;grind
theorem FI.jg(h:v.FI N F)(hi:i<N){p c:Nat}(hg:v.g i= .out p c)(hn:v.join p-1=0):v.loc p= .waiting/\v.ct p=[c]/\p≠c:=by
 obtain⟨a1,a2,a3,a4,a5,a6⟩:=h.gT hi hg;have z:=h.jn p a3;rw[J_d]at z;have hl:0<(v.ct p).length:=List.length_pos_of_mem a1;split at z
 ·rename_i hw;refine⟨hw,?_,?_⟩
  ·have:(v.ct p).length=1:=by omega
   obtain⟨y,hy⟩:=List.length_eq_one_iff.1 this;rw[hy]at a1⊢;rw[List.mem_singleton.1 a1]
  ·rintro rfl;rw[hw]at a5;cases a5
 ·rw[z.2]at a1;cases a1
 ·rw[z.2]at a1;cases a1
 ·omega
theorem FI.L2(h:v.FI N F)(hi:i<N){p c:Nat}(hg:v.g i= .out p c)(hn:v.join p-1≠0) :
 FI N F {v with g:=dW v.g i .none,join:=dW v.join p (v.join p-1),ct:=dW v.ct p ((v.ct p).erase c),loc:=dW v.loc c .gone} where
 zH:=h.zH
 wD:=h.wD
 nx:=h.nx
 free:=by have y1:=h.gT hi hg;have:=h.free;have:=h.out;grind [List.length_erase_of_mem,List.Nodup.mem_erase_iff,List.Nodup.erase,List.length_eq_zero_iff]
 used:=by have y1:=h.gT hi hg;have:=h.used;have:=h.out;grind [List.length_erase_of_mem,List.Nodup.mem_erase_iff,List.Nodup.erase,List.length_eq_zero_iff]
 new:=by have y1:=h.gT hi hg;have:=h.new;have:=h.out;have:=h.free;grind [List.length_erase_of_mem,List.Nodup.mem_erase_iff,List.Nodup.erase,List.length_eq_zero_iff]
 hold:=by have y1:=h.gT hi hg;have:=h.hold;have:=h.out;grind [List.length_erase_of_mem,List.Nodup.mem_erase_iff,List.Nodup.erase,List.length_eq_zero_iff]
 hs:=by have y1:=h.gT hi hg;have:=h.hs;have:=h.out;grind [List.length_erase_of_mem,List.Nodup.mem_erase_iff,List.Nodup.erase,List.length_eq_zero_iff]
 hr:=by have y1:=h.gT hi hg;have:=h.hr;have:=h.out;grind [List.length_erase_of_mem,List.Nodup.mem_erase_iff,List.Nodup.erase,List.length_eq_zero_iff]
 fk:=by have y1:=h.gT hi hg;have:=h.fk;have:=h.out;grind [List.length_erase_of_mem,List.Nodup.mem_erase_iff,List.Nodup.erase,List.length_eq_zero_iff]
 ps:=by have y1:=h.gT hi hg;have:=h.ps;have:=h.out;grind [List.length_erase_of_mem,List.Nodup.mem_erase_iff,List.Nodup.erase,List.length_eq_zero_iff]
 q:=by have y1:=h.gT hi hg;have:=h.q;have:=h.out;grind [List.length_erase_of_mem,List.Nodup.mem_erase_iff,List.Nodup.erase,List.length_eq_zero_iff]
 qn:=h.qn
 pop:=by have y1:=h.gT hi hg;have:=h.pop;have:=h.out;grind [List.length_erase_of_mem,List.Nodup.mem_erase_iff,List.Nodup.erase,List.length_eq_zero_iff]
 tk:=by have y1:=h.gT hi hg;have:=h.tk;have:=h.out;grind [List.length_erase_of_mem,List.Nodup.mem_erase_iff,List.Nodup.erase,List.length_eq_zero_iff]
 out:=by have y1:=h.gT hi hg;have:=h.out;grind [List.length_erase_of_mem,List.Nodup.mem_erase_iff,List.Nodup.erase,List.length_eq_zero_iff]
 tp:=by have y1:=h.gT hi hg;have:=h.tp;have:=h.out;grind [List.length_erase_of_mem,List.Nodup.mem_erase_iff,List.Nodup.erase,List.length_eq_zero_iff]
 I:=by have y1:=h.gT hi hg;have:=h.I;have:=h.out;grind [List.length_erase_of_mem,List.Nodup.mem_erase_iff,List.Nodup.erase,List.length_eq_zero_iff]
 kd:=by have y1:=h.gT hi hg;have:=h.kd;have:=h.out;have:=h.I;grind [List.length_erase_of_mem,List.Nodup.mem_erase_iff,List.Nodup.erase,List.length_eq_zero_iff]
 un:=λx h0 hxn hl=>by
  have hne:x≠c:=by rintro rfl;exact hl (bK _ _ _)
  have hl':dW v.loc c .gone x=v.loc x:=bA hne;show x∈dW v.ct p ((v.ct p).erase c) (v.par x)∨Ny N (dW v.g i .none) x (dW v.loc c .gone x);change dW v.loc c .gone x≠.gone at hl;rw[hl']at hl⊢;rcases h.un x h0 hxn hl with a | a
  ·left;rw[fC];split
   ·next e=>exact(List.mem_erase_of_ne hne).2 (e▸ a)
   ·exact a
  ·right;clear hl';revert a;cases v.loc x<;>grind
 pr:=h.pr
 jn:=by have y1:=h.gT hi hg;have:=h.jn;have:=h.out;have:=h.I;grind [List.length_erase_of_mem,List.Nodup.mem_erase_iff,List.Nodup.erase,List.length_eq_zero_iff]
 y9:=by have y1:=h.gT hi hg;have:=h.y9;have:=h.out;grind [List.length_erase_of_mem,List.Nodup.mem_erase_iff,List.Nodup.erase,List.length_eq_zero_iff]
 za:=by have y1:=h.gT hi hg;have:=h.za;have:=h.out;grind [List.length_erase_of_mem,List.Nodup.mem_erase_iff,List.Nodup.erase,List.length_eq_zero_iff]
theorem FI.L4(h:v.FI N F)(hi:i<N){p c:Nat}(hg:v.g i= .out p c)(hn:v.join p-1=0) :
 FI N F {v with g:=dW v.g i (.take p c),join:=dW v.join p (v.join p-1),ct:=dW v.ct p ((v.ct p).erase c),loc:=dW (dW v.loc c .gone) p (.yf i)} where
 zH:=h.zH
 wD:=h.wD
 nx:=h.nx
 free:=by have y1:=h.gT hi hg;have y2:=h.jg hi hg hn;have:=h.free;grind [List.erase_cons_head]
 used:=by have y1:=h.gT hi hg;have y2:=h.jg hi hg hn;have:=h.used;grind [List.erase_cons_head]
 new:=by have y1:=h.gT hi hg;have y2:=h.jg hi hg hn;have:=h.new;have:=h.free;grind [List.erase_cons_head]
 hold:=by have y1:=h.gT hi hg;have y2:=h.jg hi hg hn;have:=h.hold;grind [List.erase_cons_head]
 hs:=by have y1:=h.gT hi hg;have y2:=h.jg hi hg hn;have:=h.hs;grind [List.erase_cons_head]
 hr:=by have y1:=h.gT hi hg;have y2:=h.jg hi hg hn;have:=h.hr;grind [List.erase_cons_head]
 fk:=by have y1:=h.gT hi hg;have y2:=h.jg hi hg hn;have:=h.fk;grind [List.erase_cons_head]
 ps:=by have y1:=h.gT hi hg;have y2:=h.jg hi hg hn;have:=h.ps;grind [List.erase_cons_head]
 q:=by have y1:=h.gT hi hg;have y2:=h.jg hi hg hn;have:=h.q;grind [List.erase_cons_head]
 qn:=h.qn
 pop:=by have y1:=h.gT hi hg;have y2:=h.jg hi hg hn;have:=h.pop;grind [List.erase_cons_head]
 tk:=by have y1:=h.gT hi hg;have y2:=h.jg hi hg hn;have:=h.tk;grind [List.erase_cons_head]
 out:=by have y1:=h.gT hi hg;have y2:=h.jg hi hg hn;have:=h.out;grind [List.erase_cons_head]
 tp:=by have y1:=h.gT hi hg;have y2:=h.jg hi hg hn;have:=h.tp;grind [List.erase_cons_head]
 I:=by have y1:=h.gT hi hg;have y2:=h.jg hi hg hn;have:=h.I;grind [List.erase_cons_head]
 kd:=by have y1:=h.gT hi hg;have y2:=h.jg hi hg hn;have:=h.kd;grind [List.erase_cons_head]
 un:=by have y1:=h.gT hi hg;have y2:=h.jg hi hg hn;have:=h.un;have:=h.kd;grind [List.erase_cons_head]
 pr:=h.pr
 jn:=by have y1:=h.gT hi hg;have y2:=h.jg hi hg hn;have:=h.jn;grind [List.erase_cons_head]
 y9:=by have y1:=h.gT hi hg;have y2:=h.jg hi hg hn;have:=h.y9;grind [List.erase_cons_head]
 za:=by have y1:=h.gT hi hg;have y2:=h.jg hi hg hn;have:=h.za;grind [List.erase_cons_head]
theorem FI.take(h:v.FI N F)(hi:i<N){p c:Nat}(hg:v.g i= .take p c) :
 FI N F {v with g:=dW v.g i .run,hold:=dW v.hold i (some p),join:=dW v.join p 1,loc:=dW v.loc p (.held i)} where
 zH:=h.zH
 wD:=h.wD
 nx:=h.nx
 free:=by have:=h.free;have:=h.tk;have:=h.hold;grind
 used:=by have:=h.used;have:=h.tk;have:=h.hold;grind
 new:=by have:=h.new;have:=h.tk;have:=h.hold;have:=h.free;grind
 hold:=by have:=h.hold;have:=h.tk;grind
 hs:=by have:=h.hs;have:=h.tk;have:=h.hold;grind
 hr:=by have:=h.hr;have:=h.tk;have:=h.hold;grind
 fk:=by have:=h.fk;have:=h.tk;have:=h.hold;grind
 ps:=by have:=h.ps;have:=h.tk;have:=h.hold;grind
 q:=by have:=h.q;have:=h.tk;have:=h.hold;grind
 qn:=h.qn
 pop:=by have:=h.pop;have:=h.tk;have:=h.hold;grind
 tk:=by have:=h.tk;have:=h.hold;grind
 out:=by have:=h.out;have:=h.tk;have:=h.hold;grind
 tp:=by have:=h.tp;have:=h.tk;have:=h.hold;grind
 I:=h.I
 kd:=by have:=h.kd;have:=h.tk;have:=h.hold;grind
 un:=by have:=h.un;have:=h.tk;have:=h.hold;grind
 pr:=h.pr
 jn:=by have:=h.jn;have:=h.tk;have:=h.hold;grind
 y9:=by have:=h.y9;have:=h.tk;have:=h.hold;grind
 za:=by have:=h.za;have:=h.tk;have:=h.hold;grind
theorem FI.mZ(h:v.FI N F)(hi:i<N){x:Nat}{l:List Nat}(hg:v.g i= .none)(hq:v.q i=l++[x]) :
 FI N F {v with q:=dW v.q i l,loc:=dW v.loc x (.pop i),pop:=dW v.pop i (some x)} where
 zH:=h.zH
 wD:=h.wD
 nx:=h.nx
 free:=by have:=h.free;have:=h.q;grind [List.nodup_append]
 used:=by have:=h.used;have:=h.q;grind [List.nodup_append]
 new:=h.new
 hold:=by have:=h.hold;have:=h.q;grind [List.nodup_append]
 hs:=h.hs
 hr:=h.hr
 fk:=by have:=h.fk;have:=h.q;grind [List.nodup_append]
 ps:=by have:=h.ps;have:=h.q;grind [List.nodup_append]
 q:=by have:=h.q;have:=h.qn;grind [List.nodup_append]
 qn:=by have:=h.qn;have:=h.q;grind [List.nodup_append]
 pop:=by have:=h.pop;have:=h.q;grind [List.nodup_append]
 tk:=by have:=h.tk;have:=h.q;grind [List.nodup_append]
 out:=by have:=h.out;have:=h.q;grind [List.nodup_append]
 tp:=h.tp
 I:=h.I
 kd:=by have:=h.kd;have:=h.q;grind [List.nodup_append]
 un:=by have:=h.un;have:=h.q;grind [List.nodup_append]
 pr:=h.pr
 jn:=by have:=h.jn;have:=h.q;grind [List.nodup_append]
 y9:=by have:=h.y9;have:=h.q;grind [List.nodup_append]
 za:=h.za
theorem FI.L5(h:v.FI N F)(hi:i<N){x:Nat}(hg:v.g i= .none)(hq:v.q i=[x]) :
 FI N F {v with q:=dW v.q i [],loc:=dW v.loc x (.pop i),pop:=dW v.pop i (some x)} where
 zH:=h.zH
 wD:=h.wD
 nx:=h.nx
 free:=by have:=h.free;have:=h.q;grind
 used:=by have:=h.used;have:=h.q;grind
 new:=h.new
 hold:=by have:=h.hold;have:=h.q;grind
 hs:=h.hs
 hr:=h.hr
 fk:=by have:=h.fk;have:=h.q;grind
 ps:=by have:=h.ps;have:=h.q;grind
 q:=by have:=h.q;have:=h.qn;grind
 qn:=by have:=h.qn;have:=h.q;grind
 pop:=by have:=h.pop;have:=h.q;grind
 tk:=by have:=h.tk;have:=h.q;grind
 out:=by have:=h.out;have:=h.q;grind
 tp:=h.tp
 I:=h.I
 kd:=by have:=h.kd;have:=h.q;grind
 un:=by have:=h.un;have:=h.q;grind
 pr:=h.pr
 jn:=by have:=h.jn;have:=h.q;grind
 y9:=by have:=h.y9;have:=h.q;grind
 za:=h.za
theorem FI.got(h:v.FI N F)(hi:i<N){x:Nat}(hg:v.g i= .none)(hx:v.pop i=some x) :
 FI N F {v with g:=dW v.g i .start,hold:=dW v.hold i (some x),loc:=dW v.loc x (.held i),pop:=dW v.pop i none} where
 zH:=h.zH
 wD:=h.wD
 nx:=h.nx
 free:=by have:=h.free;have:=h.pop;grind
 used:=by have:=h.used;have:=h.pop;grind
 new:=h.new
 hold:=by have:=h.hold;have:=h.pop;grind
 hs:=by have:=h.hs;have:=h.pop;grind
 hr:=by have:=h.hr;have:=h.pop;grind
 fk:=by have:=h.fk;have:=h.pop;grind
 ps:=by have:=h.ps;have:=h.pop;grind
 q:=by have:=h.q;have:=h.pop;grind
 qn:=h.qn
 pop:=by have:=h.pop;grind
 tk:=by have:=h.tk;have:=h.pop;grind
 out:=by have:=h.out;have:=h.pop;grind
 tp:=by have:=h.tp;have:=h.pop;grind
 I:=h.I
 kd:=by have:=h.kd;have:=h.pop;grind
 un:=by have:=h.un;have:=h.pop;grind
 pr:=h.pr
 jn:=by have:=h.jn;have:=h.pop;grind
 y9:=by have:=h.y9;have:=h.pop;grind
 za:=by have:=h.za;have:=h.pop;have:=h.y9;have:=h.hold;grind
theorem FI.DD(h:v.FI N F)(hi:i<N){x w:Nat}{l:List Nat}(hw:w<N)(hg:v.g i= .none)(hx:v.q w=x::l) :
 FI N F {v with g:=dW v.g i .start,hold:=dW v.hold i (some x),loc:=dW v.loc x (.held i),q:=dW v.q w l} where
 zH:=h.zH
 wD:=h.wD
 nx:=h.nx
 free:=by have:=h.free;have:=h.q;grind [List.nodup_cons]
 used:=by have:=h.used;have:=h.q;grind [List.nodup_cons]
 new:=h.new
 hold:=by have:=h.hold;have:=h.q;grind [List.nodup_cons]
 hs:=by have:=h.hs;have:=h.q;grind [List.nodup_cons]
 hr:=by have:=h.hr;have:=h.q;grind [List.nodup_cons]
 fk:=by have:=h.fk;have:=h.q;grind [List.nodup_cons]
 ps:=by have:=h.ps;have:=h.q;grind [List.nodup_cons]
 q:=by have:=h.q;have:=h.qn;grind [List.nodup_cons]
 qn:=by have:=h.qn;have:=h.q;grind [List.nodup_cons]
 pop:=by have:=h.pop;have:=h.q;grind [List.nodup_cons]
 tk:=by have:=h.tk;have:=h.q;grind [List.nodup_cons]
 out:=by have:=h.out;have:=h.q;grind [List.nodup_cons]
 tp:=by have:=h.tp;have:=h.q;grind [List.nodup_cons]
 I:=h.I
 kd:=by have:=h.kd;have:=h.q;grind [List.nodup_cons]
 un:=by have:=h.un;have:=h.q;grind [List.nodup_cons]
 pr:=h.pr
 jn:=by have:=h.jn;have:=h.q;grind [List.nodup_cons]
 y9:=by have:=h.y9;have:=h.q;grind [List.nodup_cons]
 za:=by have:=h.za;have:=h.q;have:=h.y9;have:=h.hold;grind [List.nodup_cons]
end V
def view(s:St):V:=⟨λi=>sig (s.pc i),s.hold,s.loc,λf=>(s.fr f).par,s.nf,s.ct,s.q,s.pop,λf=>s.mem (.join f),λf=>s.mem (.mark f),s.mem .next⟩
theorem qw{α β:Type}[DecidableEq α](f:α->β)(a:α):dW f a (f a)=f:=by
 funext x;simp only[fC];split
 ·next e=>rw[e]
 ·rfl
def uw.ZJ:uw->Bool
 | .join _ | .mark _ | .next=>true
 | _=>false
structure W where
 v:V
 nD:Nat->Int
 kc:Nat->Nat
 fx:Nat->Int
def vt:Pc->Int
 | .start x=>x
 | _=>0
def wv(s:St):W:=⟨view s,λf=>(s.fr f).nD,λf=>(s.fr f).ct,λi=>vt (s.pc i)⟩
def quiet:Option Ev->Bool
 | none=>true
 | some x=>x.kind==3||x.kind==9||x.kind==10
inductive Tr(C:kT)(i:Nat)(w:W):Option Ev->W->Prop
 | gF (e:Option Ev) (he:quiet e=true):Tr C i w e w
 | full (c:Nat) (hg:w.v.g i= .push c):Tr C i w (ev 11 c 1 0) {w with v:={w.v with g:=dW w.v.g i .full}}
 | start (f:Nat) (hg:w.v.g i= .start) (hf:w.v.hold i=some f):Tr C i w (ev 1 f (w.fx i) (w.v.mark f+1))
  { w with v:={w.v with g:=dW w.v.g i .run,mark:=dW w.v.mark f (w.v.mark f+1)},fx:=dW w.fx i 0}
 | spawn (f:Nat) (hg:w.v.g i= .run) (hf:w.v.hold i=some f) (hn:w.v.next<C.F):Tr C i w none
  { w with v:={w.v with g:=dW w.v.g i (.fork w.v.nf),next:=w.v.next+1,nf:=w.v.nf+1,par:=dW w.v.par w.v.nf f,loc:=dW w.v.loc w.v.nf (.cw i)},nD:=dW w.nD w.v.nf (C.pd (w.nD f) (w.kc f)),kc:=dW (dW w.kc f (w.kc f+1)) w.v.nf 0}
 | zI (hg:w.v.g i= .run) (hn:(C.F:Int)<=w.v.next):Tr C i w (ev 11 (-1) 0 0) {w with v:={w.v with g:=dW w.v.g i .full,next:=w.v.next+1}}
 | fork (c f:Nat) (hg:w.v.g i= .fork c) (hf:w.v.hold i=some f):Tr C i w none
  { w with v:={w.v with g:=dW w.v.g i (.push c),join:=dW w.v.join f (w.v.join f+1),ct:=dW w.v.ct f (c::w.v.ct f)}}
 | push (c f:Nat) (hg:w.v.g i= .push c) (hf:w.v.hold i=some f):Tr C i w (ev 2 c f (w.nD c)) {w with v:={w.v with g:=dW w.v.g i .run,q:=dW w.v.q i (w.v.q i++[c]),loc:=dW w.v.loc c (.SR i)}}
 | wait (f:Nat) (hg:w.v.g i= .run) (hf:w.v.hold i=some f) (hk:0<w.v.join f-1):Tr C i w (ev 4 f 0 0)
  { w with v:={w.v with g:=dW w.v.g i .none,hold:=dW w.v.hold i none,join:=dW w.v.join f (w.v.join f-1),loc:=dW w.v.loc f .waiting}}
 | pass (f:Nat) (hg:w.v.g i= .run) (hf:w.v.hold i=some f) (hk:¬0<w.v.join f-1):Tr C i w none
  { w with v:={w.v with g:=dW w.v.g i .one,join:=dW w.v.join f (w.v.join f-1),loc:=dW w.v.loc f (.uk i)}}
 | one (f:Nat) (hg:w.v.g i= .one) (hf:w.v.hold i=some f):Tr C i w (ev 5 f 0 0)
  { w with v:={w.v with g:=dW w.v.g i .run,join:=dW w.v.join f 1,loc:=dW w.v.loc f (.held i)}}
 | Iq (v:Int) (hg:w.v.g i= .run) (hf:w.v.hold i=some 0):Tr C i w (ev 6 0 (-1) v)
  { w with v:={w.v with g:=dW w.v.g i .none,hold:=dW w.v.hold i none,loc:=dW w.v.loc 0 (.fin i)}}
 | ret (f:Nat) (v:Int) (hg:w.v.g i= .run) (hf:w.v.hold i=some f) (h0:f≠0):Tr C i w (ev 6 f (w.v.par f) v)
  { w with v:={w.v with g:=dW w.v.g i (.out (w.v.par f) f),hold:=dW w.v.hold i none,loc:=dW w.v.loc f (.fin i)}}
 | L2 (p c:Nat) (hg:w.v.g i= .out p c) (hn:w.v.join p-1≠0):Tr C i w none
  { w with v:={w.v with g:=dW w.v.g i .none,join:=dW w.v.join p (w.v.join p-1),ct:=dW w.v.ct p ((w.v.ct p).erase c),loc:=dW w.v.loc c .gone}}
 | L4 (p c:Nat) (hg:w.v.g i= .out p c) (hn:w.v.join p-1=0):Tr C i w none
  { w with v:={w.v with g:=dW w.v.g i (.take p c),join:=dW w.v.join p (w.v.join p-1),ct:=dW w.v.ct p ((w.v.ct p).erase c),loc:=dW (dW w.v.loc c .gone) p (.yf i)}}
 | take (p c:Nat) (hg:w.v.g i= .take p c):Tr C i w (ev 7 p c 0)
  { w with v:={w.v with g:=dW w.v.g i .run,hold:=dW w.v.hold i (some p),join:=dW w.v.join p 1,loc:=dW w.v.loc p (.held i)}}
 | mZ (x:Nat) (l:List Nat) (hg:w.v.g i= .none) (hq:w.v.q i=l++[x]):Tr C i w none {w with v:={w.v with q:=dW w.v.q i l,loc:=dW w.v.loc x (.pop i),pop:=dW w.v.pop i (some x)}}
 | L5 (x:Nat) (hg:w.v.g i= .none) (hq:w.v.q i=[x]):Tr C i w none {w with v:={w.v with q:=dW w.v.q i [],loc:=dW w.v.loc x (.pop i),pop:=dW w.v.pop i (some x)}}
 | got (x:Nat) (hg:w.v.g i= .none) (hx:w.v.pop i=some x):Tr C i w none
  { w with v:={w.v with g:=dW w.v.g i .start,hold:=dW w.v.hold i (some x),loc:=dW w.v.loc x (.held i),pop:=dW w.v.pop i none},fx:=dW w.fx i (-1)}
 | DD (k x:Nat) (l:List Nat) (hk:k<C.N) (ID:k≠i) (hg:w.v.g i= .none) (hx:w.v.q k=x::l):Tr C i w (ev 8 x k 0)
  { w with v:={w.v with g:=dW w.v.g i .start,hold:=dW w.v.hold i (some x),loc:=dW w.v.loc x (.held i),q:=dW w.v.q k l},fx:=dW w.fx i k}
theorem Tr.fi{C:kT}{i:Nat}{w w':W}{e:Option Ev}(t:Tr C i w e w')(hi:i<C.N)(h:w.v.FI C.N C.F):w'.v.FI C.N C.F:=by
 cases t with
 | gF _=>exact h
 | full c hg=>exact h.full hi (by rw[hg];rfl) (by rw[hg];simp) (by rw[hg];simp)
 | start f hg hf=>exact h.start hi hg hf
 | spawn f hg hf hn=>exact h.spawn hi hg hf hn
 | zI hg hn=>exact h.zI hi hg hn
 | fork c f hg hf=>exact h.fork hi hg hf
 | push c f hg hf=>exact h.push hi hg
 | wait f hg hf hk=>exact h.wait hi hg hf hk
 | pass f hg hf hk=>exact h.pass hi hg hf hk
 | one f hg hf=>exact h.one hi hg hf
 | Iq v hg hf=>exact h.Iq hi hg hf
 | ret f v hg hf h0=>exact h.ret hi hg hf h0
 | L2 p c hg hn=>exact h.L2 hi hg hn
 | L4 p c hg hn=>exact h.L4 hi hg hn
 | take p c hg=>exact h.take hi hg
 | mZ x l hg hq=>exact h.mZ hi hg hq
 | L5 x hg hq=>exact h.L5 hi hg hq
 | got x hg hx=>exact h.got hi hg hx
 | DD k x l hk ID hg hx=>exact h.DD hi hk hg hx
theorem s6{C:kT}{i:Nat}{w w' w'':W}{e:Option Ev}(h:w''=w')(t:Tr C i w e w'):Tr C i w e w'':=h▸ t
def G1(x:Fr):Nat×Int×Nat:=(x.par,x.nD,x.ct)
section
variable {C:kT}{s:St}{i:Nat}{N F:Nat}
theorem WZ{s':St}(h0:∀j,sig (s'.pc j)=sig (s.pc j))(hx:∀j,vt (s'.pc j)=vt (s.pc j))(h1:s'.hold=s.hold)(h2:s'.loc=s.loc)(h3:∀f,G1 (s'.fr f)=G1 (s.fr f))(h4:s'.nf=s.nf)(h5:s'.ct=s.ct)
 (h6:s'.q=s.q) (h7:s'.pop=s.pop) (hm:∀a,a.ZJ=true->s'.mem a=s.mem a):wv s'=wv s:=by
 have a1:(λf=>(s'.fr f).par)=λf=>(s.fr f).par:=funext λf=>qG (·.1) (h3 f);have a2:(λf=>(s'.fr f).nD)=λf=>(s.fr f).nD:=funext λf=>qG (·.2.1) (h3 f);have a3:(λf=>(s'.fr f).ct)=λf=>(s.fr f).ct:=funext λf=>qG (·.2.2) (h3 f);unfold wv view;rw[h1,h2,h4,h5,h6,h7,hm .next rfl,funext h0,funext hx,a1,a2,a3,funext (λf=>hm (.join f) rfl),funext (λf=>hm (.mark f) rfl)]
theorem gF{s':St}{p:Pc}{e:Option Ev}(hp:s'.pc=dW s.pc i p)(hs:sig p=sig (s.pc i)/\vt p=vt (s.pc i))(h1:s'.hold=s.hold)(h2:s'.loc=s.loc)(h3:∀f,G1 (s'.fr f)=G1 (s.fr f))(h4:s'.nf=s.nf)(h5:s'.ct=s.ct)
 (h6:s'.q=s.q) (h7:s'.pop=s.pop) (hm:∀a,a.ZJ=true->s'.mem a=s.mem a) (he:quiet e=true):Tr C i (wv s) e (wv s'):=by
 refine s6 (WZ (λj => ?_) (λj => ?_) h1 h2 h3 h4 h5 h6 h7 hm) (.gF _ he)
 ·rw[hp,fC];split
  ·next e=>rw[e];exact hs.1
  ·rfl
 ·rw[hp,fC];split
  ·next e=>rw[e];exact hs.2
  ·rfl
theorem G2{s':St}{e:Option Ev}(hp:s'.pc=s.pc)(h1:s'.hold=s.hold)(h2:s'.loc=s.loc)(h3:∀f,G1 (s'.fr f)=G1 (s.fr f))(h4:s'.nf=s.nf)(h5:s'.ct=s.ct)
 (h6:s'.q=s.q) (h7:s'.pop=s.pop) (hm:∀a,a.ZJ=true->s'.mem a=s.mem a) (he:quiet e=true):Tr C i (wv s) e (wv s'):=
 s6 (WZ (λj=>by rw[hp]) (λj=>by rw[hp]) h1 h2 h3 h4 h5 h6 h7 hm) (.gF _ he)
theorem so{a x:uw}{v:Int}(h:a.ZJ=false):x.ZJ=true->(s.wr a v).mem x=s.mem x:=λhx=>nr (by rintro rfl;rw[h]at hx;cases hx)
theorem zJ{f:Nat}{x:Fr}(h:G1 x=G1 (s.fr f))(j:Nat):G1 ((s.lay f x).fr j)=G1 (s.fr j):=by
 show G1 (dW s.fr f x j)=_;rw[fC];split
 ·next e=>rw[e,h]
 ·rfl
theorem uY(hf:(view s).FI N F)(hi:i<N)(hb:busy (sig (s.pc i))=true) :∃f,s.hold i=some f:=by
 have:=hf.hs i hi hb;exact Option.ne_none_iff_exists'.1 this
theorem um{w w':W}(h1:∀j,w.v.g j=w'.v.g j)(h2:∀j,w.v.hold j=w'.v.hold j)(h3:∀j,w.v.loc j=w'.v.loc j)(h4:∀j,w.v.par j=w'.v.par j)(h5:w.v.nf=w'.v.nf)(h6:∀j,w.v.ct j=w'.v.ct j)
 (h7:∀j,w.v.q j=w'.v.q j) (h8:∀j,w.v.pop j=w'.v.pop j) (h9:∀j,w.v.join j=w'.v.join j) (h10:∀j,w.v.mark j=w'.v.mark j) (h11:w.v.next=w'.v.next) (h12:∀j,w.nD j=w'.nD j) (ZK:∀j,w.kc j=w'.kc j) (h14:∀j,w.fx j=w'.fx j):w=w':=by
 obtain⟨⟨⟩⟩:=w;obtain⟨⟨⟩⟩:=w';simp only[W.mk.injEq,V.mk.injEq];exact⟨⟨funext h1,funext h2,funext h3,funext h4,h5,funext h6,funext h7,funext h8,funext h9,funext h10,h11⟩,funext h12,funext ZK,funext h14⟩
theorem SV(hf:(view s).FI C.N C.F)(hi:i<C.N)(hp:s.pc i= .run):Tr C i (wv s) (instr C s i).ev (wv (instr C s i).s):=by
 have hg:(view s).g i= .run:=by show sig (s.pc i)=_;rw[hp];rfl
 obtain⟨f,hh⟩:=uY hf hi (by rw[hp];rfl);have hh':(view s).hold i=some f:=hh;unfold Am.instr;simp only[hh,qH];split
 ·exact G2 rfl rfl rfl (zJ rfl) rfl rfl rfl rfl (λ_ _=>rfl) rfl
 ·exact G2 rfl rfl rfl (zJ rfl) rfl rfl rfl rfl (λ_ _=>rfl) rfl
 ·exact G2 rfl rfl rfl (zJ rfl) rfl rfl rfl rfl (λ_ _=>rfl) rfl
 ·exact G2 rfl rfl rfl (zJ rfl) rfl rfl rfl rfl (λ_ _=>rfl) rfl
 ·exact G2 rfl rfl rfl (zJ (by split<;>rfl)) rfl rfl rfl rfl (λ_ _=>rfl) rfl
 ·exact G2 rfl rfl rfl (zJ rfl) rfl rfl rfl rfl (λ_ _=>rfl) rfl
 ·exact G2 rfl rfl rfl (zJ rfl) rfl rfl rfl rfl (λ_ _=>rfl) rfl
 ·rename_i sl g c hc;split
  ·rename_i hn;refine s6 ?_ (Tr.zI hg (by show(C.F:Int)<=s.mem .next;omega))
   apply um<;>(try intro j)<;>simp only[wv,view,St.wr,St.lay,St.to,St.put,St.holds,St.qU,St.mZ,St.Fz,St.tB,got,fC,dc]<;>grind [sig,vt,lT]
  ·rename_i hn;refine s6 ?_ (Tr.spawn f hg hh' (by show s.mem .next<(C.F:Int);omega))
   apply um<;>(try intro j)<;>simp only[wv,view,St.wr,St.lay,St.to,St.put,St.holds,St.qU,St.mZ,St.Fz,St.tB,got,fC,dc]<;>grind [sig,vt,lT]
 ·split
  ·rename_i hn;refine s6 ?_ (Tr.wait f hg hh' (by simpa [wv,view]using hn))
   apply um<;>(try intro j)<;>simp only[wv,view,St.wr,St.lay,St.to,St.put,St.holds,St.qU,St.mZ,St.Fz,St.tB,got,fC,dc]<;>grind [sig,vt,lT]
  ·rename_i hn;refine s6 ?_ (Tr.pass f hg hh' (by simpa [wv,view]using hn))
   apply um<;>(try intro j)<;>simp only[wv,view,St.wr,St.lay,St.to,St.put,St.holds,St.qU,St.mZ,St.Fz,St.tB,got,fC,dc]<;>grind [sig,vt,lT]
 ·split
  ·rename_i h0;subst h0;refine s6 ?_ (Tr.Iq _ hg hh')
   apply um<;>(try intro j)<;>simp only[wv,view,St.wr,St.lay,St.to,St.put,St.holds,St.qU,St.mZ,St.Fz,St.tB,got,fC,dc]<;>grind [sig,vt,lT]
  ·rename_i h0;refine s6 ?_ (Tr.ret f _ hg hh' h0)
   apply um<;>(try intro j)<;>simp only[wv,view,St.wr,St.lay,St.to,St.put,St.holds,St.qU,St.mZ,St.Fz,St.tB,got,fC,dc]<;>grind [sig,vt,lT]
theorem FQ(hf:(view s).FI C.N C.F)(hd:DT C s)(hi:i<C.N)(d:Int):Tr C i (wv s) (aJ C s i d).ev (wv (aJ C s i d).s):=by
 cases hp:s.pc i with
 | Dz c =>
  unfold Am.aJ;rw[hp];simp only;exact gF rfl (by rw[hp];exact⟨rfl,rfl⟩) rfl rfl (λ_=>rfl) rfl rfl rfl rfl (λ_ _=>rfl) rfl
 | Ac c b =>
  unfold Am.aJ;rw[hp];simp only;exact gF rfl (by rw[hp];exact⟨rfl,rfl⟩) rfl rfl (λ_=>rfl) rfl rfl rfl rfl (λ_ _=>rfl) rfl
 | tc c b t =>
  unfold Am.aJ;rw[hp];simp only;exact gF rfl (by rw[hp];exact⟨rfl,rfl⟩) rfl rfl (λ_=>rfl) rfl rfl rfl rfl (λ_ _=>rfl) rfl
 | GZ =>
  unfold Am.aJ;rw[hp];simp only;exact gF rfl (by rw[hp];exact⟨rfl,rfl⟩) rfl rfl (λ_=>rfl) rfl rfl rfl rfl (λ_ _=>rfl) rfl
 | wX b =>
  unfold Am.aJ;rw[hp];simp only;exact gF rfl (by rw[hp];exact⟨rfl,rfl⟩) rfl rfl (λ_=>rfl) rfl rfl rfl rfl (λ_ _=>rfl) rfl
 | vG b t =>
  unfold Am.aJ;rw[hp];simp only;exact gF rfl (by rw[hp];exact⟨rfl,rfl⟩) rfl rfl (λ_=>rfl) rfl rfl rfl rfl (λ_ _=>rfl) rfl
 | rm =>
  unfold Am.aJ;rw[hp];simp only;exact gF rfl (by rw[hp];exact⟨rfl,rfl⟩) rfl rfl (λ_=>rfl) rfl rfl rfl rfl (λ_ _=>rfl) rfl
 | rI v t =>
  unfold Am.aJ;rw[hp];simp only;exact gF rfl (by rw[hp];exact⟨rfl,rfl⟩) rfl rfl (λ_=>rfl) rfl rfl rfl rfl (λ_ _=>rfl) rfl
 | qv v t g =>
  unfold Am.aJ;rw[hp];simp only;exact gF rfl (by rw[hp];exact⟨rfl,rfl⟩) rfl rfl (λ_=>rfl) rfl rfl rfl rfl (λ_ _=>rfl) rfl
 | og v t g cc =>
  unfold Am.aJ;rw[hp];simp only;exact gF rfl (by rw[hp];exact⟨rfl,rfl⟩) rfl rfl (λ_=>rfl) rfl rfl rfl rfl (λ_ _=>rfl) rfl
 | EX j =>
  unfold Am.aJ;rw[hp];simp only;exact gF rfl (by rw[hp];exact⟨rfl,rfl⟩) rfl rfl (λ_=>rfl) rfl rfl rfl rfl (λ_ _=>rfl) rfl
 | mL c b t cc n =>
  unfold Am.aJ;rw[hp];simp only;exact gF rfl (by rw[hp];exact⟨rfl,rfl⟩) rfl rfl (λ_=>rfl) rfl rfl rfl rfl (λ_ _=>rfl) rfl
 | pD c b t cc =>
  unfold Am.aJ;rw[hp];simp only;exact gF rfl (by rw[hp];exact⟨rfl,rfl⟩) rfl rfl (λ_=>rfl) rfl rfl rfl rfl (λ_=>so rfl) rfl
 | pE c b t cc =>
  unfold Am.aJ;rw[hp];simp only;exact gF rfl (by rw[hp];exact⟨rfl,rfl⟩) rfl rfl (λ_=>rfl) rfl rfl rfl rfl (λ_=>so rfl) rfl
 | mM c b cc =>
  unfold Am.aJ;rw[hp];simp only;exact gF rfl (by rw[hp];exact⟨rfl,rfl⟩) rfl rfl (λ_=>rfl) rfl rfl rfl rfl (λ_=>so rfl) rfl
 | rH b =>
  unfold Am.aJ;rw[hp];simp only;exact gF rfl (by rw[hp];exact⟨rfl,rfl⟩) rfl rfl (λ_=>rfl) rfl rfl rfl rfl (λ_=>so rfl) rfl
 | flag =>
  unfold Am.aJ;rw[hp];simp only;exact gF rfl (by rw[hp];exact⟨rfl,rfl⟩) rfl rfl (λ_=>rfl) rfl rfl rfl rfl (λ_=>so rfl) rfl
 | sleep =>
  unfold Am.aJ;rw[hp];simp only;exact gF rfl (by rw[hp];exact⟨rfl,rfl⟩) rfl rfl (λ_=>rfl) rfl rfl rfl rfl (λ_=>so rfl) rfl
 | wc j =>
  unfold Am.aJ;rw[hp];simp only;exact gF rfl (by rw[hp];exact⟨rfl,rfl⟩) rfl rfl (λ_=>rfl) rfl rfl rfl rfl (λ_=>so rfl) rfl
 | grow c b t cc =>
  unfold Am.aJ;rw[hp];simp only;exact gF rfl (by rw[hp];exact⟨rfl,rfl⟩) rfl rfl (λ_=>rfl) rfl rfl rfl rfl (λa ha=>by cases a<;>first | rfl | (simp[uw.ZJ]at ha)) rfl
 | mS c b t cc n x =>
  unfold Am.aJ;rw[hp];simp only;refine gF rfl (by rw[hp];split<;>exact⟨rfl,rfl⟩) rfl rfl (λ_=>rfl) rfl rfl rfl rfl (λ_=>so rfl) rfl
 | Ig =>
  unfold Am.aJ;rw[hp];simp only;refine gF rfl (by rw[hp];split<;>exact⟨rfl,rfl⟩) rfl rfl (λ_=>rfl) rfl rfl rfl rfl (λ_ _=>rfl) rfl
 | uj j =>
  unfold Am.aJ;rw[hp];simp only;split
  ·exact gF rfl (by rw[hp];exact⟨rfl,rfl⟩) rfl rfl (λ_=>rfl) rfl rfl rfl rfl (λ_=>so rfl) rfl
  ·exact gF rfl (by rw[hp];split<;>exact⟨rfl,rfl⟩) rfl rfl (λ_=>rfl) rfl rfl rfl rfl (λ_ _=>rfl) rfl
 | qu t =>
  unfold Am.aJ;rw[hp];simp only;exact gF rfl (by rw[hp];split<;>exact⟨rfl,rfl⟩) rfl rfl (λ_=>rfl) rfl rfl rfl rfl (λ_=>so rfl) rfl
 | vH v t =>
  unfold Am.aJ;rw[hp];simp only;split<;>exact gF rfl (by rw[hp];exact⟨rfl,rfl⟩) rfl rfl (λ_=>rfl) rfl rfl rfl rfl (λ_ _=>rfl) rfl
 | Ez =>
  unfold Am.aJ;rw[hp];simp only;split
  ·exact gF rfl (by rw[hp];exact⟨rfl,rfl⟩) rfl rfl (λ_=>rfl) rfl rfl rfl rfl (λ_ _=>rfl) rfl
  ·exact gF rfl (by rw[hp];split<;>exact⟨rfl,rfl⟩) rfl rfl (λ_=>rfl) rfl rfl rfl rfl (λ_ _=>rfl) rfl
 | vr =>
  unfold Am.aJ;rw[hp];simp only[looking];split
  ·exact gF rfl (by rw[hp];exact⟨rfl,rfl⟩) rfl rfl (λ_=>rfl) rfl rfl rfl rfl (λ_ _=>rfl) rfl
  ·split<;>exact gF rfl (by rw[hp];exact⟨rfl,rfl⟩) rfl rfl (λ_=>rfl) rfl rfl rfl rfl (λ_ _=>rfl) rfl
 | DA j t =>
  unfold Am.aJ;rw[hp];simp only[looking];split
  ·exact gF rfl (by rw[hp];exact⟨rfl,rfl⟩) rfl rfl (λ_=>rfl) rfl rfl rfl rfl (λ_ _=>rfl) rfl
  ·split<;>exact gF rfl (by rw[hp];exact⟨rfl,rfl⟩) rfl rfl (λ_=>rfl) rfl rfl rfl rfl (λ_ _=>rfl) rfl
 | parked =>
  unfold Am.aJ;rw[hp];simp only;split
  ·exact .gF none rfl
  ·exact gF rfl (by rw[hp];split<;>exact⟨rfl,rfl⟩) rfl rfl (λ_=>rfl) rfl rfl rfl rfl (λ_ _=>rfl) rfl
 | back b =>
  unfold Am.aJ;rw[hp];simp only[DB];split
  ·exact gF rfl (by rw[hp];exact⟨rfl,rfl⟩) rfl rfl (λ_=>rfl) rfl rfl rfl rfl (λ_=>so rfl) rfl
  ·split
   ·exact gF rfl (by rw[hp];exact⟨rfl,rfl⟩) rfl rfl (λ_=>rfl) rfl rfl rfl rfl (λ_ _=>rfl) rfl
   ·exact gF rfl (by rw[hp];split<;>exact⟨rfl,rfl⟩) rfl rfl (λ_=>rfl) rfl rfl rfl rfl (λ_ _=>rfl) rfl
 | we b =>
  unfold Am.aJ;rw[hp];simp only[DB];split
  ·exact gF rfl (by rw[hp];exact⟨rfl,rfl⟩) rfl rfl (λ_=>rfl) rfl rfl rfl rfl (λ_=>so rfl) rfl
  ·exact gF rfl (by rw[hp];split<;>exact⟨rfl,rfl⟩) rfl rfl (λ_=>rfl) rfl rfl rfl rfl (λ_=>so rfl) rfl
 | done =>
  unfold Am.aJ;rw[hp];simp only[pG];split<;>exact gF rfl (by rw[hp];exact⟨rfl,rfl⟩) rfl rfl (λ_=>rfl) rfl rfl rfl rfl (λ_=>so rfl) rfl
 | tell j =>
  unfold Am.aJ;rw[hp];simp only[pG];split
  ·exact gF rfl (by rw[hp];exact⟨rfl,rfl⟩) rfl rfl (λ_=>rfl) rfl rfl rfl rfl (λ_=>so rfl) rfl
  ·split<;>exact gF rfl (by rw[hp];exact⟨rfl,rfl⟩) rfl rfl (λ_=>rfl) rfl rfl rfl rfl (λ_ _=>rfl) rfl
 | xJ j =>
  unfold Am.aJ;rw[hp];simp only[pG];split<;>exact gF rfl (by rw[hp];exact⟨rfl,rfl⟩) rfl rfl (λ_=>rfl) rfl rfl rfl rfl (λ_=>so rfl) rfl
 | td c b t =>
  have hg:(view s).g i= .push c:=by show sig (s.pc i)=_;rw[hp];rfl
  unfold Am.aJ;rw[hp];simp only;split
  ·exact gF rfl (by rw[hp];exact⟨rfl,rfl⟩) rfl rfl (λ_=>rfl) rfl rfl rfl rfl (λ_ _=>rfl) rfl
  ·split
   ·refine s6 ?_ (Tr.full c hg)
    apply um<;>(try intro j)<;>simp only[wv,view,St.wr,St.lay,St.to,St.put,St.holds,St.qU,St.mZ,St.Fz,St.tB,got,fC,dc]<;>grind [sig,vt,lT]
   ·exact gF rfl (by rw[hp];exact⟨rfl,rfl⟩) rfl rfl (λ_=>rfl) rfl rfl rfl rfl (λ_ _=>rfl) rfl
 | halted=>unfold Am.aJ;rw[hp];exact .gF none rfl
 | full=>unfold Am.aJ;rw[hp];exact .gF none rfl
 | run=>unfold Am.aJ;rw[hp];exact SV hf hi hp
 | start x =>
  have hg:(view s).g i= .start:=by show sig (s.pc i)=_;rw[hp];rfl
  obtain⟨f,hh⟩:=uY hf hi (by rw[hp];rfl);unfold Am.aJ;rw[hp];simp only[hh,qH];have hx:x=(wv s).fx i:=by show x=vt (s.pc i);rw[hp];rfl
  rw[hx];refine s6 ?_ (Tr.start f hg hh)
  apply um<;>(try intro j)<;>simp only[wv,view,St.wr,St.lay,St.to,St.put,St.holds,St.qU,St.mZ,St.Fz,St.tB,got,fC,dc]<;>grind [sig,vt,lT]
 | fork c =>
  have hg:(view s).g i= .fork c:=by show sig (s.pc i)=_;rw[hp];rfl
  obtain⟨f,hh⟩:=uY hf hi (by rw[hp];rfl);unfold Am.aJ;rw[hp];simp only[hh,qH];refine s6 ?_ (Tr.fork c f hg hh)
  apply um<;>(try intro j)<;>simp only[wv,view,St.wr,St.lay,St.to,St.put,St.holds,St.qU,St.mZ,St.Fz,St.tB,got,fC,dc]<;>grind [sig,vt,lT]
 | ta =>
  have hg:(view s).g i= .one:=by show sig (s.pc i)=_;rw[hp];rfl
  obtain⟨f,hh⟩:=uY hf hi (by rw[hp];rfl);unfold Am.aJ;rw[hp];simp only[hh,qH];refine s6 ?_ (Tr.one f hg hh)
  apply um<;>(try intro j)<;>simp only[wv,view,St.wr,St.lay,St.to,St.put,St.holds,St.qU,St.mZ,St.Fz,St.tB,got,fC,dc]<;>grind [sig,vt,lT]
 | out p c =>
  have hg:(view s).g i= .out p c:=by show sig (s.pc i)=_;rw[hp];rfl
  unfold Am.aJ;rw[hp];simp only;split
  ·rename_i hn;refine s6 ?_ (Tr.L4 p c hg hn)
   apply um<;>(try intro j)<;>simp only[wv,view,St.wr,St.lay,St.to,St.put,St.holds,St.qU,St.mZ,St.Fz,St.tB,got,fC,dc]<;>grind [sig,vt,lT]
  ·rename_i hn;refine s6 ?_ (Tr.L2 p c hg hn)
   apply um<;>(try intro j)<;>simp only[wv,view,St.wr,St.lay,St.to,St.put,St.holds,St.qU,St.mZ,St.Fz,St.tB,got,fC,dc]<;>grind [sig,vt,lT]
 | take p c =>
  have hg:(view s).g i= .take p c:=by show sig (s.pc i)=_;rw[hp];rfl
  unfold Am.aJ;rw[hp];simp only;refine s6 ?_ (Tr.take p c hg)
  apply um<;>(try intro j)<;>simp only[wv,view,St.wr,St.lay,St.to,St.put,St.holds,St.qU,St.mZ,St.Fz,St.tB,got,fC,dc]<;>grind [sig,vt,lT]
 | rW c b =>
  have hg:(view s).g i= .push c:=by show sig (s.pc i)=_;rw[hp];rfl
  obtain⟨f,hh⟩:=uY hf hi (by rw[hp];rfl);unfold Am.aJ;rw[hp];simp only[hh,qH];refine s6 ?_ (Tr.push c f hg hh)
  apply um<;>(try intro j)<;>simp only[wv,view,St.wr,St.lay,St.to,St.put,St.holds,St.qU,St.mZ,St.Fz,St.tB,got,fC,dc]<;>grind [sig,vt,lT]
 | Ey b =>
  have hg:(view s).g i= .none:=by show sig (s.pc i)=_;rw[hp];rfl
  have P:=(hd.1 i hi).ph;unfold rN at P;rw[hp]at P;simp only at P;unfold Am.aJ;rw[hp];simp only;split
  ·rename_i hlt;have hne:s.q i≠[]:=by
    intro e;simp only[St.L,St.T,e,zS]at P;omega
   have hq:s.q i=(s.q i).dropLast++[(s.q i).getLastD 0]:=by
    rw[List.getLastD_eq_getLast?,List.getLast?_eq_some_getLast hne];exact(List.dropLast_concat_getLast hne).symm
   refine s6 ?_ (Tr.mZ ((s.q i).getLastD 0) ((s.q i).dropLast) hg hq)
   apply um<;>(try intro j)<;>simp only[wv,view,St.wr,St.lay,St.to,St.put,St.holds,St.qU,St.mZ,St.Fz,St.tB,got,fC,dc]<;>grind [sig,vt,lT]
  ·split<;>exact gF rfl (by rw[hp];exact⟨rfl,rfl⟩) rfl rfl (λ_=>rfl) rfl rfl rfl rfl (λ_ _=>rfl) rfl
 | sE b t cc =>
  have hg:(view s).g i= .none:=by show sig (s.pc i)=_;rw[hp];rfl
  have P:=(hd.1 i hi).ph;unfold rN at P;rw[hp]at P;simp only at P;unfold Am.aJ;rw[hp];simp only;split
  ·rename_i hlt;obtain⟨x,hx,he⟩:=(P.1.2.2.2.1 hlt).2.2;rw[<-P.2]at he;rw[he];refine s6 ?_ (Tr.got x hg hx)
   apply um<;>(try intro j)<;>simp only[wv,view,St.wr,St.lay,St.to,St.put,St.holds,St.qU,St.mZ,St.Fz,St.tB,got,fC,dc]<;>grind [sig,vt,lT]
  ·exact gF rfl (by rw[hp];exact⟨rfl,rfl⟩) rfl rfl (λ_=>rfl) rfl rfl rfl rfl (λ_ _=>rfl) rfl
 | uP b t x =>
  have hg:(view s).g i= .none:=by show sig (s.pc i)=_;rw[hp];rfl
  have P:=(hd.1 i hi).ph;unfold rN at P;rw[hp]at P;simp only at P;unfold Am.aJ;rw[hp];simp only;split
  ·rename_i ht;have hq:=(P.2.2.2.2.1 ht).1;refine s6 ?_ (Tr.L5 x.toNat hg hq)
   apply um<;>(try intro j)<;>simp only[wv,view,St.wr,St.lay,St.to,St.put,St.holds,St.qU,St.mZ,St.Fz,St.tB,got,fC,dc]<;>grind [sig,vt,lT]
  ·exact gF rfl (by rw[hp];exact⟨rfl,rfl⟩) rfl rfl (λ_=>rfl) rfl rfl rfl rfl (λ_ _=>rfl) rfl
 | tA t x AU =>
  have hg:(view s).g i= .none:=by show sig (s.pc i)=_;rw[hp];rfl
  have P:=(hd.1 i hi).ph;unfold rN at P;rw[hp]at P;simp only at P;unfold Am.aJ;rw[hp];simp only;split
  ·rename_i hw;refine s6 ?_ (Tr.got x.toNat hg (P.2.2.2 hw).1)
   apply um<;>(try intro j)<;>simp only[wv,view,St.wr,St.lay,St.to,St.put,St.holds,St.qU,St.mZ,St.Fz,St.tB,got,fC,dc]<;>grind [sig,vt,lT]
  ·exact gF rfl (by rw[hp];split<;>exact⟨rfl,rfl⟩) rfl rfl (λ_=>rfl) rfl rfl rfl rfl (λ_=>so rfl) rfl
 | pF v t x =>
  have hg:(view s).g i= .none:=by show sig (s.pc i)=_;rw[hp];rfl
  have HT:=hd.2 i hi;unfold Th at HT;rw[hp]at HT;simp only at HT;unfold Am.aJ;rw[hp];simp only;split
  ·rename_i ht;obtain⟨y,l,hq,hx⟩:=HT.2.2.2 ht.symm;subst hx;refine s6 ?_ (Tr.DD v y l HT.1 HT.2.1 hg hq)
   apply um<;>(try intro j)<;>simp only[wv,view,St.wr,St.lay,St.to,St.put,St.holds,St.qU,St.mZ,St.Fz,St.tB,got,fC,dc]<;>grind [sig,vt,lT]
  ·exact gF rfl (by rw[hp];exact⟨rfl,rfl⟩) rfl rfl (λ_=>rfl) rfl rfl rfl rfl (λ_ _=>rfl) rfl
theorem FI.aJ(hf:(view s).FI C.N C.F)(hd:DT C s)(hi:i<C.N)(d:Int):(view (aJ C s i d).s).FI C.N C.F:=(FQ hf hd hi d).fi hi hf
end
def SW(C:kT)(g a:Nat):Prop:=
 match C.code g a with
 | .const x _=>x<C.da g/\a+1<C.len g
 | .nD x=>x<C.da g/\a+1<C.len g
 | .move x y=>x<C.da g/\y<C.da g/\a+1<C.len g
 | .arith op x y z=>x<C.da g/\y<C.da g/\z<C.da g/\a+1<C.len g
 | .jump t=>t<C.len g
 | .branch x t=>x<C.da g/\t<C.len g/\a+1<C.len g
 | .spawn s f c=>s<8/\f<C.WX/\(C.params f=0∨c+C.params f<=C.da g)/\a+1<C.len g
 | .sync=>a+1<C.len g
 | .load x s=>x<C.da g/\s<8/\a+1<C.len g
 | .ret x=>x<C.da g
structure kT.OK(C:kT):Prop where
 n1:1<=C.N
 n64:C.N<=64
 f1:1<=C.F
 f4:C.F<=4096
 c1:1<=C.first
 cm:C.first<=C.most
 m4:C.most<=4096
 fn0:0<C.WX
 Yv:∀g,g<C.WX->0<C.len g
 J4:∀g,g<C.WX->C.params g<=C.da g/\C.da g<=16
 ins:∀g,g<C.WX->∀a,a<C.len g->SW C g a
def live:Loc->Bool
 | .fin _ | .gone=>false
 | _=>true
def FR1(C:kT)(x:Fr)(l:Loc):Prop:=x.fn<C.WX/\x.slot<8/\(live l=true->x.J<C.len x.fn)
def FR(C:kT)(s:St):Prop:=∀f,f<s.nf->FR1 C (s.fr f) (s.loc f)
section
variable {C:kT}{s:St}{i:Nat}
theorem FR.gF{s':St}(h:FR C s)(h1:s'.nf=s.nf)(h2:s'.fr=s.fr)(h3:s'.loc=s.loc):FR C s':=by
 intro f hf;rw[h2,h3];exact h f (h1▸ hf)
theorem FR.put{s':St}{f:Nat}{l:Loc}(h:FR C s)(h1:s'.nf=s.nf)(h2:s'.fr=s.fr)(h3:s'.loc=dW s.loc f l)(hl:live l=true->live (s.loc f)=true):FR C s':=by
 intro g hg;rw[h2,h3,fC];have:=h g (h1▸ hg);split
 ·next e=>subst e;exact⟨this.1,this.2.1,λhh=>this.2.2 (hl hh)⟩
 ·exact this
theorem FR.lay{s':St}{f:Nat}{x:Fr}(h:FR C s)(h1:s'.nf=s.nf)(h2:s'.fr=dW s.fr f x)(h3:s'.loc=s.loc)(hx:f<s.nf->FR1 C x (s.loc f)):FR C s':=by
 intro g hg;rw[h2,h3,fC];have Oe:=h1▸ hg;split
 ·next e=>subst e;exact hx Oe
 ·exact h g Oe
theorem DE(hf:(view s).FI C.N C.F)(hi:i<C.N){f:Nat}(hh:s.hold i=some f):live (s.loc f)=true/\f<s.nf:=by
 have a:=hf.hold i f hi hh;have e:s.loc f= .uk i∨s.loc f= .held i:=a.elim (λa=>.inl a.2) (λa=>.inr a.2);refine⟨by rcases e with e | e<;>rw[e]<;>rfl,?_⟩;rcases CV f s.nf with h | h
 ·exact h
 ·have:=hf.free f h;change s.loc f=_ at this;rw[this]at e;rcases e with e | e<;>cases e
theorem FR.instr(hC:C.OK)(h:FR C s)(hf:(view s).FI C.N C.F)(hi:i<C.N)(hp:s.pc i= .run):FR C (instr C s i).s:=by
 obtain⟨f,hh⟩:=uY hf hi (by rw[hp];rfl);obtain⟨hl,hn⟩:=DE hf hi hh;obtain⟨a1,a2,a3⟩:=h f hn;have a3:=a3 hl;have ok:=hC.ins _ a1 _ a3;unfold SW at ok;unfold Am.instr;simp only[hh,qH];split<;>rename_i hc<;>rw[hc]at ok<;>simp only at ok
 ·exact h.lay rfl rfl rfl (λ_=>⟨a1,a2,λ_=>ok.2⟩)
 ·exact h.lay rfl rfl rfl (λ_=>⟨a1,a2,λ_=>ok.2.2⟩)
 ·exact h.lay rfl rfl rfl (λ_=>⟨a1,a2,λ_=>ok.2.2.2⟩)
 ·exact h.lay rfl rfl rfl (λ_=>⟨a1,a2,λ_=>ok⟩)
 ·exact h.lay rfl rfl rfl (λ_=>by
   split
   ·exact⟨a1,a2,λ_=>ok.2.1⟩
   ·exact⟨a1,a2,λ_=>ok.2.2⟩)
 ·exact h.lay rfl rfl rfl (λ_=>⟨a1,a2,λ_=>ok.2⟩)
 ·exact h.lay rfl rfl rfl (λ_=>⟨a1,a2,λ_=>ok.2.2⟩)
 ·split
  ·exact h.lay rfl rfl rfl (λ_=>⟨a1,a2,λ_=>ok.2.2.2⟩)
  ·intro g hg;simp only[St.wr,St.lay,St.to,St.put,fC];split
   ·next e=>subst e;exact⟨ok.2.1,ok.1,λ_=>hC.Yv _ ok.2.1⟩
   ·next e =>
    have Oe:g<s.nf:=by have:g<s.nf+1:=hg;omega
    split
    ·next e=>subst e;exact⟨a1,a2,λ_=>ok.2.2.2⟩
    ·exact h g Oe
 ·split
  ·intro g hg;simp only[St.wr,St.lay,St.to,St.put,St.holds,fC];split
   ·next e=>exact⟨a1,a2,λ_=>ok⟩
   ·exact h g hg
  ·intro g hg;simp only[St.wr,St.lay,St.to,St.put,St.holds,fC];split
   ·next e=>exact⟨a1,a2,λ_=>ok⟩
   ·exact h g hg
 ·split
  ·next e0 =>
   subst e0;intro g hg;simp only[St.wr,St.lay,St.to,St.put,St.holds,fC];split
   ·next e=>exact⟨a1,a2,λe=>by cases e⟩
   ·exact h g hg
  ·intro g hg;simp only[St.wr,St.lay,St.to,St.put,St.holds,fC];split
   ·next e=>exact⟨a1,a2,λe=>by cases e⟩
   ·exact h g hg
theorem FR.aJ(hC:C.OK)(h:FR C s)(hf:(view s).FI C.N C.F)(hd:DT C s)(hi:i<C.N)(d:Int):FR C (aJ C s i d).s:=by
 cases hp:s.pc i with
 | run=>unfold Am.aJ;rw[hp];exact FR.instr hC h hf hi hp
 | ta =>
  obtain⟨f,hh⟩:=uY hf hi (by rw[hp];rfl);unfold Am.aJ;rw[hp];simp only[hh,qH];exact h.put rfl rfl rfl (λ_=>(DE hf hi hh).1)
 | out p c =>
  have hg:(view s).g i= .out p c:=by show sig (s.pc i)=_;rw[hp];rfl
  unfold Am.aJ;rw[hp];simp only;split
  ·rename_i hn;have hw:s.loc p= .waiting:=(hf.jg hi hg hn).1;have h1:FR C (s.put c .gone):=h.put rfl rfl rfl (λe=>by cases e);refine FR.put (f:=p) (l:=.yf i) h1 rfl rfl rfl (λ_ => ?_);show live (dW s.loc c .gone p)=true;rw[bA (hf.jg hi hg hn).2.2,hw];rfl
  ·exact h.put rfl rfl rfl (λe=>by cases e)
 | take p c =>
  have hg:(view s).g i= .take p c:=by show sig (s.pc i)=_;rw[hp];rfl
  unfold Am.aJ;rw[hp];simp only;exact h.put rfl rfl rfl (λ_=>by rw[show s.loc p= .yf i from hf.tk i p c hi hg];rfl)
 | rW c b =>
  have hg:(view s).g i= .push c:=by show sig (s.pc i)=_;rw[hp];rfl
  unfold Am.aJ;rw[hp];simp only;exact h.put rfl rfl rfl (λ_=>by rw[show s.loc c= .cw i from(hf.ps i c hi hg).2.1];rfl)
 | Ey b =>
  have P:=(hd.1 i hi).ph;unfold rN at P;rw[hp]at P;simp only at P;unfold Am.aJ;rw[hp];simp only;split
  ·rename_i hlt;have hne:s.q i≠[]:=by
    intro e;simp only[St.L,St.T,e,zS]at P;omega
   have hm:(s.q i).getLastD 0∈s.q i:=by
    rw[List.getLastD_eq_getLast?,List.getLast?_eq_some_getLast hne];exact List.getLast_mem hne
   exact h.put rfl rfl rfl (λ_=>by rw[show s.loc _= .SR i from(hf.q i _ hi hm).2];rfl)
  ·split<;>exact h.gF rfl rfl rfl
 | sE b t cc =>
  have P:=(hd.1 i hi).ph;unfold rN at P;rw[hp]at P;simp only at P;unfold Am.aJ;rw[hp];simp only;split
  ·rename_i hlt;obtain⟨x,hx,he⟩:=(P.1.2.2.2.1 hlt).2.2;rw[<-P.2]at he;rw[he];refine h.put (f:=x) (l:=.held i) rfl rfl (by simp only[got,St.put,St.mZ,St.to,St.holds,dc]) (λ_ => ?_);rw[show s.loc x= .pop i from(hf.pop i x hi hx).2];rfl
  ·exact h.gF rfl rfl rfl
 | uP b t x =>
  have P:=(hd.1 i hi).ph;unfold rN at P;rw[hp]at P;simp only at P;unfold Am.aJ;rw[hp];simp only;split
  ·rename_i ht;have hq:=(P.2.2.2.2.1 ht).1;exact h.put rfl rfl rfl (λ_=>by rw[show s.loc x.toNat= .SR i from(hf.q i _ hi (by show x.toNat∈s.q i;rw[hq];simp)).2];rfl)
  ·exact h.gF rfl rfl rfl
 | tA t x AU =>
  have P:=(hd.1 i hi).ph;unfold rN at P;rw[hp]at P;simp only at P;unfold Am.aJ;rw[hp];simp only;split
  ·rename_i hw;exact h.put (f:=x.toNat) (l:=.held i) rfl rfl rfl (λ_=>by rw[show s.loc x.toNat= .pop i from(hf.pop i _ hi (P.2.2.2 hw).1).2];rfl)
  ·exact h.gF rfl rfl rfl
 | pF v t x =>
  have HT:=hd.2 i hi;unfold Th at HT;rw[hp]at HT;simp only at HT;unfold Am.aJ;rw[hp];simp only;split
  ·rename_i ht;obtain⟨y,l,hq,hx⟩:=HT.2.2.2 ht.symm;exact h.put (f:=x.toNat) (l:=.held i) rfl rfl rfl (λ_=>by rw[show s.loc x.toNat= .SR v from(hf.q v _ HT.1 (by show x.toNat∈s.q v;rw[hq,hx];simp)).2];rfl)
  ·exact h.gF rfl rfl rfl
 | _ =>
  unfold Am.aJ;rw[hp];simp only[pG,looking,DB]
  repeat' split
  all_goals exact h.gF rfl rfl rfl
end
def uA(C:kT):Nat->Nat
 | 0=>C.first
 | g+1=>min (2*uA C g) C.most
def lA:Pc->Bool
 | .pD .. | .mL .. | .mS .. | .pE .. => true
 | _=>false
def gen(s:St)(j:Nat):Nat:=s.cur j+(if lA (s.pc j)then 1 else 0)
def tot(C:kT):Nat->Nat
 | 0=>0
 | g+1=>tot C g+1+uA C (g+1)
def S0(C:kT):Nat:=4+10*C.F+C.N+C.N*(4+C.first)
def vJ(C:kT)(j:Nat):Nat:=4+10*C.F+C.N+j*(4+C.first)
def EC(f:Nat->Nat):Nat->Nat
 | 0=>0
 | n+1=>EC f n+f n
theorem CK{f g:Nat->Nat}:∀{n:Nat},(∀j,j<n->f j=g j)->EC f n=EC g n
 | 0,_=>rfl
 | n+1,h=>by simp only[EC];rw[CK (λj hj=>h j aB),h n aB]
theorem L6{f g:Nat->Nat}{i k:Nat}:∀{n:Nat},i<n->(∀j,j≠i->g j=f j)->g i=f i+k->EC g n=EC f n+k
 | n+1,hi,h,e=>by
  simp only[EC];by_cases hn:i=n
  ·subst hn;rw[CK (f:=g) (g:=f) (λj hj=>h j aB),e];omega
  ·rw[L6 (n:=n) aB h e,h n aB];omega
theorem O8{f:Nat->Nat}{k:Nat}:∀{n:Nat},(∀j,j<n->f j<=k)->EC f n<=n*k
 | 0,_=>by simp[EC]
 | n+1,h=>by simp only[EC];have:=O8 (n:=n) (λj hj=>h j aB);have:=h n aB;rw[EP];omega
theorem zK(C:kT)(g:Nat):jr C (uA C g)=(uA C (g+1):Int):=by
 unfold jr;simp only[uA];split<;>omega
theorem FT{C:kT}(h:C.OK):∀g,1<=uA C g
 | 0=>h.c1
 | g+1=>by have:=FT h g;have:=h.c1;have:=h.cm;simp only[uA];omega
theorem Nz{C:kT}(h:C.OK):∀g,uA C g<=C.most
 | 0=>h.cm
 | g+1=>by simp only[uA];omega
structure SZ(C:kT)(s:St):Prop where
 cap:∀j,j<C.N->∀g,g<=s.cur j->s.mem (.cap j g)=uA C g
 SX:∀j,j<C.N->s.base j 0=vJ C j+3
 size:s.size=S0 C+EC (λj=>tot C (gen s j)) C.N
 bs:∀j,j<C.N->∀g,1<=g->g<=gen s j->(S0 C:Int)<=s.base j g/\s.base j g+1+uA C g<=s.size
 dj:∀j j' g g',j<C.N->j'<C.N->1<=g->1<=g'->g<=gen s j->g'<=gen s j'->(j≠j'∨g≠g')->s.base j g+1+uA C g<=s.base j' g'∨s.base j' g'+1+uA C g'<=s.base j g
 gm:∀j,j<C.N->∀g,g<gen s j->uA C g<C.most
section
variable {C:kT}{s:St}{i:Nat}
theorem SZ.of{s':St}(h:SZ C s)(h1:s'.cur=s.cur)(h2:∀j,lA (s'.pc j)=lA (s.pc j))(h3:s'.base=s.base)(h4:s'.size=s.size)
 (h5:∀j g,g<=s.cur j->s'.mem (.cap j g)=s.mem (.cap j g)):SZ C s':=by
 obtain⟨a1,a2,a3,a4,a5,a6⟩:=h;have hg:gen s'=gen s:=by funext j;unfold gen;rw[h1,h2]
 exact⟨λj hj g NA=>by rw[h1]at NA;rw[h5 j g NA];exact a1 j hj g NA,by rw[h3];exact a2,by rw[h4,hg];exact a3,by rw[h3,h4,hg];exact a4,by rw[h3,hg];exact a5,by rw[hg];exact a6⟩
def uw.O9:uw->Bool
 | .cap .. => true
 | _=>false
theorem L7{s':St}{p:Pc}(h:s'.pc=dW s.pc i p)(hp:lA p=lA (s.pc i))(j:Nat):lA (s'.pc j)=lA (s.pc j):=by
 rw[h,fC];split
 ·next e=>rw[e,hp]
 ·rfl
theorem SZ.gF{s':St}{p:Pc}(h:SZ C s)(hp:s'.pc=dW s.pc i p)(hg:lA p=lA (s.pc i))(h1:s'.cur=s.cur)(h3:s'.base=s.base)(h4:s'.size=s.size)
 (hm:∀a,a.O9=true->s'.mem a=s.mem a):SZ C s':=
 h.of h1 (L7 hp hg) h3 h4 (λ_ _ _=>hm _ rfl)
theorem vK{a x:uw}{v:Int}(h:a.O9=false):x.O9=true->(s.wr a v).mem x=s.mem x:=λhx=>nr (by rintro rfl;rw[h]at hx;cases hx)
theorem SZ.same{s':St}(h:SZ C s)(hp:s'.pc=s.pc)(h1:s'.cur=s.cur)(h3:s'.base=s.base)(h4:s'.size=s.size)
 (hm:∀a,a.O9=true->s'.mem a=s.mem a):SZ C s':=
 h.of h1 (λj=>by rw[hp]) h3 h4 (λ_ _ _=>hm _ rfl)
theorem SZ.instr(h:SZ C s)(hp:s.pc i= .run):SZ C (instr C s i).s:=by
 unfold Am.instr;simp only;split
 ·exact h.same rfl rfl rfl rfl (λ_ _=>rfl)
 ·exact h.same rfl rfl rfl rfl (λ_ _=>rfl)
 ·exact h.same rfl rfl rfl rfl (λ_ _=>rfl)
 ·exact h.same rfl rfl rfl rfl (λ_ _=>rfl)
 ·exact h.same rfl rfl rfl rfl (λ_ _=>rfl)
 ·exact h.same rfl rfl rfl rfl (λ_ _=>rfl)
 ·exact h.same rfl rfl rfl rfl (λ_ _=>rfl)
 ·split<;>exact h.gF rfl (by rw[hp];rfl) rfl rfl rfl (λ_=>vK rfl)
 ·split<;>exact h.gF rfl (by rw[hp];rfl) rfl rfl rfl (λ_=>vK rfl)
 ·split<;>exact h.gF rfl (by rw[hp];rfl) rfl rfl rfl (λ_=>vK rfl)
theorem ED(h:SZ C s)(hi:i<C.N):s.cc i=uA C (s.cur i):=h.cap i hi _ (j9 _)
theorem SZ.aJ(hC:C.OK)(h:SZ C s)(hd:DT C s)(hi:i<C.N)(d:Int):SZ C (aJ C s i d).s:=by
 have P:=(hd.1 i hi).ph;cases hp:s.pc i with
 | run=>unfold Am.aJ;rw[hp];exact h.instr hp
 | halted=>unfold Am.aJ;rw[hp];exact h
 | full=>unfold Am.aJ;rw[hp];exact h
 | parked =>
  unfold Am.aJ;rw[hp];simp only;split
  ·exact h
  ·exact h.gF rfl (by rw[hp];split<;>rfl) rfl rfl rfl (λ_ _=>rfl)
 | grow c b t cc =>
  unfold rN at P;rw[hp]at P;simp only at P;have hg:gen s i=s.cur i:=by unfold gen;rw[hp];rfl
  have Q7:cc=uA C (s.cur i):=by rw[P.2.2.2.2.1];exact ED h hi
  have hb:jr C cc=uA C (s.cur i+1):=by rw[Q7];exact zK C _
  unfold Am.aJ;rw[hp];simp only;obtain⟨a1,a2,a3,a4,a5,a6⟩:=h;have hs:(S0 C:Int)<=s.size:=by rw[a3];omega
  refine⟨?_,?_,?_,?_,?_,?_⟩
  ·intro j hj g NA;simp only[St.to]at NA⊢;rw[cF (by rintro⟨rfl,rfl⟩;omega)];exact a1 j hj g NA
  ·intro j hj;simp only[St.to,fC];split
   ·next e=>subst e;rw[bA aB];exact a2 j hj
   ·exact a2 j hj
  ·simp only[St.to];rw[L6 (f:=λj=>tot C (gen s j)) (i:=i) (k:=1+uA C (s.cur i+1)) hi,a3,hb]
   ·omega
   ·intro j hj;unfold gen;simp only[bA hj]
   ·unfold gen;simp only[bK,lA,if_true,hp];simp only[tot,Ix,if_false,EN];omega
  ·intro j hj g h1 h2;simp only[St.to]at h2⊢;by_cases e:j=i
   ·subst e;simp only[gen,bK,lA,if_true]at h2;simp only[bK];by_cases e2:g=s.cur j+1
    ·subst e2;rw[bK,hb];exact⟨hs,aB⟩
    ·rw[bA e2,hb];have:=a4 j hj g h1 (by rw[hg];omega);exact⟨this.1,aB⟩
   ·simp only[gen,bA e]at h2;simp only[bA e];have:=a4 j hj g h1 (by unfold gen;exact h2);exact⟨this.1,aB⟩
  ·intro j j' g g' hj hj' h1 h1' h2 ZP hne;simp only[St.to]at h2 ZP⊢;have key:∀k x,k<C.N->1<=x->x<=gen s k->s.base k x+1+uA C x<=s.size:=λk x hk h1 h2=>(a4 k hk x h1 h2).2;have gk:∀k x,x<=gen {s with base:=dW s.base i (dW (s.base i) (s.cur i+1) s.size),pc:=dW s.pc i (.pD c b t cc)} k->(k=i/\x=s.cur i+1)∨(x<=gen s k/\¬(k=i/\x=s.cur i+1)):=by
    intro k x hx;by_cases e:k=i
    ·subst e;simp only[gen,bK,lA,if_true]at hx;by_cases e2:x=s.cur k+1
     ·exact .inl ⟨rfl,e2⟩
     ·exact .inr ⟨by rw[hg];omega,λh=>e2 h.2⟩
    ·simp only[gen,bA e]at hx;exact .inr ⟨hx,λh=>e h.1⟩
   have bk:∀k x,¬(k=i/\x=s.cur i+1)->dW s.base i (dW (s.base i) (s.cur i+1) s.size) k x=s.base k x:=by
    intro k x hx;simp only[fC];split
    ·next e=>subst e;rw[bA (λe=>hx ⟨rfl,e⟩)]
    ·rfl
   have bn:dW s.base i (dW (s.base i) (s.cur i+1) s.size) i (s.cur i+1)=s.size:=by rw[bK,bK]
   rcases gk j g h2 with ⟨rfl,rfl⟩ | ⟨c1,c2⟩
   ·rcases gk j' g' ZP with ⟨rfl,rfl⟩ | ⟨c1',c2'⟩
    ·simp at hne
    ·right;rw[bn,bk _ _ c2'];exact key j' g' hj' h1' c1'
   ·rcases gk j' g' ZP with ⟨rfl,rfl⟩ | ⟨c1',c2'⟩
    ·left;rw[bn,bk _ _ c2];exact key j g hj h1 c1
    ·rw[bk _ _ c2,bk _ _ c2'];exact a5 j j' g g' hj hj' h1 h1' c1 c1' hne
  ·intro j hj g NA;simp only[St.to]at NA;by_cases e:j=i
   ·subst e;simp only[gen,bK,lA,if_true]at NA;by_cases e2:g=s.cur j
    ·have:=P.2.2.2.2.2.2;rw[Q7]at this;rw[e2];omega
    ·exact a6 j hj g (by rw[hg];omega)
   ·simp only[gen,bA e]at NA;exact a6 j hj g NA
 | pD c b t cc =>
  unfold Am.aJ;rw[hp];simp only;refine h.of rfl (L7 (p:=.mL c b t cc t) rfl (by rw[hp];rfl)) rfl rfl (λj g hg=>nr (by intro e;cases e;omega))
 | mS c b t cc n x =>
  unfold Am.aJ;rw[hp];simp only;exact h.gF rfl (by rw[hp];split<;>rfl) rfl rfl rfl (λ_=>vK rfl)
 | pE c b t cc =>
  unfold rN at P;rw[hp]at P;simp only at P;have hcap:=P.2.1;rw[ED h hi,zK]at hcap;unfold Am.aJ;rw[hp];simp only;obtain⟨a1,a2,a3,a4,a5,a6⟩:=h;have hg:gen {s.wr (.buf i) (s.base i (s.cur i+1))with cur:=dW s.cur i (s.cur i+1),pc:=dW s.pc i (.mM c b (jr C cc))}=gen s:=by
   funext j;unfold gen
   by_cases e:j=i
   ·subst e;simp only[bK,hp,lA,if_true];rfl
   ·simp only[bA e]
  have Oe:gen (({s.wr (.buf i) (s.base i (s.cur i+1))with cur:=dW s.cur i (s.cur i+1)}:St).to i (.mM c b (jr C cc)))=gen s:=hg;refine⟨?_,a2,by rw[Oe];exact a3,by rw[Oe];exact a4,by rw[Oe];exact a5,by rw[Oe];exact a6⟩;intro j hj g NA;show dW s.mem (.buf i) (s.base i (s.cur i+1)) (.cap j g)=_;rw[bA (by simp)];by_cases e:j=i
  ·subst e;simp only[St.to,bK]at NA;by_cases e2:g=s.cur j+1
   ·rw[e2];exact hcap
   ·exact a1 j hj g aB
  ·simp only[St.to,bA e]at NA;exact a1 j hj g NA
 | back b =>
  unfold Am.aJ;rw[hp];simp only[DB];split
  ·exact h.gF rfl (by rw[hp];rfl) rfl rfl rfl (λ_=>vK rfl)
  ·split
   ·exact h.gF rfl (by rw[hp];rfl) rfl rfl rfl (λ_ _=>rfl)
   ·exact h.gF rfl (by rw[hp];split<;>rfl) rfl rfl rfl (λ_ _=>rfl)
 | we b =>
  unfold Am.aJ;rw[hp];simp only[DB];split
  ·exact h.gF rfl (by rw[hp];rfl) rfl rfl rfl (λ_=>vK rfl)
  ·exact h.gF rfl (by rw[hp];split<;>rfl) rfl rfl rfl (λ_=>vK rfl)
 | qu t =>
  unfold Am.aJ;rw[hp];simp only;exact h.gF rfl (by rw[hp];split<;>rfl) rfl rfl rfl (λ_=>vK rfl)
 | tA t x AU =>
  unfold Am.aJ;rw[hp];simp only;split
  ·exact h.gF rfl (by rw[hp];rfl) rfl rfl rfl (λ_=>vK rfl)
  ·exact h.gF rfl (by rw[hp];split<;>rfl) rfl rfl rfl (λ_=>vK rfl)
 | Ig =>
  unfold Am.aJ;rw[hp];simp only;exact h.gF rfl (by rw[hp];split<;>rfl) rfl rfl rfl (λ_ _=>rfl)
 | uj j =>
  unfold Am.aJ;rw[hp];simp only;split
  ·exact h.gF rfl (by rw[hp];rfl) rfl rfl rfl (λ_=>vK rfl)
  ·exact h.gF rfl (by rw[hp];split<;>rfl) rfl rfl rfl (λ_ _=>rfl)
 | Ez =>
  unfold Am.aJ;rw[hp];simp only;split
  ·exact h.gF rfl (by rw[hp];rfl) rfl rfl rfl (λ_ _=>rfl)
  ·exact h.gF rfl (by rw[hp];split<;>rfl) rfl rfl rfl (λ_ _=>rfl)
 | _ =>
  unfold Am.aJ;rw[hp];simp only[pG,looking,DB]
  repeat' split
  all_goals first
   | exact h.gF rfl (by rw[hp];rfl) rfl rfl rfl (λ_ _=>rfl)
   | exact h.gF rfl (by rw[hp];rfl) rfl rfl rfl (λ_=>vK rfl)
end
def uw.L8:uw->Bool
 | .next | .join _ | .mark _ | .tK | .top _ | .bot _=>true
 | _=>false
def gP:Pc->List Int
 | .Ac _ b=>[b]
 | .tc _ b t | .td _ b t | .grow _ b t _ | .pD _ b t _ | .pE _ b t _=>[b,t]
 | .mL _ b t _ n | .mS _ b t _ n _=>[b,t,n]
 | .mM _ b _ | .rW _ b=>[b]
 | .wX b | .rH b | .Ey b=>[b]
 | .qu t=>[t]
 | .vG b t | .sE b t _ | .uP b t _=>[b,t]
 | .tA t _ _=>[t]
 | .vH _ t | .rI _ t | .qv _ t _ | .og _ t _ _ | .pF _ t _=>[t]
 | .DA _ t=>[t]
 | _=>[]
def J5(x:Int)(n:Nat):Prop:=-(n:Int)<=x/\x<=n
structure BD(s:St)(n:Nat):Prop where
 m:∀a,a.L8=true->J5 (s.mem a) (n+1)
 r:∀i,∀x∈gP (s.pc i),J5 x (n+1)
 k:∀f,(s.fr f).ct<=n
section
variable {C:kT}{s:St}{i n:Nat}
theorem J5.mono{x:Int}{m:Nat}(h:J5 x n)(hm:n<=m):J5 x m:=⟨by have:=h.1;omega,by have:=h.2;omega⟩
theorem J5.inc{x:Int}(h:J5 x n):J5 (x+1) (n+1):=⟨by have:=h.1;omega,by have:=h.2;omega⟩
theorem J5.dec{x:Int}(h:J5 x n):J5 (x-1) (n+1):=⟨by have:=h.1;omega,by have:=h.2;omega⟩
theorem BD.of{s':St}{p:Pc}(h:BD s n)(hm:∀a,a.L8=true->J5 (s'.mem a) (n+2))(hp:s'.pc=dW s.pc i p)(hr:∀x∈gP p,J5 x (n+2))(hk:∀f,(s'.fr f).ct<=n+1):BD s' (n+1):=
 ⟨hm,λj x hx=>by
  rw[hp,fC]at hx;split at hx
  ·exact hr x hx
  ·exact(h.r j x hx).mono aB,hk⟩
theorem BD.mem(h:BD s n){a:uw}(ha:a.L8=true):J5 (s.mem a) (n+2):=(h.m a ha).mono aB
theorem BD.wr(h:BD s n){b:uw}{v:Int}(hv:b.L8=true->J5 v (n+2)):∀a,a.L8=true->J5 ((s.wr b v).mem a) (n+2):=λa ha=>by
 show J5 (dW s.mem b v a) _;rw[fC];split
 ·next e=>exact hv (e▸ ha)
 ·exact h.mem ha
theorem BD.ct(h:BD s n)(f:Nat):(s.fr f).ct<=n+1:=Kv (h.k f)
theorem BD.lay(h:BD s n){g:Nat}{x:Fr}(hx:x.ct<=n+1)(f:Nat):((s.lay g x).fr f).ct<=n+1:=by
 show(dW s.fr g x f).ct<=_;rw[fC];split
 ·exact hx
 ·exact h.ct f
theorem BD.aJ(h:BD s n)(d:Int):BD (aJ C s i d).s (n+1):=by
 have afw:=h.r i;cases hp:s.pc i with
 | run =>
  unfold Am.aJ;rw[hp];simp only;unfold instr;simp only;split
  ·exact h.of (p:=s.pc i) (λa ha=>h.mem ha) (qw _ _).symm (λx hx=>(afw x hx).mono aB) (h.lay (h.ct _))
  ·exact h.of (p:=s.pc i) (λa ha=>h.mem ha) (qw _ _).symm (λx hx=>(afw x hx).mono aB) (h.lay (h.ct _))
  ·exact h.of (p:=s.pc i) (λa ha=>h.mem ha) (qw _ _).symm (λx hx=>(afw x hx).mono aB) (h.lay (h.ct _))
  ·exact h.of (p:=s.pc i) (λa ha=>h.mem ha) (qw _ _).symm (λx hx=>(afw x hx).mono aB) (h.lay (h.ct _))
  ·exact h.of (p:=s.pc i) (λa ha=>h.mem ha) (qw _ _).symm (λx hx=>(afw x hx).mono aB) (h.lay (by split<;>exact h.ct _))
  ·exact h.of (p:=s.pc i) (λa ha=>h.mem ha) (qw _ _).symm (λx hx=>(afw x hx).mono aB) (h.lay (h.ct _))
  ·exact h.of (p:=s.pc i) (λa ha=>h.mem ha) (qw _ _).symm (λx hx=>(afw x hx).mono aB) (h.lay (h.ct _))
  ·split
   ·exact h.of (h.wr (λ_=>(h.m .next rfl).inc)) rfl (λx hx=>by cases hx) (h.lay (h.ct _))
   ·refine h.of (h.wr (λ_=>(h.m .next rfl).inc)) rfl (λx hx=>by cases hx) (λf => ?_);simp only[St.lay,St.wr,St.to,St.put,fC];have k1:=h.k ((s.hold i).getD 0);have k2:=h.ct f;split
    ·exact Cf _
    ·split
     ·exact Nat.succ_le_succ k1
     ·exact k2
  ·split<;>exact h.of (h.wr (λ_=>(h.m (.join _) rfl).dec)) rfl (λx hx=>by cases hx) (h.lay (h.ct _))
  ·split<;>exact h.of (h.wr (λe=>by cases e)) rfl (λx hx=>by cases hx) (h.lay (h.ct _))
 | halted=>unfold Am.aJ;rw[hp];exact h.of (p:=s.pc i) (λa ha=>h.mem ha) (qw _ _).symm (λx hx=>(afw x hx).mono aB) h.ct
 | full=>unfold Am.aJ;rw[hp];exact h.of (p:=s.pc i) (λa ha=>h.mem ha) (qw _ _).symm (λx hx=>(afw x hx).mono aB) h.ct
 | parked =>
  unfold Am.aJ;rw[hp];simp only;split
  ·exact h.of (p:=s.pc i) (λa ha=>h.mem ha) (qw _ _).symm (λx hx=>(afw x hx).mono aB) h.ct
  ·exact h.of (λa ha=>h.mem ha) rfl (by intro x hx;split at hx<;>cases hx) h.ct
 | grow c b t cc =>
  unfold Am.aJ;rw[hp];simp only;rw[hp]at afw;refine h.of (λa ha => ?_) rfl (λx hx=>(afw x hx).mono aB) h.ct;cases a<;>first | exact h.mem ha | cases ha
 | start x=>unfold Am.aJ;rw[hp];exact h.of (h.wr (λ_=>(h.m (.mark _) rfl).inc)) rfl (λx hx=>by cases hx) h.ct
 | fork c=>unfold Am.aJ;rw[hp];exact h.of (h.wr (λ_=>(h.m (.join _) rfl).inc)) rfl (λx hx=>by cases hx) h.ct
 | ta=>unfold Am.aJ;rw[hp];exact h.of (h.wr (λ_=>⟨aB,aB⟩)) rfl (λx hx=>by cases hx) h.ct
 | out p c=>unfold Am.aJ;rw[hp];simp only;split<;>exact h.of (h.wr (λ_=>(h.m (.join _) rfl).dec)) rfl (λx hx=>by cases hx) h.ct
 | take p c=>unfold Am.aJ;rw[hp];exact h.of (h.wr (λ_=>⟨aB,aB⟩)) rfl (λx hx=>by cases hx) h.ct
 | done=>unfold Am.aJ;rw[hp];simp only[pG];split<;>exact h.of (h.wr (λe=>by cases e)) rfl (λx hx=>by cases hx) h.ct
 | tell j =>
  unfold Am.aJ;rw[hp];simp only[pG];split
  ·exact h.of (h.wr (λe=>by cases e)) rfl (λx hx=>by cases hx) h.ct
  ·split<;>exact h.of (λa ha=>h.mem ha) rfl (λx hx=>by cases hx) h.ct
 | xJ j=>unfold Am.aJ;rw[hp];simp only[pG];split<;>exact h.of (h.wr (λ_=>(h.m .tK rfl).dec)) rfl (λx hx=>by cases hx) h.ct
 | Dz c=>unfold Am.aJ;rw[hp];exact h.of (λa ha=>h.mem ha) rfl (λx hx=>by rw[List.mem_singleton.1 hx];exact h.mem (a:=.bot i) rfl) h.ct
 | Ac c b =>
  unfold Am.aJ;rw[hp];rw[hp]at afw;simp only;exact h.of (λa ha=>h.mem ha) rfl (λx hx=>by
   simp only[gP,sN,sO,sP]at hx;rcases hx with rfl | rfl
   ·exact(afw _ (by simp[gP])).mono aB
   ·exact h.mem (a:=.top i) rfl) h.ct
 | tc c b t =>
  unfold Am.aJ;rw[hp];rw[hp]at afw;simp only;exact h.of (λa ha=>h.mem ha) rfl (λx hx=>by
   simp only[gP,sN,sO,sP]at hx;rcases hx with rfl | rfl
   ·exact(afw _ (by simp[gP])).mono aB
   ·exact(afw _ (by simp[gP])).mono aB) h.ct
 | td c b t =>
  unfold Am.aJ;rw[hp];rw[hp]at afw;simp only;split
  ·exact h.of (λa ha=>h.mem ha) rfl (λx hx=>by rw[List.mem_singleton.1 hx];exact(afw _ (by simp[gP])).mono aB) h.ct
  ·split
   ·exact h.of (λa ha=>h.mem ha) rfl (λx hx=>by cases hx) h.ct
   ·exact h.of (λa ha=>h.mem ha) rfl (λx hx=>by
    simp only[gP,sN,sO,sP]at hx;rcases hx with rfl | rfl
    ·exact(afw _ (by simp[gP])).mono aB
    ·exact(afw _ (by simp[gP])).mono aB) h.ct
 | pD c b t cc =>
  unfold Am.aJ;rw[hp];rw[hp]at afw;simp only;exact h.of (h.wr (λe=>by cases e)) rfl (λx hx=>by
   simp only[gP,sN,sO,sP]at hx;rcases hx with rfl | rfl | rfl
   ·exact(afw _ (by simp[gP])).mono aB
   ·exact(afw _ (by simp[gP])).mono aB
   ·exact(afw _ (by simp[gP])).mono aB) h.ct
 | mL c b t cc n =>
  unfold Am.aJ;rw[hp];rw[hp]at afw;simp only;exact h.of (λa ha=>h.mem ha) rfl (λx hx=>by
   simp only[gP,sN,sO,sP]at hx;rcases hx with rfl | rfl | rfl
   ·exact(afw _ (by simp[gP])).mono aB
   ·exact(afw _ (by simp[gP])).mono aB
   ·exact(afw _ (by simp[gP])).mono aB) h.ct
 | mS c b t cc n x =>
  unfold Am.aJ;rw[hp];rw[hp]at afw;simp only;refine h.of (h.wr (λe=>by cases e)) rfl (λy hy => ?_) h.ct;split at hy
  ·simp only[gP,sN,sO,sP]at hy;rcases hy with rfl | rfl | rfl
   ·exact(afw _ (by simp[gP])).mono aB
   ·exact(afw _ (by simp[gP])).mono aB
   ·exact(afw n (by simp[gP])).inc
  ·simp only[gP,sN,sO,sP]at hy;rcases hy with rfl | rfl
   ·exact(afw _ (by simp[gP])).mono aB
   ·exact(afw _ (by simp[gP])).mono aB
 | pE c b t cc =>
  unfold Am.aJ;rw[hp];rw[hp]at afw;simp only;exact h.of (h.wr (λe=>by cases e)) rfl (λx hx=>by rw[List.mem_singleton.1 hx];exact(afw _ (by simp[gP])).mono aB) h.ct
 | mM c b cc =>
  unfold Am.aJ;rw[hp];rw[hp]at afw;simp only;exact h.of (h.wr (λe=>by cases e)) rfl (λx hx=>by rw[List.mem_singleton.1 hx];exact(afw _ (by simp[gP])).mono aB) h.ct
 | rW c b =>
  unfold Am.aJ;rw[hp];rw[hp]at afw;simp only;exact h.of (h.wr (λ_=>(afw b (by simp[gP])).inc)) rfl (λx hx=>by cases hx) h.ct
 | Ig =>
  unfold Am.aJ;rw[hp];rw[hp]at afw;simp only;refine h.of (λa ha=>h.mem ha) rfl (λy hy => ?_) h.ct;split at hy<;>cases hy
 | uj j =>
  unfold Am.aJ;rw[hp];rw[hp]at afw;simp only;split
  ·exact h.of (h.wr (λe=>by cases e)) rfl (λx hx=>by cases hx) h.ct
  ·refine h.of (λa ha=>h.mem ha) rfl (λy hy => ?_) h.ct;split at hy<;>cases hy
 | wc j =>
  unfold Am.aJ;rw[hp];rw[hp]at afw;simp only;exact h.of (h.wr (λ_=>(h.m .tK rfl).dec)) rfl (λx hx=>by cases hx) h.ct
 | GZ =>
  unfold Am.aJ;rw[hp];rw[hp]at afw;simp only;exact h.of (λa ha=>h.mem ha) rfl (λx hx=>by rw[List.mem_singleton.1 hx];exact(h.m (.bot i) rfl).dec) h.ct
 | wX b =>
  unfold Am.aJ;rw[hp];rw[hp]at afw;simp only;exact h.of (λa ha=>h.mem ha) rfl (λx hx=>by rw[List.mem_singleton.1 hx];exact(afw _ (by simp[gP])).mono aB) h.ct
 | rH b =>
  unfold Am.aJ;rw[hp];rw[hp]at afw;simp only;exact h.of (h.wr (λ_=>(afw b (by simp[gP])).mono aB)) rfl (λx hx=>by rw[List.mem_singleton.1 hx];exact(afw _ (by simp[gP])).mono aB) h.ct
 | Ey b =>
  unfold Am.aJ;rw[hp];rw[hp]at afw;simp only;split
  ·exact h.of (λa ha=>h.mem ha) rfl (λx hx=>by
   simp only[gP,sN,sO,sP]at hx;rcases hx with rfl | rfl
   ·exact(afw _ (by simp[gP])).mono aB
   ·exact h.mem (a:=.top i) rfl) h.ct
  ·split
   ·exact h.of (λa ha=>h.mem ha) rfl (λx hx=>by
    simp only[gP,sN,sO,sP]at hx;rcases hx with rfl | rfl
    ·exact(afw _ (by simp[gP])).mono aB
    ·exact h.mem (a:=.top i) rfl) h.ct
   ·exact h.of (λa ha=>h.mem ha) rfl (λx hx=>by rw[List.mem_singleton.1 hx];exact h.mem (a:=.top i) rfl) h.ct
 | qu t =>
  unfold Am.aJ;rw[hp];rw[hp]at afw;simp only;refine h.of (h.wr (λ_=>(afw t (by simp[gP])).mono aB)) rfl (λy hy => ?_) h.ct;split at hy<;>cases hy
 | vG b t =>
  unfold Am.aJ;rw[hp];rw[hp]at afw;simp only;exact h.of (λa ha=>h.mem ha) rfl (λx hx=>by
   simp only[gP,sN,sO,sP]at hx;rcases hx with rfl | rfl
   ·exact(afw _ (by simp[gP])).mono aB
   ·exact(afw _ (by simp[gP])).mono aB) h.ct
 | sE b t cc =>
  unfold Am.aJ;rw[hp];rw[hp]at afw;simp only;split
  ·exact h.of (λa ha=>h.mem ha) rfl (λx hx=>by cases hx) h.ct
  ·exact h.of (λa ha=>h.mem ha) rfl (λx hx=>by
   simp only[gP,sN,sO,sP]at hx;rcases hx with rfl | rfl
   ·exact(afw _ (by simp[gP])).mono aB
   ·exact(afw _ (by simp[gP])).mono aB) h.ct
 | uP b t x =>
  unfold Am.aJ;rw[hp];rw[hp]at afw;simp only;split
  ·exact h.of (h.wr (λ_=>(afw t (by simp[gP])).inc)) rfl (λx hx=>by rw[List.mem_singleton.1 hx];exact(afw _ (by simp[gP])).mono aB) h.ct
  ·exact h.of (λa ha=>h.mem ha) rfl (λx hx=>by rw[List.mem_singleton.1 hx];exact(afw _ (by simp[gP])).mono aB) h.ct
 | tA t x AU =>
  unfold Am.aJ;rw[hp];rw[hp]at afw;simp only;split
  ·exact h.of (h.wr (λ_=>(afw t (by simp[gP])).inc)) rfl (λx hx=>by cases hx) h.ct
  ·refine h.of (h.wr (λ_=>(afw t (by simp[gP])).inc)) rfl (λy hy => ?_) h.ct;split at hy<;>cases hy
 | rm =>
  unfold Am.aJ;rw[hp];rw[hp]at afw;simp only;exact h.of (λa ha=>h.mem ha) rfl (λx hx=>by rw[List.mem_singleton.1 hx];exact h.mem (a:=.top _) rfl) h.ct
 | vH v t =>
  unfold Am.aJ;rw[hp];rw[hp]at afw;simp only;split
  ·exact h.of (λa ha=>h.mem ha) rfl (λx hx=>by cases hx) h.ct
  ·exact h.of (λa ha=>h.mem ha) rfl (λx hx=>by rw[List.mem_singleton.1 hx];exact(afw _ (by simp[gP])).mono aB) h.ct
 | rI v t =>
  unfold Am.aJ;rw[hp];rw[hp]at afw;simp only;exact h.of (λa ha=>h.mem ha) rfl (λx hx=>by rw[List.mem_singleton.1 hx];exact(afw _ (by simp[gP])).mono aB) h.ct
 | qv v t g =>
  unfold Am.aJ;rw[hp];rw[hp]at afw;simp only;exact h.of (λa ha=>h.mem ha) rfl (λx hx=>by rw[List.mem_singleton.1 hx];exact(afw _ (by simp[gP])).mono aB) h.ct
 | og v t g cc =>
  unfold Am.aJ;rw[hp];rw[hp]at afw;simp only;exact h.of (λa ha=>h.mem ha) rfl (λx hx=>by rw[List.mem_singleton.1 hx];exact(afw _ (by simp[gP])).mono aB) h.ct
 | pF v t x =>
  unfold Am.aJ;rw[hp];rw[hp]at afw;simp only;split
  ·exact h.of (h.wr (λ_=>(afw t (by simp[gP])).inc)) rfl (λx hx=>by cases hx) h.ct
  ·exact h.of (λa ha=>h.mem ha) rfl (λx hx=>by cases hx) h.ct
 | Ez =>
  unfold Am.aJ;rw[hp];rw[hp]at afw;simp only;split
  ·exact h.of (λa ha=>h.mem ha) rfl (λx hx=>by cases hx) h.ct
  ·refine h.of (λa ha=>h.mem ha) rfl (λy hy => ?_) h.ct;split at hy<;>cases hy
 | flag =>
  unfold Am.aJ;rw[hp];rw[hp]at afw;simp only;exact h.of (h.wr (λe=>by cases e)) rfl (λx hx=>by cases hx) h.ct
 | sleep =>
  unfold Am.aJ;rw[hp];rw[hp]at afw;simp only;exact h.of (h.wr (λ_=>(h.m .tK rfl).inc)) rfl (λx hx=>by cases hx) h.ct
 | vr =>
  unfold Am.aJ;rw[hp];rw[hp]at afw;simp only[looking];split
  ·exact h.of (λa ha=>h.mem ha) rfl (λx hx=>by cases hx) h.ct
  ·split<;>exact h.of (λa ha=>h.mem ha) rfl (λx hx=>by cases hx) h.ct
 | EX j =>
  unfold Am.aJ;rw[hp];rw[hp]at afw;simp only;exact h.of (λa ha=>h.mem ha) rfl (λx hx=>by rw[List.mem_singleton.1 hx];exact h.mem (a:=.top j) rfl) h.ct
 | DA j t =>
  unfold Am.aJ;rw[hp];rw[hp]at afw;simp only[looking];split
  ·exact h.of (λa ha=>h.mem ha) rfl (λx hx=>by cases hx) h.ct
  ·split<;>exact h.of (λa ha=>h.mem ha) rfl (λx hx=>by cases hx) h.ct
 | back b =>
  unfold Am.aJ;rw[hp];rw[hp]at afw;simp only[DB];split
  ·exact h.of (h.wr (λe=>by cases e)) rfl (λx hx=>by cases hx) h.ct
  ·split
   ·exact h.of (λa ha=>h.mem ha) rfl (λx hx=>by cases hx) h.ct
   ·refine h.of (λa ha=>h.mem ha) rfl (λy hy => ?_) h.ct;split at hy<;>cases hy
 | we b =>
  unfold Am.aJ;rw[hp];rw[hp]at afw;simp only[DB];split
  ·exact h.of (h.wr (λ_=>(h.m .tK rfl).dec)) rfl (λx hx=>by cases hx) h.ct
  ·refine h.of (h.wr (λ_=>(h.m .tK rfl).dec)) rfl (λy hy => ?_) h.ct;split at hy<;>cases hy
end
def EE(C:kT)(s:St):uw->Prop
 | .result | .next | .tK | .Ex=>True
 | .join f | .mark f=>f<C.F
 | .slot f k=>f<C.F/\k<8
 | .flag i | .top i | .bot i | .buf i=>i<C.N
 | .cap i g=>i<C.N/\g<=gen s i
 | .el i g n=>i<C.N/\g<=gen s i/\n<uA C g
def cG(C:kT)(s:St):uw->Int
 | .result=>0
 | .next=>1
 | .join f=>2+10*f
 | .mark f=>3+10*f
 | .slot f k=>4+10*f+k
 | .tK=>2+10*C.F
 | .Ex=>3+10*C.F
 | .flag i=>4+10*C.F+i
 | .top i=>vJ C i
 | .bot i=>vJ C i+1
 | .buf i=>vJ C i+2
 | .cap i g=>s.base i g
 | .el i g n=>s.base i g+1+n
inductive NB | fix (x:Int) | dq (i r:Nat) | gr (i g r:Nat)
def L9(C:kT):uw->NB
 | .result=>.fix 0
 | .next=>.fix 1
 | .join f=>.fix (2+10*f)
 | .mark f=>.fix (3+10*f)
 | .slot f k=>.fix (4+10*f+k)
 | .tK=>.fix (2+10*C.F)
 | .Ex=>.fix (3+10*C.F)
 | .flag i=>.fix (4+10*C.F+i)
 | .top i=>.dq i 0
 | .bot i=>.dq i 1
 | .buf i=>.dq i 2
 | .cap i g=>if g=0 then .dq i 3 else .gr i g 0
 | .el i g n=>if g=0 then .dq i (4+n)else .gr i g (1+n)
section
variable {C:kT}{s:St}
theorem J6{i:Nat}(h:i<C.N):vJ C i+(4+C.first)<=S0 C:=by
 unfold vJ S0;have:(i+1)*(4+C.first)<=C.N*(4+C.first):=ru _ h;rw[EP]at this;omega
theorem Pa(i:Nat):4+10*C.F+C.N<=vJ C i:=by unfold vJ;omega
theorem I1{i j:Nat}(h:i<j):vJ C i+(4+C.first)<=vJ C j:=by
 unfold vJ;have:(i+1)*(4+C.first)<=j*(4+C.first):=ru _ h;rw[EP]at this;omega
def zin(C:kT)(s:St)(z:NB)(x:Int):Prop:=
 match z with
 | .fix y=>x=y/\0<=y/\y<4+10*C.F+C.N
 | .dq i r=>i<C.N/\r<4+C.first/\x=vJ C i+r
 | .gr i g r=>i<C.N/\1<=g/\g<=gen s i/\r<1+uA C g/\x=s.base i g+r
theorem J7(h:SZ C s){a:uw}(ha:EE C s a):zin C s (L9 C a) (cG C s a):=by
 cases a with
 | result=>exact⟨rfl,aB,aB⟩
 | next=>exact⟨rfl,aB,aB⟩
 | tK=>exact⟨rfl,aB,aB⟩
 | Ex=>exact⟨rfl,aB,aB⟩
 | join f=>have:f<C.F:=ha;exact⟨rfl,aB,aB⟩
 | mark f=>have:f<C.F:=ha;exact⟨rfl,aB,aB⟩
 | slot f k=>have:f<C.F/\k<8:=ha;exact⟨rfl,aB,aB⟩
 | flag i=>have:i<C.N:=ha;exact⟨rfl,aB,aB⟩
 | top i=>exact⟨ha,aB,by simp[cG]⟩
 | bot i=>exact⟨ha,aB,by simp[cG]⟩
 | buf i=>exact⟨ha,aB,by simp[cG]⟩
 | cap i g =>
  by_cases e:g=0
  ·subst e;simp only[L9,if_true];exact⟨ha.1,aB,by simp only[cG];rw[h.SX i ha.1];omega⟩
  ·simp only[L9,cF e];exact⟨ha.1,aB,ha.2,aB,by simp[cG]⟩
 | el i g n =>
  by_cases e:g=0
  ·subst e;simp only[L9,if_true];exact⟨ha.1,by have:=ha.2.2;simp only[uA]at this;omega,by simp only[cG];rw[h.SX i ha.1];omega⟩
  ·simp only[L9,cF e];exact⟨ha.1,aB,ha.2.1,by have:=ha.2.2;omega,by simp only[cG];omega⟩
theorem Yw(h:SZ C s){z:NB}{x:Int}(hz:zin C s z x):0<=x/\x<s.size:=by
 have hs:(S0 C:Int)<=s.size:=by rw[h.size];omega
 have h0:4+10*C.F+C.N<=S0 C:=by unfold S0;omega
 cases z with
 | fix y=>obtain⟨rfl,a,b⟩:=hz;omega
 | dq i r=>obtain⟨a,b,rfl⟩:=hz;have:=J6 a;omega
 | gr i g r=>obtain⟨a,b,c,d,rfl⟩:=hz;have:=h.bs i a g b c;omega
theorem Vl(h:SZ C s){z z':NB}{x:Int}(hz:zin C s z x)(PN:zin C s z' x):z=z':=by
 have h0:4+10*C.F+C.N<=S0 C:=by unfold S0;omega
 cases z with
 | fix y =>
  obtain⟨rfl,a,b⟩:=hz;cases z' with
  | fix y'=>obtain⟨rfl,_,_⟩:=PN;rfl
  | dq i r=>obtain⟨a',b',c'⟩:=PN;have:=Pa (C:=C) i;omega
  | gr i g r=>obtain⟨a',b',c',d',e'⟩:=PN;have:=h.bs i a' g b' c';omega
 | dq i r =>
  obtain⟨a,b,c⟩:=hz;have hi:=J6 a;cases z' with
  | fix y'=>obtain⟨rfl,_,_⟩:=PN;have:=Pa (C:=C) i;omega
  | dq i' r' =>
   obtain⟨a',b',c'⟩:=PN;rcases Nat.lt_trichotomy i i' with e | e | e
   ·have:=I1 (C:=C) e;omega
   ·subst e;have:r=r':=by omega
    rw[this]
   ·have:=I1 (C:=C) e;omega
  | gr i' g r'=>obtain⟨a',b',c',d',e'⟩:=PN;have:=h.bs i' a' g b' c';omega
 | gr i g r =>
  obtain⟨a,b,c,d,e⟩:=hz;have hb:=h.bs i a g b c;cases z' with
  | fix y'=>obtain⟨rfl,_,_⟩:=PN;omega
  | dq i' r'=>obtain⟨a',b',c'⟩:=PN;have:=J6 a';omega
  | gr i' g' r' =>
   obtain⟨a',b',c',d',e'⟩:=PN;by_cases hh:i≠i'∨g≠g'
   ·have:=h.dj i i' g g' a a' b b' c c' hh;omega
   ·have e1:i=i':=Decidable.byContradiction λe=>hh (.inl e);have e2:g=g':=Decidable.byContradiction λe=>hh (.inr e);subst e1;subst e2;have:r=r':=by omega
    rw[this]
theorem SY(h:SZ C s){a b:uw}(ha:EE C s a)(hb:EE C s b)(e:L9 C a=L9 C b):a=b:=by
 cases a<;>cases b<;>simp only[L9]at e<;>simp only[EE]at ha hb<;>(try rfl)<;>(repeat' split at e)<;>simp only[NB.fix.injEq,NB.dq.injEq,NB.gr.injEq,reduceCtorEq]at e<;>first
  | omega
  | (exfalso;revert e ha hb;simp;done)
  | (simp only[uw.join.injEq,uw.mark.injEq,uw.slot.injEq,uw.flag.injEq,uw.top.injEq,uw.bot.injEq,uw.buf.injEq,uw.cap.injEq,uw.el.injEq];first | omega | (refine⟨?_,?_⟩<;>omega) | (refine⟨?_,?_,?_⟩<;>omega))
theorem Qq(h:SZ C s){a b:uw}(ha:EE C s a)(hb:EE C s b)(e:cG C s a=cG C s b):a=b:=
 SY h ha hb (Vl h (J7 h ha) (e▸ J7 h hb))
theorem DF(h:SZ C s){a:uw}(ha:EE C s a):0<=cG C s a/\cG C s a<s.size:=Yw h (J7 h ha)
structure CL(C:kT)(s:St)(c:List Int):Prop where
 len:(c.length:Int)=s.size
 get:∀a,EE C s a->c.getD (cG C s a).toNat 0=s.mem a
theorem CL.EF{c:List Int}(h:CL C s c)(hz:SZ C s){a:uw}(ha:EE C s a):0<=cG C s a/\cG C s a<c.length/\(cG C s a).toNat<c.length:=by
 have:=DF hz ha;have:=h.len;omega
theorem CL.of{s':St}{c:List Int}(h:CL C s c)(h1:s'.mem=s.mem)(h2:s'.size=s.size)(h3:s'.base=s.base)(h4:gen s'=gen s):CL C s' c:=by
 have e1:∀a,EE C s' a=EE C s a:=λa=>by cases a<;>simp only[EE,h4]
 have e2:∀a,cG C s' a=cG C s a:=λa=>by cases a<;>simp only[cG,h3]
 exact⟨by rw[h2];exact h.len,λa ha=>by rw[e2,h1];exact h.get a (e1 a▸ ha)⟩
theorem CL.set{s':St}{c:List Int}{b:uw}{v:Int}(h:CL C s c)(hz:SZ C s)(hb:EE C s b)(h1:s'.mem=dW s.mem b v)(h2:s'.size=s.size)(h3:s'.base=s.base)(h4:gen s'=gen s):CL C s' (c.set (cG C s b).toNat v):=by
 have e1:∀a,EE C s' a=EE C s a:=λa=>by cases a<;>simp only[EE,h4]
 have e2:∀a,cG C s' a=cG C s a:=λa=>by cases a<;>simp only[cG,h3]
 refine⟨by rw[h2,hU];exact h.len,λa ha => ?_⟩;rw[e1]at ha;rw[e2,h1,fC,List.getD_eq_getElem?_getD,List.getElem?_set];have la:=h.EF hz ha;have lb:=h.EF hz hb;by_cases e:a=b
 ·subst e;rw[aW rfl,aW la.2.2,aW rfl];rfl
 ·have hne:(cG C s b).toNat≠(cG C s a).toNat:=λe'=>e (Qq hz ha hb aB);rw[cF hne,cF e,<-List.getD_eq_getElem?_getD];exact h.get a ha
theorem CL.grow{s':St}{c:List Int}{i:Nat}(h:CL C s c)(hz:SZ C s)(hi:i<C.N)(hg:gen s i=s.cur i)
 (h1:∀a,s'.mem a=match a with | .cap i' g'=>if i'=i/\g'=s.cur i+1 then 0 else s.mem a | .el i' g' _=>if i'=i/\g'=s.cur i+1 then 0 else s.mem a | _=>s.mem a)
 (h2:s'.size=s.size+1+uA C (s.cur i+1)) (h3:s'.base=dW s.base i (dW (s.base i) (s.cur i+1) s.size)) (h4:gen s'=dW (gen s) i (s.cur i+1)):CL C s' (c++List.replicate (1+uA C (s.cur i+1)) 0):=by
 have hl:=h.len;have hnew:∀k,c.length<=k->(c++List.replicate (1+uA C (s.cur i+1)) (0:Int)).getD k 0=0:=λk hk=>by
  rw[List.getD_eq_getElem?_getD,List.getElem?_append_right hk,List.getElem?_replicate];split<;>rfl
 have hold:∀k,k<c.length->(c++List.replicate (1+uA C (s.cur i+1)) (0:Int)).getD k 0=c.getD k 0:=λk hk=>by
  rw[List.getD_eq_getElem?_getD,List.getElem?_append_left hk,<-List.getD_eq_getElem?_getD]
 refine⟨by rw[h2,jP,lY];omega,λa ha => ?_⟩;have key:∀a,EE C s a->cG C s' a=cG C s a->s'.mem a=s.mem a->(c++List.replicate (1+uA C (s.cur i+1)) (0:Int)).getD (cG C s' a).toNat 0=s'.mem a:=λa hv hp hm=>by
  rw[hp,hm,hold _ (h.EF hz hv).2.2];exact h.get a hv
 cases a with
 | cap j g =>
  have ha1:=ha.1;have Yx:=ha.2;rw[h4,fC]at Yx;by_cases e:j=i/\g=s.cur i+1
  ·obtain⟨rfl,rfl⟩:=e;rw[h1];simp only[and_self,if_true,cG];rw[h3,bK,bK];exact hnew _ aB
  ·refine key _ ⟨ha1,?_⟩ ?_ (by rw[h1];exact cF e)
   ·split at Yx
    ·next e'=>subst e';rw[hg];have:g≠s.cur j+1:=λx=>e ⟨rfl,x⟩;omega
    ·exact Yx
   ·simp only[cG];rw[h3,fC];split
    ·next e'=>subst e';rw[bA (λx=>e ⟨rfl,x⟩)]
    ·rfl
 | el j g n =>
  have ha1:=ha.1;have Yx:=ha.2.1;rw[h4,fC]at Yx;by_cases e:j=i/\g=s.cur i+1
  ·obtain⟨rfl,rfl⟩:=e;rw[h1];simp only[and_self,if_true,cG];rw[h3,bK,bK];exact hnew _ aB
  ·refine key _ ⟨ha1,?_,ha.2.2⟩ ?_ (by rw[h1];exact cF e)
   ·split at Yx
    ·next e'=>subst e';rw[hg];have:g≠s.cur j+1:=λx=>e ⟨rfl,x⟩;omega
    ·exact Yx
   ·simp only[cG];rw[h3,fC];split
    ·next e'=>subst e';rw[bA (λx=>e ⟨rfl,x⟩)]
    ·rfl
 | _=>exact key _ ha rfl (by rw[h1])
end
end Am
end
section
namespace Mo
open Go SL GX
def vV(i:cx):Am.ZI:=
 if i.aL=0 then .const i.A.toNat i.K else if i.aL=1 then .move i.A.toNat i.B.toNat else if i.aL=2 then .arith i.K i.A.toNat i.B.toNat i.C.toNat
 else if i.aL=3 then .jump i.A.toNat else if i.aL=4 then .branch i.A.toNat i.B.toNat else if i.aL=5 then .spawn i.A.toNat i.B.toNat i.C.toNat
 else if i.aL=6 then .sync else if i.aL=7 then .load i.A.toNat i.B.toNat else if i.aL=8 then .nD i.A.toNat else .ret i.A.toNat
def apv(op x y:Int):Int:=match tF op x y with
 | some r=>r.1
 | none=>0
theorem S1{op:Int}(h0:0<=op)(h1:op<16)(x y:Int):tF op x y=some (apv op x y,0):=by
 have d :∃a b,uK x y=some (a,b):=by
  unfold uK;by_cases h:y=0
  ·rw[aW h];exact⟨_,_,rfl⟩
  ·rw[cF h];split
   ·exact⟨_,_,rfl⟩
   ·exact⟨_,_,rfl⟩
 obtain⟨a,b,d⟩:=d;have e :∃v,Bm op x y=some v:=by
  have it:∀{c:Prop} [Decidable c] {x y:Option Int},(∃v,x=some v)->(∃v,y=some v)->∃v,(if c then x else y)=some v:=λhx hy=>by
   split
   ·exact hx
   ·exact hy
  have tr:∀b:Bool,∃v,uL b=some v:=λb=>by cases b<;>exact⟨_,rfl⟩
  have ob:∀{x:Option Int},(∃v,x=some v)->∃v,eY x (λr=>some r)=some v:=λ⟨v,h⟩=>⟨v,by rw[h];rfl⟩;unfold Bm;rw[d];exact it ⟨_,rfl⟩ (it ⟨_,rfl⟩ (it ⟨_,rfl⟩ (it ⟨_,rfl⟩ (it ⟨_,rfl⟩ (it ⟨_,rfl⟩ (it ⟨_,rfl⟩ (it ⟨_,rfl⟩ (it ⟨_,rfl⟩ (it ⟨_,rfl⟩ (it ⟨_,rfl⟩ (it ⟨_,rfl⟩ (it (ob (tr _)) (it (ob (tr _)) (it (ob (tr _)) (ob (tr _))))))))))))))))
 obtain⟨v,e⟩:=e;have:tF op x y=some (v,0):=by
  unfold tF Ds;rw[aW h0,ay,aW (tR h1),e,ay]
 unfold apv;rw[this]
def cfg(p:aM)(N F f m:Nat):Am.kT:=
 { N:=N,F:=F,first:=f,most:=m,WX:=p.ak.length,len:=λg=>(J p.ak g).aq.length,params:=λg=>(J p.ak g).aV.toNat,da:=λg=>(J p.ak g).dg.toNat,
   code:=λg a=>vV (J (J p.ak g).aq a),ap:=apv,pd:=λx k=>wi (wi (wi (x*1000003)+(k:Int))+1)}
theorem CM{x n:Int}(h:uT x n=true):0<=x/\x<n:=v5.1 h
theorem Yy{p:aM}{g:aD}(h:Code p g)(hs:Km g){a:Nat}(ha:a<g.aq.length)(h3:¬(J g.aq a).aL=3)(h9:¬(J g.aq a).aL=9):a+1<g.aq.length:=by
 have en:=h.fin;unfold Nk at en;simp only[yw,AE]at en;by_cases e:a=g.aq.length-1
 ·rw[<-e]at en;rcases en with en | en
  ·exact absurd en h3
  ·exact absurd en h9
 ·omega
theorem S2{p:aM}{N F f m:Nat}(hv:Valid p)(MC:1<=N)(hn:N<=64)(hf1:1<=F)(hf:F<=4096)(h1:1<=f)(W0:f<=m)(hm:m<=4096):(cfg p N F f m).OK where
 n1:=MC
 n64:=hn
 f1:=hf1
 f4:=hf
 c1:=h1
 cm:=W0
 m4:=hm
 fn0:=hv.n1
 Yv:=λg hg=>by have:=(hv.MG g hg).c1;exact this
 J4:=λg hg=>by
  have a1:=(hv.MG g hg).rp;have a2:=(hv.MG g hg).r16;have a3:=(hv.MG g hg).O;exact⟨by show(J p.ak g).aV.toNat<=(J p.ak g).dg.toNat;omega,by show(J p.ak g).dg.toNat<=16;omega⟩
 ins:=λg hg a ha=>by
  change g<p.ak.length at hg;change a<(J p.ak g).aq.length at ha;have hs:=hv.MG g hg;have hc:=hv.code g hg;have hi:=(hc.ins a ha).1;have Ul:=(hc.ins a ha).2;have hl:=Yy hc hs ha;have s8:=hs.s8;unfold q9 at hi;unfold xF at Ul;unfold Am.SW;show match vV (J (J p.ak g).aq a)with
   | .const x _=>x<(J p.ak g).dg.toNat/\a+1<(J p.ak g).aq.length
   | .nD x=>x<(J p.ak g).dg.toNat/\a+1<(J p.ak g).aq.length
   | .move x y=>x<(J p.ak g).dg.toNat/\y<(J p.ak g).dg.toNat/\a+1<(J p.ak g).aq.length
   | .arith op x y z=>x<(J p.ak g).dg.toNat/\y<(J p.ak g).dg.toNat/\z<(J p.ak g).dg.toNat/\a+1<(J p.ak g).aq.length
   | .jump t=>t<(J p.ak g).aq.length
   | .branch x t=>x<(J p.ak g).dg.toNat/\t<(J p.ak g).aq.length/\a+1<(J p.ak g).aq.length
   | .spawn s f c=>s<8/\f<p.ak.length/\((J p.ak f).aV.toNat=0∨c+(J p.ak f).aV.toNat<=(J p.ak g).dg.toNat)/\a+1<(J p.ak g).aq.length
   | .sync=>a+1<(J p.ak g).aq.length
   | .load x s=>x<(J p.ak g).dg.toNat/\s<8/\a+1<(J p.ak g).aq.length
   | .ret x=>x<(J p.ak g).dg.toNat
  have hk:=(Code.snd hs hc).kind (a:Int) aB aB;rw[dc]at hk;generalize J (J p.ak g).aq a=c at *;have hk:c.aL=0∨c.aL=1∨c.aL=2∨c.aL=3∨c.aL=4∨c.aL=5∨c.aL=6∨c.aL=7∨c.aL=8∨c.aL=9:=by omega
  unfold vV;rcases hk with k | k | k | k | k | k | k | k | k | k<;>simp[k,uT]at hi Ul hl⊢
  ·omega
  ·omega
  ·omega
  ·omega
  ·omega
  ·have:=(hv.MG c.B.toNat aB).O;omega
  ·omega
  ·omega
  ·omega
  ·omega
def nt(M:af)(c:List Int)(k a x y:Int)(ok:Bool):af:={M with cell:=c,log:=if M.watched=true then M.log++[⟨M.sF,k,a,x,y,ok⟩]else M.log}
structure AR(C:Am.kT)(s:Am.St)(M:af)(sz n:Nat):Prop where
 size:M.mB=sz
 s1:sz<=1048576
 fit:s.size<=sz
 mark:M.fl=(M.cell.length:Int)
 cl:Am.CL C s M.cell
 lg:M.log.length<=n
section
variable {C:Am.kT}{s:Am.St}{M:af}{sz n:Nat}
theorem yT(h:M.log.length<=2000000000)(c:List Int)(k a x y:Int)(ok:Bool):gb {M with cell:=c} k a x y ok=some (nt M c k a x y ok):=by
 unfold gb nt;by_cases e:M.watched=true
 ·rw[aW e,aW e,aW (by show(M.log.length+1)*48<=_;omega)]
 ·rw[cF e,cF e]
theorem AR.Vm(h:AR C s M sz n)(hz:Am.SZ C s){a:Am.uw}(ha:Am.EE C s a):bI (Am.cG C s a) M.cell.length/\Am.cG C s a<1048576/\J M.cell (Am.cG C s a).toNat=s.mem a:=by
 have l:=h.cl.EF hz ha;have p:=Am.DF hz ha;have f:=h.fit;have s1:=h.s1;exact⟨⟨l.1,l.2.1⟩,aB,h.cl.get a ha⟩
theorem AR.out(h:AR C s M sz n)(hz:Am.SZ C s){a:Am.uw}(ha:Am.EE C s a):ic M (Am.cG C s a)=some false:=by
 have l:=h.cl.EF hz ha;unfold ic ql;rw[h.mark,oU,tR aB,ay];rfl
theorem yg(h:AR C s M sz n)(hz:Am.SZ C s)(hn:n<=2000000000){a:Am.uw}(ha:Am.EE C s a):gI M (Am.cG C s a)=some (s.mem a,0,nt M M.cell 0 (Am.cG C s a) (s.mem a) 0 true):=by
 obtain⟨i1,_,i3⟩:=h.Vm hz ha;have lg:=h.lg;unfold gI;rw[h.out hz ha,ay,cF eL,aW i1,i3];have:=yT (M:=M) aB M.cell 0 (Am.cG C s a) (s.mem a) 0 true;rw[show gb M 0 (Am.cG C s a) (s.mem a) 0 true=_ from this,ay]
theorem uZ(h:AR C s M sz n)(hz:Am.SZ C s)(hn:n<=2000000000){a:Am.uw}(ha:Am.EE C s a)(v:Int):dY M (Am.cG C s a) v=some (0,nt M (M.cell.set (Am.cG C s a).toNat v) 1 (Am.cG C s a) v 0 true):=by
 obtain⟨i1,_,i3⟩:=h.Vm hz ha;have lg:=h.lg;unfold dY;rw[h.out hz ha,ay,cF eL,aW i1,yT aB,ay]
theorem I2(h:AR C s M sz n)(hz:Am.SZ C s)(hn:n<=2000000000){a:Am.uw}(ha:Am.EE C s a){d v:Int}(hv:wi (s.mem a+d)=v):iM M (Am.cG C s a) d=some (v,0,nt M (M.cell.set (Am.cG C s a).toNat v) 3 (Am.cG C s a) d v true):=by
 obtain⟨i1,_,i3⟩:=h.Vm hz ha;have lg:=h.lg;have l:=h.cl.EF hz ha;unfold iM;rw[h.out hz ha,ay,cF eL,aW i1,i3,hv,aW (by rw[hU];exact i1),yT aB,ay];have hin:bI (Am.cG C s a) (nt M (M.cell.set (Am.cG C s a).toNat v) 3 (Am.cG C s a) d v true).cell.length:=by
  show bI _ (M.cell.set _ v).length;rw[hU];exact i1
 rw[aW hin];have:J (nt M (M.cell.set (Am.cG C s a).toNat v) 3 (Am.cG C s a) d v true).cell (Am.cG C s a).toNat=v:=by
  show J (M.cell.set _ v) _=v;rw[pU aB,aW rfl]
 rw[this]
theorem S4(h:AR C s M sz n)(hz:Am.SZ C s)(hn:n<=2000000000){a:Am.uw}(ha:Am.EE C s a)(o v:Int):nG M (Am.cG C s a) o v=some (s.mem a==o,0,nt M (if s.mem a=o then M.cell.set (Am.cG C s a).toNat v else M.cell) 2 (Am.cG C s a) o v (s.mem a==o)):=by
 obtain⟨i1,_,i3⟩:=h.Vm hz ha;have lg:=h.lg;unfold nG;rw[h.out hz ha,ay,cF eL,aW i1,i3];by_cases e:s.mem a=o
 ·rw[aW e,aW e,yT aB,ay]
 ·rw[cF e,cF e];have:=yT (M:=M) aB M.cell 2 (Am.cG C s a) o v (s.mem a==o);rw[show gb M 2 (Am.cG C s a) o v (s.mem a==o)=_ from this,ay]
theorem abf(h:AR C s M sz n)(hn:n<=2000000000){k:Nat}(hk:1<=k)(hf:M.cell.length+k<=sz):fO M (k:Int)=some (s.size,0,{nt M (M.cell++List.replicate k 0) 4 s.size k 0 true with fl:=s.size+k}):=by
 have lg:=h.lg;have s1:=h.s1;have hl:=h.cl.len;unfold fO my pn;rw[jm,eG,h.mark,h.size,eF (x:=(sz:Int)-(M.cell.length:Int)) aB,eG,ay,aW rfl,fh,aW ⟨aB,by show(M.cell.length+(k:Int).toNat)*8<=_;omega⟩,dc];have:=yT (M:={M with fl:=wi (((M.cell.length:Nat):Int)+k)}) (by show M.log.length<=_;omega) (M.cell++List.replicate k 0) 4 (M.cell.length:Int) k 0 true;have e:gb ({({M with fl:=wi (((M.cell.length:Nat):Int)+k)}:af)with cell:=M.cell++List.replicate k 0}) 4 ((M.cell.length:Nat):Int) (k:Int) 0 true=_:=this;obtain⟨z1,z2,z3,z4,z5,z6⟩:=M;simp only at e h hf hl lg s1⊢;have hs:=h.size;have hm:=h.mark;simp only at hs hm;subst hs;subst hm;rw[e,ay,eF aB,hl];rfl
theorem AR.same{s':Am.St}(h:AR C s M sz n)(h1:s'.mem=s.mem)(h2:s'.size=s.size)(h3:s'.base=s.base)(h4:Am.gen s'=Am.gen s)(k a x y:Int)(ok:Bool):AR C s' (nt M M.cell k a x y ok) sz (n+1):=
 ⟨h.size,h.s1,by rw[h2];exact h.fit,h.mark,h.cl.of h1 h2 h3 h4,by
  have:=h.lg;show(if M.watched=true then M.log++[_]else M.log).length<=_;split
  ·rw[jP];simp;omega
  ·omega⟩
theorem AR.keep{s':Am.St}(h:AR C s M sz n)(h1:s'.mem=s.mem)(h2:s'.size=s.size)(h3:s'.base=s.base)(h4:Am.gen s'=Am.gen s):AR C s' M sz (n+1):=
 ⟨h.size,h.s1,by rw[h2];exact h.fit,h.mark,h.cl.of h1 h2 h3 h4,Kv h.lg⟩
theorem AR.set{s':Am.St}{b:Am.uw}{v:Int}(h:AR C s M sz n)(hz:Am.SZ C s)(hb:Am.EE C s b)(h1:s'.mem=Am.dW s.mem b v)(h2:s'.size=s.size)(h3:s'.base=s.base)(h4:Am.gen s'=Am.gen s)(k a x y:Int)(ok:Bool) :
 AR C s' (nt M (M.cell.set (Am.cG C s b).toNat v) k a x y ok) sz (n+1):=
 ⟨h.size,h.s1,by rw[h2];exact h.fit,by show M.fl=((M.cell.set _ _).length:Nat);rw[hU];exact h.mark,h.cl.set hz hb h1 h2 h3 h4,by
  have:=h.lg;show(if M.watched=true then M.log++[_]else M.log).length<=_;split
  ·rw[jP];simp;omega
  ·omega⟩
end
def DO(C:Am.kT)(v:Nat)(k st:Int)(o:bV):Prop:=o.kind=k/\o.J=st/\o.nE=Am.vJ C v/\o.nS=C.most
def TO(C:Am.kT)(k st:Int)(f:Nat)(o:cy):Prop:=o.eA=1/\o.dZ=C.F/\o.gu=f/\o.aA=st/\o.kind=k
def LO(C:Am.kT)(i:Nat)(k st kk:Int)(o:bY):Prop:=o.bQ=2+10*(C.F:Int)/\o.bZ=C.N/\o.gw=i/\o.dw=k/\o.az=st/\o.dm=kk
def Ma(C:Am.kT)(v:Nat):cz:=⟨Am.vJ C v,C.most⟩
def RO(C:Am.kT)(i:Nat)(st kk:Int)(a:bD):Prop:=a.aG=12/\LO C i 1 st kk a.cL/\∀v,v<C.N->J a.cL.dD v=Ma C v
def ring(C:Am.kT)(i j:Nat)(k:Nat):Prop:=1<=k/\k<C.N/\(i+k)%C.N=j
def ph(C:Am.kT)(i:Nat)(p:Am.Pc)(tr:Nat)(cj:Nat)(bs:Nat->Nat->Int)(a:bD):Prop:=
 match p with
 | .halted=>a.aG=13
 | .full=>a.aG=14
 | .start x=>a.aG=0/\a.from_=x
 | .run=>a.aG=1
 | .fork c=>a.aG=2/\a.cw=c
 | .ta=>a.aG=5/\TO C 3 2 a.ax.toNat a.dM
 | .out p c=>a.aG=6/\a.done=c/\TO C 2 2 p a.dM
 | .take p c=>a.aG=6/\a.done=c/\TO C 2 3 p a.dM
 | .done=>a.aG=7/\LO C i 4 10 1 a.cL
 | .tell j=>a.aG=7/\∃k:Nat,LO C i 4 9 k a.cL/\ring C i j k
 | .xJ j=>a.aG=7/\∃k:Nat,LO C i 4 7 k a.cL/\ring C i j k
 | .Dz c=>a.aG=3/\a.cw=c/\DO C i 1 1 a.bl/\a.bl.v=c
 | .Ac c b=>a.aG=3/\a.cw=c/\DO C i 1 2 a.bl/\a.bl.v=c/\a.bl.b=b
 | .tc c b t=>a.aG=3/\a.cw=c/\DO C i 1 3 a.bl/\a.bl.v=c/\a.bl.b=b/\a.bl.t=t
 | .td c b t=>a.aG=3/\a.cw=c/\DO C i 1 4 a.bl/\a.bl.v=c/\a.bl.b=b/\a.bl.t=t/\a.bl.a=bs i cj
 | .grow c b t cc=>a.aG=3/\a.cw=c/\DO C i 1 5 a.bl/\a.bl.v=c/\a.bl.b=b/\a.bl.t=t/\a.bl.a=bs i cj/\a.bl.c=cc/\a.bl.c2=Am.jr C cc
 | .pD c b t cc=>a.aG=3/\a.cw=c/\DO C i 1 6 a.bl/\a.bl.v=c/\a.bl.b=b/\a.bl.t=t/\a.bl.a=bs i cj/\a.bl.c=cc/\a.bl.c2=Am.jr C cc/\a.bl.a2=bs i (cj+1)
 | .mL c b t cc n=>a.aG=3/\a.cw=c/\DO C i 1 7 a.bl/\a.bl.v=c/\a.bl.b=b/\a.bl.t=t/\a.bl.a=bs i cj/\a.bl.c=cc/\a.bl.c2=Am.jr C cc/\a.bl.a2=bs i (cj+1)/\a.bl.i=n
 | .mS c b t cc n x=>a.aG=3/\a.cw=c/\DO C i 1 8 a.bl/\a.bl.v=c/\a.bl.b=b/\a.bl.t=t/\a.bl.a=bs i cj/\a.bl.c=cc/\a.bl.c2=Am.jr C cc/\a.bl.a2=bs i (cj+1)/\a.bl.i=n/\a.bl.x=x
 | .pE c b t cc=>a.aG=3/\a.cw=c/\DO C i 1 9 a.bl/\a.bl.v=c/\a.bl.b=b/\a.bl.c2=Am.jr C cc/\a.bl.a2=bs i (cj+1)
 | .mM c b cc=>a.aG=3/\a.cw=c/\DO C i 1 10 a.bl/\a.bl.v=c/\a.bl.b=b/\a.bl.a=bs i cj/\a.bl.c=cc
 | .rW c b=>a.aG=3/\a.cw=c/\DO C i 1 11 a.bl/\a.bl.b=b
 | .Ig=>a.aG=4/\LO C i 2 8 1 a.cL
 | .uj j=>a.aG=4/\∃k:Nat,LO C i 2 9 k a.cL/\ring C i j k
 | .wc j=>a.aG=4/\∃k:Nat,LO C i 2 7 k a.cL/\ring C i j k
 | .GZ=>a.aG=8/\DO C i 2 1 a.bl/\a.bl.i=0/\a.bl.AU=false
 | .wX b=>a.aG=8/\DO C i 2 3 a.bl/\a.bl.i=0/\a.bl.AU=false/\a.bl.b=b
 | .rH b=>a.aG=8/\DO C i 2 11 a.bl/\a.bl.i=0/\a.bl.AU=false/\a.bl.b=b/\a.bl.a=bs i cj
 | .Ey b=>a.aG=8/\DO C i 2 2 a.bl/\a.bl.b=b/\a.bl.a=bs i cj/\a.bl.AU=false
 | .qu t=>a.aG=8/\DO C i 2 11 a.bl/\a.bl.i=1/\a.bl.t=t/\a.bl.b<t/\a.bl.AU=false
 | .vG b t=>a.aG=8/\DO C i 2 4 a.bl/\a.bl.i=1/\a.bl.b=b/\a.bl.t=t/\a.bl.a=bs i cj
 | .sE b t cc=>a.aG=8/\DO C i 2 12 a.bl/\a.bl.i=1/\a.bl.b=b/\a.bl.t=t/\a.bl.a=bs i cj/\a.bl.c=cc
 | .uP b t x=>a.aG=8/\DO C i 2 13 a.bl/\a.bl.i=1/\a.bl.b=b/\a.bl.t=t/\a.bl.x=x
 | .tA t x AU=>a.aG=8/\DO C i 2 11 a.bl/\a.bl.i=1/\a.bl.t=t/\t<=a.bl.b/\a.bl.x=x/\a.bl.AU=AU
 | .rm=>a.aG=9/\a.fZ=tr/\tr<3
 | .vH v t=>a.aG=10/\(a.fZ=tr/\tr<3)/\a.fF=v/\DO C v 3 1 a.bl/\a.bl.t=t
 | .rI v t=>a.aG=10/\(a.fZ=tr/\tr<3)/\a.fF=v/\DO C v 3 3 a.bl/\a.bl.t=t
 | .qv v t g=>a.aG=10/\(a.fZ=tr/\tr<3)/\a.fF=v/\DO C v 3 4 a.bl/\a.bl.t=t/\a.bl.a=bs v g
 | .og v t g cc=>a.aG=10/\(a.fZ=tr/\tr<3)/\a.fF=v/\DO C v 3 12 a.bl/\a.bl.t=t/\a.bl.a=bs v g/\a.bl.c=cc
 | .pF v t x=>a.aG=10/\(a.fZ=tr/\tr<3)/\a.fF=v/\DO C v 3 13 a.bl/\a.bl.t=t/\a.bl.x=x
 | .Ez=>a.aG=11/\a.fZ=tr/\a.cL.dw=3/\a.cL.az=3/\a.cL.bQ=2+10*(C.F:Int)/\a.cL.bZ=C.N
 | .flag=>(a.aG=9/\C.N=1)∨(RO C i 1 0 a/\a.parked=false)
 | .sleep=>RO C i 2 0 a/\a.parked=false
 | .vr=>RO C i 3 0 a/\a.parked=false
 | .EX j=>a.parked=false/\∃k:Nat,RO C i 4 k a/\ring C i j k/\DO C j 4 2 a.cL.look
 | .DA j t=>a.parked=false/\∃k:Nat,RO C i 4 k a/\ring C i j k/\DO C j 4 1 a.cL.look/\a.cL.look.t=t
 | .parked=>a.parked=true/\∃k:Int,RO C i 5 k a
 | .back h=>a.parked=false/\∃k:Int,RO C i 6 k a/\a.cL.jG=if h then 17 else 16
 | .we h=>a.parked=false/\∃k:Int,RO C i 7 k a/\a.cL.jG=if h then 17 else 16
def fi(h:Option Nat):Int:=match h with
 | some f=>(f:Int)
 | none=>-1
structure aOK(C:Am.kT)(s:Am.St)(i:Nat)(a:bD):Prop where
 self:a.bp=i
 ax:a.ax=fi (s.hold i)
 ph:ph C i (s.pc i) (s.fZ i) (s.cur i) s.base a
structure Qr(x:Am.Fr)(f:Nat)(t:aU):Prop where
 fn:t.fn=x.fn
 J:t.J=x.J
 par:t.parent=if f=0 then -1 else(x.par:Int)
 slot:t.slot=x.slot
 ct:t.ct=x.ct
 nD:t.nD=x.nD
 da:∀r,r<16->GX.J t.da r=x.da r
structure S5(C:Am.kT)(p:aM)(s:Am.St)(S:ag):Prop where
 code:S.code=p.ak
 res:S.result=0
 tb:S.dH=1
 tf:S.cQ=C.F
 lb:S.fq=2+10*(C.F:Int)
 lw:S.cO=C.N
 dl:S.dD.length=C.N
 dq:∀v,v<C.N->GX.J S.dD v=Ma C v
 tl:S.aH.length=C.F
 tk:∀f,f<s.nf->Qr (s.fr f) f (GX.J S.aH f)
 wl:S.ah.length=C.N
 wk:∀i,i<C.N->aOK C s i (GX.J S.ah i)
 left:S.left=s.val.isSome
 val:S.value=s.val.getD 0
section
variable {C:Am.kT}{s:Am.St}{p:aM}{S:ag}{i:Nat}
theorem ph.keep{j:Nat}{bs bs':Nat->Nat->Int}{pc:Am.Pc}{tr cj:Nat}{a:bD}(h:ph C j pc tr cj bs a)(h1:∀g,g<=cj+1->bs' j g=bs j g)(h2:∀v t g,pc= .qv v t g->bs' v g=bs v g)(h3:∀v t g cc,pc= .og v t g cc->bs' v g=bs v g):ph C j pc tr cj bs' a:=by
 unfold ph at h⊢;have e0:=h1 cj aB;have e1:=h1 (cj+1) aB;cases pc<;>first
  | exact h
  | (simp only[e0,e1]at h⊢;exact h)
  | (simp only[h2 _ _ _ rfl]at h⊢;exact h)
  | (simp only[h3 _ _ _ _ rfl]at h⊢;exact h)
end
section
variable {K:Nat}{M M':af}{o:bV}{v x:Int}
theorem dnz(h:o.kind≠0):¬o=(⟨0,0,0,0,0,0,0,0,0,0,0,0,0,false,0,0⟩:bV):=λe=>h (by rw[e])
theorem pH{k a:Int}(hk:o.kind=k)(ha:o.J=a)(XW:k≠0)(ha0:a≠0)(hx:bu o M=some (v,0,M')){o':bV}
 (hn:(if k=1 then eZ o v else if k=2 then fb o v else if k=3 then fQ o v else lP o v)=some o'):fz M o=some (o',M'):=by
 unfold fz bJ;rw[cF (dnz (by rw[hk];exact XW)),cF (by rw[ha];exact ha0),eT,hx,dz,aW rfl,hk];split at hn
 ·rename_i h;rw[aW h,hn,ay]
 ·rename_i h;rw[cF h];split at hn
  ·rename_i h;rw[aW h,hn,ay]
  ·rename_i h;rw[cF h];split at hn
   ·rename_i h;rw[aW h,hn,ay]
   ·rename_i h;rw[cF h,hn,ay]
theorem Mb(hk:o.kind≠0)(ha:o.J≠0):nY o=some (0,0):=by
 unfold nY bJ;rw[cF (dnz hk),cF ha]
theorem NC(hk:o.kind≠0)(ha:o.J=0):nY o=some (o.code,o.value):=by
 unfold nY bJ;rw[cF (dnz hk),aW ha]
theorem Ta{a c n:Int}(ha0:0<=a)(ha:a<=1048576)(hc:1<=c)(Q5:c<=4096)(hn:-1000000000000<=n/\n<=1000000000000):pq a c n=some (a+1+(Am.ix n c:Int)):=by
 have e1:=ER n (b:=c) aB;have e2:=ES n (show 0<c by omega);have e3:(Am.ix n c:Int)=n%c:=by unfold Am.ix;omega
 have e4:n.tmod c=if 0<=n∨c∣n then n%c else n%c-c:=by
  rw[Int.tmod_eq_emod];split
  ·omega
  ·rw[show((c.natAbs:Nat):Int)=c by omega]
 unfold pq;rw[oU,e3];by_cases h:0<=n∨c∣n
 ·rw[e4,aW h,eG,eF (x:=a+1) aB,eF aB]
 ·rw[e4,cF h,oU,eF (x:=a+1) aB,eF (x:=n%c-c+c) aB,eF aB];congr 1;omega
end
section
variable {C:Am.kT}{s:Am.St}{M:af}{sz n:Nat}{o:bV}{i:Nat}
theorem AR.cast(h:AR C s M sz n)(hz:Am.SZ C s){a:Am.uw}(ha:Am.EE C s a){x:Int}(hx:x=Am.cG C s a):wi x=Am.cG C s a:=by
 have p:=Am.DF hz ha;have f:=h.fit;have s1:=h.s1;rw[hx,eF aB]
theorem Bs(s:Am.St)(i:Nat):s.cur i<=Am.gen s i:=by unfold Am.gen;omega
theorem FU(h:AR C s M sz n)(hz:Am.SZ C s)(hn:n<=2000000000)(hi:i<C.N)(ha:o.J=1)(hb:o.nE=Am.vJ C i):bu o M=some (s.mem (.bot i),0,nt M M.cell 0 (Am.cG C s (.bot i)) (s.mem (.bot i)) 0 true):=by
 unfold bu;rw[aW ha,h.cast hz (a:=.bot i) hi (by rw[hb];rfl),yg h hz hn (a:=.bot i) hi,dz]
theorem FV(h:AR C s M sz n)(hz:Am.SZ C s)(hn:n<=2000000000)(hi:i<C.N)(ha:o.J=2)(hb:o.nE=Am.vJ C i):bu o M=some (s.mem (.top i),0,nt M M.cell 0 (Am.cG C s (.top i)) (s.mem (.top i)) 0 true):=by
 unfold bu;rw[dN ha,aW ha,h.cast hz (a:=.top i) hi (by rw[hb,Int.add_zero];rfl),yg h hz hn (a:=.top i) hi,dz]
theorem J8(h:AR C s M sz n)(hz:Am.SZ C s)(hn:n<=2000000000)(hi:i<C.N)(ha:o.J=3)(hb:o.nE=Am.vJ C i):bu o M=some (s.mem (.buf i),0,nt M M.cell 0 (Am.cG C s (.buf i)) (s.mem (.buf i)) 0 true):=by
 unfold bu;rw[dN ha,dN ha,aW ha,h.cast hz (a:=.buf i) hi (by rw[hb];rfl),yg h hz hn (a:=.buf i) hi,dz]
theorem J9{g:Nat}(h:AR C s M sz n)(hz:Am.SZ C s)(hn:n<=2000000000)(hi:i<C.N)(hg:g<=Am.gen s i)(ha:o.J=4)(hb:o.a=s.base i g):bu o M=some (s.mem (.cap i g),0,nt M M.cell 0 (Am.cG C s (.cap i g)) (s.mem (.cap i g)) 0 true):=by
 unfold bu;rw[dN ha,dN ha,dN ha,aW ha,hb,show s.base i g=Am.cG C s (.cap i g)from rfl,yg h hz hn (a:=.cap i g) ⟨hi,hg⟩,dz]
theorem Vn{k:Nat}(h:AR C s M sz n)(hn:n<=2000000000)(ha:o.J=5)(hk:o.c2=k)(hf:M.cell.length+(1+k)<=sz):bu o M=some (s.size,0,{nt M (M.cell++List.replicate (1+k) 0) 4 s.size ((1+k:Nat):Int) 0 true with fl:=s.size+((1+k:Nat):Int)}):=by
 have s1:=h.s1;unfold bu;rw[dN ha,dN ha,dN ha,dN ha,aW ha,hk,show wi (1+(k:Int))=((1+k:Nat):Int) by rw[eF aB];omega,abf h hn aB hf,dz]
theorem ND{g:Nat}(h:AR C s M sz n)(hz:Am.SZ C s)(hn:n<=2000000000)(hi:i<C.N)(hg:g<=Am.gen s i)(ha:o.J=6)(hb:o.a2=s.base i g):bu o M=some (0,0,nt M (M.cell.set (Am.cG C s (.cap i g)).toNat o.c2) 1 (Am.cG C s (.cap i g)) o.c2 0 true):=by
 unfold bu;rw[dN ha,dN ha,dN ha,dN ha,dN ha,aW ha,hb,show s.base i g=Am.cG C s (.cap i g)from rfl,uZ h hz hn (a:=.cap i g) ⟨hi,hg⟩,fh]
theorem BJ(h:AR C s M sz n)(hz:Am.SZ C s)(hC:C.OK)(hi:i<C.N){g:Nat}(hg:g<=Am.gen s i){c x:Int}(hc:c=Am.uA C g)(hx:-1000000000000<=x/\x<=1000000000000):pq (s.base i g) c x=some (Am.cG C s (.el i g (Am.ix x c)))/\Am.EE C s (.el i g (Am.ix x c)):=by
 have b1:=h.Vm hz (a:=.cap i g) ⟨hi,hg⟩;have p:=Am.DF hz (a:=.cap i g) ⟨hi,hg⟩;have c1:=Am.FT hC g;have c2:=Am.Nz hC g;have m4:=hC.m4;have e2:=ES x (show 0<c by omega);have e1:=ER x (b:=c) aB;refine⟨Ta p.1 (by have:=b1.2.1;show Am.cG C s (.cap i g)<=_;omega) aB aB hx,hi,hg,?_⟩;unfold Am.ix;omega
theorem Vo{g:Nat}(h:AR C s M sz n)(hz:Am.SZ C s)(hC:C.OK)(hn:n<=2000000000)(hi:i<C.N)(hg:g<=Am.gen s i)(ha:o.J=7)(hb:o.a=s.base i g)(hc:o.c=Am.uA C g)(hx:-1000000000000<=o.i/\o.i<=1000000000000) :
 bu o M=some (s.mem (.el i g (Am.ix o.i o.c)),0,nt M M.cell 0 (Am.cG C s (.el i g (Am.ix o.i o.c))) (s.mem (.el i g (Am.ix o.i o.c))) 0 true):=by
 obtain⟨e1,e2⟩:=BJ h hz hC hi hg hc hx;unfold bu;rw[dN ha,dN ha,dN ha,dN ha,dN ha,dN ha,aW ha,hb,e1,ay,yg h hz hn e2,dz]
theorem Vp{g:Nat}(h:AR C s M sz n)(hz:Am.SZ C s)(hC:C.OK)(hn:n<=2000000000)(hi:i<C.N)(hg:g<=Am.gen s i)(ha:o.J=8)(hb:o.a2=s.base i g)(hc:o.c2=Am.uA C g)(hx:-1000000000000<=o.i/\o.i<=1000000000000) :
 bu o M=some (0,0,nt M (M.cell.set (Am.cG C s (.el i g (Am.ix o.i o.c2))).toNat o.x) 1 (Am.cG C s (.el i g (Am.ix o.i o.c2))) o.x 0 true):=by
 obtain⟨e1,e2⟩:=BJ h hz hC hi hg hc hx;unfold bu;rw[dN ha,dN ha,dN ha,dN ha,dN ha,dN ha,dN ha,aW ha,hb,e1,ay,uZ h hz hn e2,fh]
theorem NF(h:AR C s M sz n)(hz:Am.SZ C s)(hn:n<=2000000000)(hi:i<C.N)(ha:o.J=9)(hb:o.nE=Am.vJ C i):bu o M=some (0,0,nt M (M.cell.set (Am.cG C s (.buf i)).toNat o.a2) 1 (Am.cG C s (.buf i)) o.a2 0 true):=by
 unfold bu;rw[dN ha,dN ha,dN ha,dN ha,dN ha,dN ha,dN ha,dN ha,aW ha,h.cast hz (a:=.buf i) hi (by rw[hb];rfl),uZ h hz hn (a:=.buf i) hi,fh]
theorem Vq{g:Nat}(h:AR C s M sz n)(hz:Am.SZ C s)(hC:C.OK)(hn:n<=2000000000)(hi:i<C.N)(hg:g<=Am.gen s i)(ha:o.J=10)(hb:o.a=s.base i g)(hc:o.c=Am.uA C g)(hx:-1000000000000<=o.b/\o.b<=1000000000000) :
 bu o M=some (0,0,nt M (M.cell.set (Am.cG C s (.el i g (Am.ix o.b o.c))).toNat o.v) 1 (Am.cG C s (.el i g (Am.ix o.b o.c))) o.v 0 true):=by
 obtain⟨e1,e2⟩:=BJ h hz hC hi hg hc hx;unfold bu;rw[dN ha,dN ha,dN ha,dN ha,dN ha,dN ha,dN ha,dN ha,dN ha,aW ha,hb,e1,ay,uZ h hz hn e2,fh]
theorem zL(h:AR C s M sz n)(hz:Am.SZ C s)(hn:n<=2000000000)(hi:i<C.N)(ha:o.J=11)(hb:o.nE=Am.vJ C i){v:Int}(hv:jo o=some v):bu o M=some (0,0,nt M (M.cell.set (Am.cG C s (.bot i)).toNat v) 1 (Am.cG C s (.bot i)) v 0 true):=by
 unfold bu;rw[dN ha,dN ha,dN ha,dN ha,dN ha,dN ha,dN ha,dN ha,dN ha,dN ha,aW ha,hv,ay,h.cast hz (a:=.bot i) hi (by rw[hb];rfl),uZ h hz hn (a:=.bot i) hi,fh]
theorem Mc{g:Nat}{x:Int}(h:AR C s M sz n)(hz:Am.SZ C s)(hC:C.OK)(hn:n<=2000000000)(hi:i<C.N)(hg:g<=Am.gen s i)(ha:o.J=12)(hb:o.a=s.base i g)(hc:o.c=Am.uA C g)(hk:x=if o.kind=2 then o.b else o.t)(hx:-1000000000000<=x/\x<=1000000000000) :
 bu o M=some (s.mem (.el i g (Am.ix x o.c)),0,nt M M.cell 0 (Am.cG C s (.el i g (Am.ix x o.c))) (s.mem (.el i g (Am.ix x o.c))) 0 true):=by
 obtain⟨e1,e2⟩:=BJ h hz hC hi hg hc hx;have e3:(if o.kind=2 then some o.b else some o.t)=some x:=by rw[hk];split<;>rfl
 unfold bu;rw[dN ha,dN ha,dN ha,dN ha,dN ha,dN ha,dN ha,dN ha,dN ha,dN ha,dN ha,aW ha,e3,ay,hb,e1,ay,yg h hz hn e2,dz]
theorem Pb(h:AR C s M sz n)(hz:Am.SZ C s)(hn:n<=2000000000)(hi:i<C.N)(ha:o.J=13)(hb:o.nE=Am.vJ C i)(ht:-1000000000000<=o.t/\o.t<=1000000000000):bu o M=some (if s.mem (.top i)=o.t then 1 else 0,0,nt M (if s.mem (.top i)=o.t then M.cell.set (Am.cG C s (.top i)).toNat (o.t+1)else M.cell) 2 (Am.cG C s (.top i)) o.t (o.t+1) (s.mem (.top i)==o.t)):=by
 unfold bu;rw[dN ha,dN ha,dN ha,dN ha,dN ha,dN ha,dN ha,dN ha,dN ha,dN ha,dN ha,dN ha,eF (x:=o.t+1) aB,h.cast hz (a:=.top i) hi (by rw[hb,Int.add_zero];rfl),S4 h hz hn (a:=.top i) hi,dz];by_cases e:s.mem (.top i)=o.t
 ·rw[aW (by rw[e];simp),aW e,aW e]
 ·rw[cF (by simpa using e),cF e,cF e]
end
def B9:Option Am.Ev->ai
 | none=>⟨0,0,0,0,0,0⟩
 | some e=>⟨0,0,e.kind,e.ax,e.x,e.v⟩
def Tb(i:Nat):Option Am.Ev->ai
 | none=>⟨0,0,0,0,0,0⟩
 | some e=>⟨0,i,e.kind,e.ax,e.x,e.v⟩
def Tc(e:Option Am.Ev):Prop:=match e with
 | none=>True
 | some e=>e.kind≠0
def W1(C:Am.kT)(s:Am.St)(w:Int)(a:Am.Acc):aR:=⟨w,a.kind,Am.cG C s a.a,a.x,a.y,a.ok⟩
def Lg(C:Am.kT)(s:Am.St)(M M':af)(acc:Option Am.Acc):Prop:=
 M'.sF=M.sF/\M'.watched=M.watched/\M'.log=if M.watched=true then M.log++(acc.toList.map (W1 C s M.sF))else M.log
def jA(C:Am.kT)(p:aM)(sz n:Nat)(M:af)(o:Am.Out)(r:Option (ai×ag×af)):Prop:=
 ∃S' M',r=some (B9 o.ev,S',M')/\S5 C p o.s S'/\AR C o.s M' sz (n+1)/\Lg C o.s M M' o.acc/\Tc o.ev
structure vL(C:Am.kT)(p:aM)(s:Am.St)(S:ag)(M:af)(sz n:Nat):Prop where
 ok:C.OK
 jT:S5 C p s S
 ar:AR C s M sz n
 z:Am.SZ C s
 bd:Am.BD s n
 dt:Am.DT C s
 fi:(Am.view s).FI C.N C.F
 fr:Am.FR C s
 n:n<=1000000000
 vd:Valid p
 cf:C=cfg p C.N C.F C.first C.most
 room :∃afs,(sz:Int)=Am.S0 C+C.N*Am.tot C afs/\Am.uA C afs=C.most
section
variable {K:Nat}{C:Am.kT}{p:aM}{s:Am.St}{S:ag}{M:af}{sz n i:Nat}{D:aQ}
theorem Lg.nt{s':Am.St}{c:List Int}{k:Nat}{a:Am.uw}{x y pl:Int}{ok:Bool}(h:Am.cG C s' a=pl):Lg C s' M (nt M c k pl x y ok) (some ⟨k,a,x,y,ok⟩):=by
 refine⟨rfl,rfl,?_⟩;show(if M.watched=true then M.log++[_]else M.log)=_;simp only[Option.toList_some,zT,AD,W1,h]
theorem Lg.none_{s':Am.St}:Lg C s' M M none:=by
 refine⟨rfl,rfl,?_⟩;simp
def gG(S:ag)(i:Nat)(a:bD):ag:={S with ah:=S.ah.set i a}
abbrev act(S:ag)(i:Nat):bD:=J S.ah i
theorem jO(i:Nat)(a:bD):(gG S i a).ah.length=S.ah.length:=hU
theorem nC{a:bD}(h:i<S.ah.length):act (gG S i a) i=a:=by
 show J (S.ah.set i a) i=a;rw[pU h,aW rfl]
theorem Mf{a b:bD}:gG (gG S i a) i b=gG S i b:=by
 show {S with ah:=(S.ah.set i a).set i b}=_;rw[iG];rfl
theorem S5.act{s':Am.St}{a:bD}{q:Am.Pc}(h:S5 C p s S)(ht:Am.DT C s)(hi:i<C.N)(ha:aOK C s' i a)(hpc:s'.pc=Am.dW s.pc i q)(hh:∀j,j≠i->s'.hold j=s.hold j)(Qs:∀j,j≠i->s'.fZ j=s.fZ j)
 (hc:∀j,j≠i->s'.cur j=s.cur j) (hb:∀j g,(j≠i∨g<=s.cur i)->s'.base j g=s.base j g) (hf:s'.fr=s.fr) (hn:s'.nf=s.nf) (hv:s'.val=s.val):S5 C p s' (gG S i a):=by
 have hl:=h.wl;refine⟨h.code,h.res,h.tb,h.tf,h.lb,h.lw,h.dl,h.dq,h.tl,λf hf'=>by rw[hf];exact h.tk f (hn▸ hf'),by rw[jO];exact h.wl,λj hj => ?_,by rw[hv];exact h.left,by rw[hv];exact h.val⟩;show aOK C s' j (GX.J (S.ah.set i a) j);by_cases e:j=i
 ·subst e;rw[pU aB,aW rfl];exact ha
 ·rw[pU aB,cF e];obtain⟨w1,w2,w3⟩:=h.wk j hj;have ep:s'.pc j=s.pc j:=by rw[hpc];exact Am.bA e
  refine⟨w1,by rw[hh j e];exact w2,?_⟩;rw[ep,Qs j e,hc j e];have T:=ht.2 j hj;refine w3.keep (λg _=>hb j g (.inl e)) (λv t g hq => ?_) (λv t g cc hq => ?_)
  ·unfold Am.Th at T;rw[hq]at T;simp only at T;by_cases ev:v=i
   ·subst ev;exact hb v g (.inr T.2.2.2.1)
   ·exact hb v g (.inl ev)
  ·unfold Am.Th at T;rw[hq]at T;simp only at T;by_cases ev:v=i
   ·subst ev;exact hb v g (.inr T.2.2.2.1)
   ·exact hb v g (.inl ev)
theorem u0{o':bV}{M':af}{c v:Int}(h1:fz M (act S i).bl=some (o',M'))(h2:nY o'=some (c,v)) :
 lG S M (i:Int)=some (c,v,gG S i {act S i with bl:=o' },M'):=by
 unfold lG jN an;rw[dc,h1,fh];simp only;rw[h2,fh];rfl
theorem Ka{o':cy}{M':af}{c v:Int}(h1:de M (act S i).dM=some (o',M'))(h2:iV o'=some (c,v)) :
 eV S M (i:Int)=some (c,v,gG S i {act S i with dM:=o' },M'):=by
 unfold eV jN an;rw[dc,h1,fh];simp only;rw[h2,fh];rfl
theorem xK{o':bY}{M':af}{c v:Int}(h1:eI M (act S i).cL=some (o',M'))(h2:pz o'=some (c,v)) :
 jz S M (i:Int)=some (c,v,gG S i {act S i with cL:=o' },M'):=by
 unfold jz jN an;rw[dc,h1,fh];simp only;rw[h2,fh];rfl
theorem vL.AA(b:vL C p s S M sz n)(hi:i<C.N):bI (i:Int) S.ah.length:=⟨aB,by rw[b.jT.wl];omega⟩
theorem vL.wl(b:vL C p s S M sz n)(hi:i<C.N):i<S.ah.length:=by rw[b.jT.wl];exact hi
theorem vL.cN(b:vL C p s S M sz n):n<=2000000000:=by have:=b.n;omega
theorem vL.J4(b:vL C p s S M sz n){x:Int}(h:x∈Am.gP (s.pc i)):-1000000000000<=x/\x<=1000000000000:=by
 have:=b.bd.r i x h;have hn:=b.n;unfold Am.J5 at this;omega
theorem vL.L8(b:vL C p s S M sz n){a:Am.uw}(h:a.L8=true):-1000000000000<=s.mem a/\s.mem a<=1000000000000:=by
 have:=b.bd.m a h;have hn:=b.n;unfold Am.J5 at this;omega
theorem Td{s':Am.St}{q:Am.Pc}(h:s'.pc=Am.dW s.pc i q)(hc:s'.cur=s.cur)(hg:Am.lA q=Am.lA (s.pc i)):Am.gen s'=Am.gen s:=by
 funext j;unfold Am.gen;rw[h,hc,Am.fC];split
 ·next e=>rw[e,hg]
 ·rfl
theorem Te(C:Am.kT){a b:Nat}(h:a<=b):Am.tot C a<=Am.tot C b:=by
 induction b with
 | zero=>rw[show a=0 by omega];exact j9 _
 | succ b ih =>
  by_cases e:a=b+1
  ·rw[e];exact j9 _
  ·have:=ih aB;show _<=Am.tot C b+1+Am.uA C (b+1);omega
theorem Mg{afs:Nat}(hz:Am.SZ C s)(h1:(sz:Int)=Am.S0 C+C.N*Am.tot C afs)(h2:Am.uA C afs=C.most):s.size<=sz:=by
 have key:∀j,j<C.N->Am.tot C (Am.gen s j)<=Am.tot C afs:=λj hj=>by
  rcases CV afs (Am.gen s j)with h | h
  ·have:=hz.gm j hj afs h;omega
  ·exact Te C h
 have:=Am.O8 (f:=λj=>Am.tot C (Am.gen s j)) (k:=Am.tot C afs) (n:=C.N) key;rw[hz.size,h1];have e:((C.N*Am.tot C afs:Nat):Int)=(C.N:Int)*(Am.tot C afs:Int):=by simp
 omega
theorem jA.mk{a:bD}{M':af}{o:Am.Out}{q:Am.Pc}{r:Option (ai×ag×af)}(b:vL C p s S M sz n)(hi:i<C.N)(hr:r=some (B9 o.ev,gG S i a,M'))
 (F4:a.bp=i) (hfr:a.ax=fi (o.s.hold i)) (hq:o.s.pc=Am.dW s.pc i q) (hph:ph C i q (o.s.fZ i) (o.s.cur i) o.s.base a) (har:AR C o.s M' sz (n+1)) (ZL:Lg C o.s M M' o.acc) (Kb:Tc o.ev)
 (hh:∀j,j≠i->o.s.hold j=s.hold j:=by intros;rfl) (Qs:∀j,j≠i->o.s.fZ j=s.fZ j:=by intros;rfl) (hc:∀j,j≠i->o.s.cur j=s.cur j:=by intros;rfl)
 (hb:∀j g,(j≠i∨g<=s.cur i)->o.s.base j g=s.base j g:=by intros;rfl) (hf:o.s.fr=s.fr:=by rfl) (hn:o.s.nf=s.nf:=by rfl) (hv:o.s.val=s.val:=by rfl):jA C p sz n M o r:=
 ⟨_,_,hr,b.jT.act b.dt hi ⟨F4,hfr,by rw[hq,Am.bK];exact hph⟩ hq hh Qs hc hb hf hn hv,har,ZL,Kb⟩
theorem vL.yq(b:vL C p s S M sz n){s':Am.St}{q:Am.Pc}(hq:s'.pc=Am.dW s.pc i q)(hg:Am.lA q=Am.lA (s.pc i))(k a x y:Int)(ok:Bool)(h1:s'.mem=s.mem:=by rfl)(h2:s'.size=s.size:=by rfl)(h3:s'.base=s.base:=by rfl)(h4:s'.cur=s.cur:=by rfl) :
 AR C s' (nt M M.cell k a x y ok) sz (n+1):=b.ar.same h1 h2 h3 (Td hq h4 hg) k a x y ok
theorem vL.Aw(b:vL C p s S M sz n){s':Am.St}{q:Am.Pc}{c:Am.uw}{v:Int}(hq:s'.pc=Am.dW s.pc i q)(hg:Am.lA q=Am.lA (s.pc i))(hb:Am.EE C s c)(k a x y:Int)(ok:Bool)(h1:s'.mem=Am.dW s.mem c v:=by rfl)(h2:s'.size=s.size:=by rfl)(h3:s'.base=s.base:=by rfl)(h4:s'.cur=s.cur:=by rfl) :
 AR C s' (nt M (M.cell.set (Am.cG C s c).toNat v) k a x y ok) sz (n+1):=b.ar.set b.z hb h1 h2 h3 (Td hq h4 hg) k a x y ok
end
section
variable {K:Nat}{C:Am.kT}{p:aM}{s:Am.St}{S:ag}{M:af}{sz n i:Nat}{D:aQ}{d:Int}
theorem G3(b:vL C p s S M sz n)(hi:i<C.N){c:Nat}(hg:(Am.view s).g i= .push c):c<s.nf:=by
 have z:=b.fi.ps i c hi hg;rcases CV c s.nf with h | h
 ·exact h
 ·have:=b.fi.free c h;rw[this]at z;exact absurd z.2.1 (by simp)
theorem vL.task(b:vL C p s S M sz n){f:Nat}(hf:f<s.nf):bI (f:Int) S.aH.length:=⟨aB,by rw[b.jT.tl];have:s.nf<=C.F:=b.fi.wD;omega⟩
theorem rJ(b:vL C p s S M sz n)(hi:i<C.N){c:Nat}(hc:(act S i).cw=c)(hg:(Am.view s).g i= .push c){o':bV}{M':af}(h1:fz M (act S i).bl=some (o',M'))(h2:o'.kind=1)(h3:o'.J≠0) :
 cE S M (i:Int) D=some (B9 none,gG S i {act S i with bl:=o' },M'):=by
 have hin:bI (act S i).cw S.aH.length:=by rw[hc];exact b.task (G3 b hi hg)
 unfold cE er jN an;rw[dc,aW hin,jm,aW hin,u0 h1 (Mb (by rw[h2];decide) h3),gp,aW rfl];rfl
section
variable (b:vL C p s S M sz n)(hi:i<C.N)
include b hi
theorem Tf{c:Nat}(hp:s.pc i= .Dz c):jA C p sz n M (Am.aJ C s i d) (cE S M (i:Int) D):=by
 obtain⟨w1,w2,w3⟩:=b.jT.wk i hi;rw[hp]at w3;obtain⟨a1,a2,⟨o1,o2,o3,o4⟩,a3⟩:=w3;have hs:=pH o1 o2 eL eL (FU b.ar b.z b.cN hi o2 o3) (o':={(act S i).bl with J:=2,b:=s.mem (.bot i)}) (by
  rw[aW rfl];unfold eZ;rw[aW o2])
 unfold Am.aJ;rw[hp];simp only;exact .mk b hi (rJ b hi a2 (by show Am.sig (s.pc i)=_;rw[hp];rfl) hs o1 (by show(2:Int)≠0;decide)) w1 w2 rfl ⟨a1,a2,⟨o1,rfl,o3,o4⟩,a3,rfl⟩ (b.yq rfl (by rw[hp];rfl) _ _ _ _ _) (Lg.nt rfl) trivial
theorem Tg{c:Nat}{bb:Int}(hp:s.pc i= .Ac c bb):jA C p sz n M (Am.aJ C s i d) (cE S M (i:Int) D):=by
 obtain⟨w1,w2,w3⟩:=b.jT.wk i hi;rw[hp]at w3;obtain⟨a1,a2,⟨o1,o2,o3,o4⟩,a3,a4⟩:=w3;have hs:=pH o1 o2 eL eL (FV b.ar b.z b.cN hi o2 o3) (o':={(act S i).bl with J:=3,t:=s.mem (.top i)}) (by
  rw[aW rfl];unfold eZ;rw[dN o2,aW o2])
 unfold Am.aJ;rw[hp];simp only;exact .mk b hi (rJ b hi a2 (by show Am.sig (s.pc i)=_;rw[hp];rfl) hs o1 (by show(3:Int)≠0;decide)) w1 w2 rfl ⟨a1,a2,⟨o1,rfl,o3,o4⟩,a3,a4,rfl⟩ (b.yq rfl (by rw[hp];rfl) _ _ _ _ _) (Lg.nt rfl) trivial
theorem NG{c:Nat}{bb t:Int}(hp:s.pc i= .tc c bb t):jA C p sz n M (Am.aJ C s i d) (cE S M (i:Int) D):=by
 obtain⟨w1,w2,w3⟩:=b.jT.wk i hi;rw[hp]at w3;obtain⟨a1,a2,⟨o1,o2,o3,o4⟩,a3,a4,a5⟩:=w3;have hs:=pH o1 o2 eL eL (J8 b.ar b.z b.cN hi o2 o3) (o':={(act S i).bl with J:=4,a:=s.mem (.buf i)}) (by
  rw[aW rfl];unfold eZ;rw[dN o2,dN o2,aW o2])
 unfold Am.aJ;rw[hp];simp only;exact .mk b hi (rJ b hi a2 (by show Am.sig (s.pc i)=_;rw[hp];rfl) hs o1 (by show(4:Int)≠0;decide)) w1 w2 rfl ⟨a1,a2,⟨o1,rfl,o3,o4⟩,a3,a4,a5,(b.dt.1 i hi).EA⟩ (b.yq rfl (by rw[hp];rfl) _ _ _ _ _) (Lg.nt rfl) trivial
end
end
theorem Vr{o:bV}{v:Int}(ha:o.J=4)(h1:1<=v)(h2:v<=4096)(hb:-4000000000000<=o.b-o.t/\o.b-o.t<=4000000000000):eZ o v=if o.b-o.t<v then some {o with J:=10,c:=v}else if o.nS<=v then some {o with J:=0,c:=v,code:=3,value:=0}
 else some {o with J:=5,c:=v,c2:=if o.nS<2*v then o.nS else 2*v}:=by
 unfold eZ eH;rw[dN ha,dN ha,dN ha,aW ha,eG,eF (x:=o.b-o.t) aB,eF (x:=2*v) aB];rfl
theorem Vs{o:bV}{v:Int}(ha:o.J=8)(hb:-4000000000000<=o.i/\o.i<=4000000000000):eZ o v=if o.i+1=o.b then some {o with J:=9,i:=o.i+1}else some {o with J:=7,i:=o.i+1}:=by
 unfold eZ;rw[dN ha,dN ha,dN ha,dN ha,dN ha,dN ha,dN ha,aW ha,eF (x:=o.i+1) aB]
section
variable {K:Nat}{C:Am.kT}{p:aM}{s:Am.St}{S:ag}{M:af}{sz n i:Nat}{D:aQ}{d:Int}
variable (b:vL C p s S M sz n)(hi:i<C.N)
include b hi
theorem W2:s.mem (.cap i (s.cur i))=Am.uA C (s.cur i)/\(1:Int)<=s.mem (.cap i (s.cur i))/\s.mem (.cap i (s.cur i))<=C.most/\(C.most:Int)<=4096:=by
 have h:=Am.ED b.z hi;have h1:=Am.FT b.ok (s.cur i);have h2:=Am.Nz b.ok (s.cur i);have h3:=b.ok.m4;change s.mem (.cap i (s.cur i))=_ at h;omega
theorem Qt{c:Nat}(hc:(act S i).cw=c)(hg:(Am.view s).g i= .push c){o':bV}{M':af}(h1:fz M (act S i).bl=some (o',M'))(h2:o'.kind=1)(h3:o'.J=0)(h4:o'.code=3) :
 cE S M (i:Int) D=some (B9 (Am.ev 11 c 1 0),gG S i {{act S i with bl:=o' }with aG:=14},M'):=by
 have hin:bI (act S i).cw S.aH.length:=by rw[hc];exact b.task (G3 b hi hg)
 have hw:=b.wl hi;unfold cE er jN an;rw[dc,aW hin,jm,aW hin,u0 h1 (NC (by rw[h2];decide) h3),gp,h4,cF eL,aW rfl,aW (by rw[jO];exact b.AA hi)];rw[show J (gG S i {act S i with bl:=o' }).ah i={act S i with bl:=o' }from nC hw];show some (_,gG (gG S i _) i _,_)=_;rw[Mf];show some ((⟨0,0,11,(act S i).cw,1,0⟩:ai),_,_)=_;rw[hc];rfl
theorem NH{c:Nat}{bb t:Int}(hp:s.pc i= .td c bb t):jA C p sz n M (Am.aJ C s i d) (cE S M (i:Int) D):=by
 obtain⟨w1,w2,w3⟩:=b.jT.wk i hi;rw[hp]at w3;obtain⟨a1,a2,⟨o1,o2,o3,o4⟩,a3,a4,a5,a6⟩:=w3;obtain⟨c0,c1,c2,c3⟩:=W2 b hi;have r1:=b.J4 (i:=i) (x:=bb) (by rw[hp];simp[Am.gP]);have r2:=b.J4 (i:=i) (x:=t) (by rw[hp];simp[Am.gP]);have hg:(Am.view s).g i= .push c:=by show Am.sig (s.pc i)=_;rw[hp];rfl
 have hs:∀o',eZ (act S i).bl (s.mem (.cap i (s.cur i)))=some o'->_:=λo' h=>pH o1 o2 eL eL (J9 b.ar b.z b.cN hi (Bs s i) o2 a6) (o':=o') (by rw[aW rfl];exact h);have e0:=Vr o2 (v:=s.mem (.cap i (s.cur i))) c1 aB (by rw[a4,a5];omega);unfold Am.aJ;rw[hp];simp only;by_cases h1:bb-t<s.mem (.cap i (s.cur i))
 ·rw[aW h1];rw[aW (by rw[a4,a5];exact h1)]at e0;exact .mk b hi (rJ b hi a2 hg (hs _ e0) o1 (by show(10:Int)≠0;decide)) w1 w2 rfl ⟨a1,a2,⟨o1,rfl,o3,o4⟩,a3,a4,a6,rfl⟩ (b.yq rfl (by rw[hp];rfl) _ _ _ _ _) (Lg.nt rfl) trivial
 ·rw[cF h1];rw[cF (by rw[a4,a5];exact h1)]at e0;by_cases h2:(C.most:Int)<=s.mem (.cap i (s.cur i))
  ·rw[aW h2];rw[aW (by rw[o4];exact h2)]at e0;exact .mk b hi (Qt b hi a2 hg (hs _ e0) o1 rfl rfl) w1 w2 rfl rfl (b.yq rfl (by rw[hp];rfl) _ _ _ _ _) (Lg.nt rfl) (by show(11:Nat)≠0;decide)
  ·rw[cF h2];rw[cF (by rw[o4];exact h2)]at e0;refine .mk b hi (rJ b hi a2 hg (hs _ e0) o1 (by show(5:Int)≠0;decide)) w1 w2 rfl ⟨a1,a2,⟨o1,rfl,o3,o4⟩,a3,a4,a5,a6,rfl,?_⟩ (b.yq rfl (by rw[hp];rfl) _ _ _ _ _) (Lg.nt rfl) trivial;show(if(act S i).bl.nS<_ then(act S i).bl.nS else _)=_;rw[o4];unfold Am.jr;split<;>split<;>omega
theorem Kc{c:Nat}{bb t cc:Int}(h:Am.DC C s i bb t cc):cc=Am.uA C (s.cur i)/\Am.jr C cc=Am.uA C (s.cur i+1)/\(1:Int)<=Am.jr C cc/\Am.jr C cc<=4096:=by
 have e:=h.2.2.2.2.1;rw[Am.ED b.z hi]at e;have h1:=Am.FT b.ok (s.cur i+1);have h2:=Am.Nz b.ok (s.cur i+1);have h3:=b.ok.m4;refine⟨e,by rw[e];exact Am.zK C _,?_,?_⟩<;>rw[e,Am.zK C]<;>omega
theorem Vt{c:Nat}{bb t cc:Int}(hp:s.pc i= .grow c bb t cc):jA C p sz n M (Am.aJ C s i d) (cE S M (i:Int) D):=by
 obtain⟨w1,w2,w3⟩:=b.jT.wk i hi;rw[hp]at w3;obtain⟨a1,a2,⟨o1,o2,o3,o4⟩,a3,a4,a5,a6,a7,a8⟩:=w3;have P:=(b.dt.1 i hi).ph;unfold Am.rN at P;rw[hp]at P;simp only at P;obtain⟨g1,g2,g3,g4⟩:=Kc b hi (c:=c) P;have hg:(Am.view s).g i= .push c:=by show Am.sig (s.pc i)=_;rw[hp];rfl
 have NI:Am.gen s i=s.cur i:=by unfold Am.gen;rw[hp];rfl
 obtain⟨afs,q1,q2⟩:=b.room;have PN:=b.z.aJ b.ok b.dt hi d;have hsz:=Mg PN q1 q2;have hlen:=b.ar.cl.len;have hss:(Am.aJ C s i d).s.size=s.size+1+Am.uA C (s.cur i+1):=by unfold Am.aJ;rw[hp];show s.size+1+Am.jr C cc=_;rw[g2]
 have hs:=pH o1 o2 eL eL (Vn (k:=Am.uA C (s.cur i+1)) b.ar b.cN o2 (by rw[a8];exact g2) aB) (o':={(act S i).bl with J:=6,a2:=s.size}) (by
  rw[aW rfl];unfold eZ;rw[dN o2,dN o2,dN o2,dN o2,aW o2])
 have hgs:Am.gen (Am.aJ C s i d).s=Am.dW (Am.gen s) i (s.cur i+1):=by
  unfold Am.aJ;rw[hp];simp only
  funext j;rw[Am.fC];unfold Am.gen;simp only[Am.St.to,Am.fC]
  split
  ·next e=>subst e;rfl
  ·rfl
 have Ul:=b.ar.cl.grow (s':=(Am.aJ C s i d).s) b.z hi NI (λa=>by unfold Am.aJ;rw[hp];cases a<;>rfl) hss (by unfold Am.aJ;rw[hp];rfl) hgs;have hbs:(Am.aJ C s i d).s.base=Am.dW s.base i (Am.dW (s.base i) (s.cur i+1) s.size):=by unfold Am.aJ;rw[hp];rfl
 have har:AR C (Am.aJ C s i d).s {nt M (M.cell++List.replicate (1+Am.uA C (s.cur i+1)) 0) 4 s.size ((1+Am.uA C (s.cur i+1):Nat):Int) 0 true with fl:=s.size+((1+Am.uA C (s.cur i+1):Nat):Int)} sz (n+1):=by
  refine⟨b.ar.size,b.ar.s1,hsz,?_,Ul,?_⟩
  ·show s.size+((1+Am.uA C (s.cur i+1):Nat):Int)=(((M.cell++List.replicate _ 0).length:Nat):Int);rw[jP,lY];omega
  ·have:=b.ar.lg;show(if M.watched=true then M.log++[_]else M.log).length<=_;split
   ·rw[jP];simp;omega
   ·omega
 have ZL:Lg C (Am.aJ C s i d).s M {nt M (M.cell++List.replicate (1+Am.uA C (s.cur i+1)) 0) 4 s.size ((1+Am.uA C (s.cur i+1):Nat):Int) 0 true with fl:=s.size+((1+Am.uA C (s.cur i+1):Nat):Int)} (Am.Yq (.cap i (s.cur i+1)) (1+Am.jr C cc)):=by
  have pl:Am.cG C (Am.aJ C s i d).s (.cap i (s.cur i+1))=s.size:=by show(Am.aJ C s i d).s.base i (s.cur i+1)=_;rw[hbs,Am.bK,Am.bK]
  have e:((1+Am.uA C (s.cur i+1):Nat):Int)=1+Am.jr C cc:=by rw[g2];omega
  rw[e];exact Lg.nt (M:=M) (c:=M.cell++List.replicate (1+Am.uA C (s.cur i+1)) 0) pl
 have hb:∀j g,(j≠i∨g<=s.cur i)->(Am.aJ C s i d).s.base j g=s.base j g:=λj g h=>by
  rw[hbs,Am.fC];split
  ·next e=>subst e;rw[Am.bA aB]
  ·rfl
 have abg:(Am.aJ C s i d).s.cur=s.cur:=by unfold Am.aJ;rw[hp];rfl
 have hpc:(Am.aJ C s i d).s.pc=Am.dW s.pc i (.pD c bb t cc):=by unfold Am.aJ;rw[hp];rfl
 have Kb:(Am.aJ C s i d).ev=none:=by unfold Am.aJ;rw[hp]
 have hac:(Am.aJ C s i d).acc=Am.Yq (.cap i (s.cur i+1)) (1+Am.jr C cc):=by unfold Am.aJ;rw[hp]
 refine jA.mk (a:={act S i with bl:={(act S i).bl with J:=6,a2:=s.size}}) b hi (by rw[Kb];exact rJ b hi a2 hg hs o1 (by show(6:Int)≠0;decide)) w1 (by show(act S i).ax=_;rw[w2];unfold Am.aJ;rw[hp];rfl) hpc ?_ har (by rw[hac];exact ZL) (by rw[Kb];trivial)
  (by unfold Am.aJ;rw[hp];intros;rfl) (by unfold Am.aJ;rw[hp];intros;rfl) (λj _=>by rw[abg]) hb (by unfold Am.aJ;rw[hp];rfl) (by unfold Am.aJ;rw[hp];rfl) (by unfold Am.aJ;rw[hp];rfl)
 rw[abg];refine⟨a1,a2,⟨o1,rfl,o3,o4⟩,a3,a4,a5,?_,a7,a8,?_⟩
 ·rw[hb i (s.cur i) (.inr (j9 _))];exact a6
 ·show s.size=_;rw[hbs,Am.bK,Am.bK]
theorem NJ{c:Nat}{bb t cc:Int}(hp:s.pc i= .pD c bb t cc):jA C p sz n M (Am.aJ C s i d) (cE S M (i:Int) D):=by
 obtain⟨w1,w2,w3⟩:=b.jT.wk i hi;rw[hp]at w3;obtain⟨a1,a2,⟨o1,o2,o3,o4⟩,a3,a4,a5,a6,a7,a8,a9⟩:=w3;have hg:(Am.view s).g i= .push c:=by show Am.sig (s.pc i)=_;rw[hp];rfl
 have NI:s.cur i+1<=Am.gen s i:=by unfold Am.gen;rw[hp];exact j9 _
 have hs:=pH o1 o2 eL eL (ND b.ar b.z b.cN hi NI o2 a9) (o':={(act S i).bl with J:=7,i:=(act S i).bl.t}) (by
  rw[aW rfl];unfold eZ;rw[dN o2,dN o2,dN o2,dN o2,dN o2,aW o2])
 rw[a8]at hs;unfold Am.aJ;rw[hp];simp only;exact .mk b hi (rJ b hi a2 hg hs o1 (by show(7:Int)≠0;decide)) w1 w2 rfl ⟨a1,a2,⟨o1,rfl,o3,o4⟩,a3,a4,a5,a6,a7,a8,a9,a5⟩ (b.Aw (c:=.cap i (s.cur i+1)) rfl (by rw[hp];rfl) ⟨hi,NI⟩ _ _ _ _ _) (Lg.nt rfl) trivial
theorem Mh{c:Nat}{bb t cc m:Int}(hp:s.pc i= .mL c bb t cc m):jA C p sz n M (Am.aJ C s i d) (cE S M (i:Int) D):=by
 obtain⟨w1,w2,w3⟩:=b.jT.wk i hi;rw[hp]at w3;obtain⟨a1,a2,⟨o1,o2,o3,o4⟩,a3,a4,a5,a6,a7,a8,a9,Um⟩:=w3;have P:=(b.dt.1 i hi).ph;unfold Am.rN at P;rw[hp]at P;simp only at P;obtain⟨g1,g2,g3,g4⟩:=Kc b hi (c:=c) P.1;have r1:=b.J4 (i:=i) (x:=m) (by rw[hp];simp[Am.gP]);have hg:(Am.view s).g i= .push c:=by show Am.sig (s.pc i)=_;rw[hp];rfl
 have hs:=pH o1 o2 eL eL (Vo b.ar b.z b.ok b.cN hi (Bs s i) o2 a6 (by rw[a7];exact g1) (by rw[Um];exact r1)) (o':={(act S i).bl with J:=8,x:=s.mem (.el i (s.cur i) (Am.ix (act S i).bl.i (act S i).bl.c))}) (by
  rw[aW rfl];unfold eZ;rw[dN o2,dN o2,dN o2,dN o2,dN o2,dN o2,aW o2])
 rw[a7,Um]at hs;unfold Am.aJ;rw[hp];simp only;exact .mk b hi (rJ b hi a2 hg hs o1 (by show(8:Int)≠0;decide)) w1 w2 rfl ⟨a1,a2,⟨o1,rfl,o3,o4⟩,a3,a4,a5,a6,a7,a8,a9,Um,rfl⟩ (b.yq rfl (by rw[hp];rfl) _ _ _ _ _) (Lg.nt rfl) trivial
theorem Kd{c:Nat}{bb t cc m x:Int}(hp:s.pc i= .mS c bb t cc m x):jA C p sz n M (Am.aJ C s i d) (cE S M (i:Int) D):=by
 obtain⟨w1,w2,w3⟩:=b.jT.wk i hi;rw[hp]at w3;obtain⟨a1,a2,⟨o1,o2,o3,o4⟩,a3,a4,a5,a6,a7,a8,a9,Um,a11⟩:=w3;have P:=(b.dt.1 i hi).ph;unfold Am.rN at P;rw[hp]at P;simp only at P;obtain⟨g1,g2,g3,g4⟩:=Kc b hi (c:=c) P.1;have r1:=b.J4 (i:=i) (x:=m) (by rw[hp];simp[Am.gP]);have hg:(Am.view s).g i= .push c:=by show Am.sig (s.pc i)=_;rw[hp];rfl
 have NI:s.cur i+1<=Am.gen s i:=by unfold Am.gen;rw[hp];exact j9 _
 have hac:=Vp b.ar b.z b.ok b.cN hi NI o2 a9 (by rw[a8];exact g2) (by rw[Um];exact r1);rw[a8,Um,a11]at hac;have hv:=(BJ (x:=m) b.ar b.z b.ok hi NI g2 r1).2;have e0:=Vs o2 (v:=0) (by rw[Um];omega);have hlt:=P.2.2.2.1;unfold Am.aJ;rw[hp];simp only;by_cases e:m+1<bb
 ·rw[aW e];rw[cF (by rw[Um,a4];omega)]at e0;have hs:=pH o1 o2 eL eL hac (o':=_) (by rw[aW rfl];exact e0);exact .mk b hi (rJ b hi a2 hg hs o1 (by show(7:Int)≠0;decide)) w1 w2 rfl ⟨a1,a2,⟨o1,rfl,o3,o4⟩,a3,a4,a5,a6,a7,a8,a9,by rw[<-Um]⟩ (b.Aw (c:=.el i (s.cur i+1) (Am.ix m (Am.jr C cc))) rfl (by rw[hp];rfl) hv _ _ _ _ _) (Lg.nt rfl) trivial
 ·rw[cF e];rw[aW (by rw[Um,a4];omega)]at e0;have hs:=pH o1 o2 eL eL hac (o':=_) (by rw[aW rfl];exact e0);exact .mk b hi (rJ b hi a2 hg hs o1 (by show(9:Int)≠0;decide)) w1 w2 rfl ⟨a1,a2,⟨o1,rfl,o3,o4⟩,a3,a4,a8,a9⟩ (b.Aw (c:=.el i (s.cur i+1) (Am.ix m (Am.jr C cc))) rfl (by rw[hp];rfl) hv _ _ _ _ _) (Lg.nt rfl) trivial
theorem NK{c:Nat}{bb t cc:Int}(hp:s.pc i= .pE c bb t cc):jA C p sz n M (Am.aJ C s i d) (cE S M (i:Int) D):=by
 obtain⟨w1,w2,w3⟩:=b.jT.wk i hi;rw[hp]at w3;obtain⟨a1,a2,⟨o1,o2,o3,o4⟩,a3,a4,a8,a9⟩:=w3;have hg:(Am.view s).g i= .push c:=by show Am.sig (s.pc i)=_;rw[hp];rfl
 have hs:=pH o1 o2 eL eL (NF b.ar b.z b.cN hi o2 o3) (o':={(act S i).bl with J:=10,a:=(act S i).bl.a2,c:=(act S i).bl.c2}) (by
  rw[aW rfl];unfold eZ;rw[dN o2,dN o2,dN o2,dN o2,dN o2,dN o2,dN o2,dN o2,aW o2])
 unfold Am.aJ;rw[hp];simp only;have hcu:Am.dW s.cur i (s.cur i+1) i=s.cur i+1:=Am.bK _ _ _;refine .mk b hi (rJ b hi a2 hg hs o1 (by show(10:Int)≠0;decide)) w1 w2 (q:=.mM c bb (Am.jr C cc)) rfl ?_ ?_ ?_ trivial (hc:=λj hj=>Am.bA hj)
 ·show ph C i _ _ (Am.dW s.cur i (s.cur i+1) i) _ _;rw[hcu];exact⟨a1,a2,⟨o1,rfl,o3,o4⟩,a3,a4,a9,a8⟩
 ·rw[a9];refine b.ar.set (s':=({s.wr (.buf i) (s.base i (s.cur i+1))with cur:=Am.dW s.cur i (s.cur i+1)}:Am.St).to i (.mM c bb (Am.jr C cc))) b.z (b:=.buf i) (v:=s.base i (s.cur i+1)) hi rfl rfl rfl ?_ _ _ _ _ _
  funext j;unfold Am.gen;simp only[Am.St.to,Am.St.wr,Am.fC]
  split
  ·next e=>subst e;rw[hp];rfl
  ·rfl
 ·rw[a9];exact Lg.nt rfl
theorem Mi{c:Nat}{bb cc:Int}(hp:s.pc i= .mM c bb cc):jA C p sz n M (Am.aJ C s i d) (cE S M (i:Int) D):=by
 obtain⟨w1,w2,w3⟩:=b.jT.wk i hi;rw[hp]at w3;obtain⟨a1,a2,⟨o1,o2,o3,o4⟩,a3,a4,a6,a7⟩:=w3;have P:=(b.dt.1 i hi).ph;unfold Am.rN at P;rw[hp]at P;simp only at P;have Q7:cc=Am.uA C (s.cur i):=P.2.2.2.trans (Am.ED b.z hi);have r1:=b.J4 (i:=i) (x:=bb) (by rw[hp];simp[Am.gP]);have hg:(Am.view s).g i= .push c:=by show Am.sig (s.pc i)=_;rw[hp];rfl
 have hv:=(BJ (x:=bb) b.ar b.z b.ok hi (Bs s i) Q7 r1).2;have hs:=pH o1 o2 eL eL (Vq b.ar b.z b.ok b.cN hi (Bs s i) o2 a6 (by rw[a7];exact Q7) (by rw[a4];exact r1)) (o':={(act S i).bl with J:=11}) (by
  rw[aW rfl];unfold eZ;rw[dN o2,dN o2,dN o2,dN o2,dN o2,dN o2,dN o2,dN o2,dN o2,aW o2])
 rw[a7,a4,a3]at hs;unfold Am.aJ;rw[hp];simp only;exact .mk b hi (rJ b hi a2 hg hs o1 (by show(11:Int)≠0;decide)) w1 w2 rfl ⟨a1,a2,⟨o1,rfl,o3,o4⟩,a4⟩ (b.Aw (c:=.el i (s.cur i) (Am.ix bb cc)) rfl (by rw[hp];rfl) hv _ _ _ _ _) (Lg.nt rfl) trivial
end
theorem abh{o:bV}(hk:o.kind=1)(hb:-4000000000000<=o.b/\o.b<=4000000000000):jo o=some (o.b+1):=by
 unfold jo;rw[aW hk,eF aB]
theorem abi{o:bV}(hk:o.kind=2)(hi:o.i=0):jo o=some o.b:=by
 unfold jo;rw[dN hk,aW hi]
theorem abj{o:bV}(hk:o.kind=2)(hi:o.i=1)(h:o.b<o.t):jo o=some o.t:=by
 unfold jo;rw[dN hk,dN hi,oU]
theorem abk{o:bV}(hk:o.kind=2)(hi:o.i=1)(h:o.t<=o.b)(hb:-4000000000000<=o.t/\o.t<=4000000000000):jo o=some (o.t+1):=by
 unfold jo;rw[dN hk,dN hi,eG,eF aB]
section
variable {o:bV}{v:Int}
theorem abl(ha:o.J=1)(hv:-4000000000000<=v/\v<=4000000000000):fb o v=some {o with J:=3,b:=v-1}:=by
 unfold fb;rw[aW ha,eF aB]
theorem abm(ha:o.J=3):fb o v=some {o with J:=11,a:=v}:=by
 unfold fb;rw[dN ha,aW ha]
theorem NL(ha:o.J=11):fb o v=if o.i=0 then some {o with J:=2}else if o.AU=true then some {o with J:=0,code:=4,value:=o.x}else some {o with J:=0,code:=5,value:=0}:=by
 unfold fb eH;rw[dN ha,dN ha,aW ha];rfl
theorem abn(ha:o.J=2):fb o v=if v>o.b then some {o with J:=11,t:=v,i:=1}else some {o with J:=4,t:=v,i:=1}:=by
 unfold fb;rw[dN ha,dN ha,dN ha,aW ha]
theorem abo(ha:o.J=4)(hv:1<=v):fb o v=some {o with J:=12,c:=v}:=by
 unfold fb;rw[dN ha,dN ha,dN ha,dN ha,aW ha,eG]
theorem Yz(ha:o.J=12):fb o v=if o.t<o.b then some {o with J:=0,x:=v,code:=4,value:=v}else some {o with J:=13,x:=v}:=by
 unfold fb eH;rw[dN ha,dN ha,dN ha,dN ha,dN ha,aW ha];rfl
theorem YA(ha:o.J=13):fb o v=some {o with J:=11,AU:=v==1}:=by
 unfold fb;rw[dN ha,dN ha,dN ha,dN ha,dN ha,dN ha,aW ha]
theorem abp(ha:o.J=2):fQ o v=some {o with J:=1,t:=v}:=by unfold fQ;rw[aW ha]
theorem abq(ha:o.J=1):fQ o v=if o.t>=v then some {o with J:=0,b:=v,code:=5,value:=0}else some {o with J:=3,b:=v}:=by
 unfold fQ eH;rw[dN ha,aW ha];rfl
theorem abr(ha:o.J=3):fQ o v=some {o with J:=4,a:=v}:=by
 unfold fQ;rw[dN ha,dN ha,aW ha]
theorem abt(ha:o.J=4)(hv:1<=v):fQ o v=some {o with J:=12,c:=v}:=by
 unfold fQ;rw[dN ha,dN ha,dN ha,aW ha,eG]
theorem YB(ha:o.J=12):fQ o v=some {o with J:=13,x:=v}:=by
 unfold fQ;rw[dN ha,dN ha,dN ha,dN ha,aW ha]
theorem YC(ha:o.J=13):fQ o v=if v=1 then some {o with J:=0,code:=4,value:=o.x}else some {o with J:=0,code:=6,value:=0}:=by
 unfold fQ eH;rw[dN ha,dN ha,dN ha,dN ha,dN ha,aW ha];rfl
end
section
variable {K:Nat}{C:Am.kT}{p:aM}{s:Am.St}{S:ag}{M M':af}{sz n i:Nat}{D:aQ}{d:Int}{o':bV}
theorem vL.Vu(b:vL C p s S M sz n)(hi:i<C.N):uM (⟨S.fq,S.cO⟩:fe) (i:Int)=some (⟨2+10*(C.F:Int),C.N,i,2,8,1,0,0,0,List.replicate 64 ⟨0,0⟩,⟨0,0,0,0,0,0,0,0,0,0,0,0,0,false,0,0⟩⟩:bY):=by
 have h1:=b.ok.n1;have h2:=b.ok.n64;unfold uM mD mP cC bJ;rw[b.jT.lb,b.jT.lw];simp only;rw[eG,eG,ay,eF (x:=2+(C.N:Int)) aB,oU,oU,tR aB,ay,aW rfl]
def abu(C:Am.kT)(i:Nat):bY:=⟨2+10*(C.F:Int),C.N,i,2,8,1,0,0,0,List.replicate 64 ⟨0,0⟩,⟨0,0,0,0,0,0,0,0,0,0,0,0,0,false,0,0⟩⟩
variable (b:vL C p s S M sz n)(hi:i<C.N)
include b hi
theorem Qu{c:Nat}(hc:(act S i).cw=c)(hg:(Am.view s).g i= .push c)(h1:fz M (act S i).bl=some (o',M'))(h2:o'.kind=1)(h3:o'.J=0)(h4:o'.code=2){f:Nat}(hf:(act S i).ax=f) :
 cE S M (i:Int) D=some (B9 (Am.ev 2 c f (s.fr c).nD),gG S i {act S i with bl:=o',cL:=abu C i,aG:=4},M'):=by
 have hcn:=G3 b hi hg;have hin:bI (act S i).cw S.aH.length:=by rw[hc];exact b.task hcn
 have hw:=b.wl hi;have F4:=(b.jT.wk i hi).self;have ht:=(b.jT.tk c hcn).nD;have hwk:=b.Vu hi;unfold cE er jN an;rw[dc,aW hin,jm,aW hin,u0 h1 (NC (by rw[h2];decide) h3),gp,h4,cF eL,cF eL,aW rfl,aW (by rw[jO];exact b.AA hi)];rw[show J (gG S i {act S i with bl:=o' }).ah i={act S i with bl:=o' }from nC hw];have adN:uM (⟨S.fq,S.cO⟩:fe) (act S i).bp=some (abu C i):=by rw[show(act S i).bp=i from F4];exact hwk
 show eY (uM (⟨S.fq,S.cO⟩:fe) (act S i).bp) _=_;rw[adN,ay];show some ((⟨0,0,2,(act S i).cw,(act S i).ax,(J S.aH (act S i).cw.toNat).nD⟩:ai),({S with ah:=((S.ah.set i _).set i _).set i _}:ag),M')=_;rw[iG,iG,hf,hc,dc,ht];rfl
theorem NM{c:Nat}{bb:Int}(hp:s.pc i= .rW c bb):jA C p sz n M (Am.aJ C s i d) (cE S M (i:Int) D):=by
 obtain⟨w1,w2,w3⟩:=b.jT.wk i hi;rw[hp]at w3;obtain⟨a1,a2,⟨o1,o2,o3,o4⟩,a4⟩:=w3;have r1:=b.J4 (i:=i) (x:=bb) (by rw[hp];simp[Am.gP]);have hg:(Am.view s).g i= .push c:=by show Am.sig (s.pc i)=_;rw[hp];rfl
 obtain⟨f,hh⟩:=Am.uY b.fi hi (by rw[hp];rfl);have hac:=zL b.ar b.z b.cN hi o2 o3 (abh o1 (by rw[a4];omega));rw[a4]at hac;have hs:=pH o1 o2 eL eL hac (o':={(act S i).bl with J:=0,code:=2,value:=0}) (by
  rw[aW rfl];unfold eZ eH;rw[dN o2,dN o2,dN o2,dN o2,dN o2,dN o2,dN o2,dN o2,dN o2,dN o2,aW o2];rfl)
 unfold Am.aJ;rw[hp];simp only[hh,qH];exact .mk b hi (Qu b hi a2 hg hs o1 rfl rfl (f:=f) (by rw[show(act S i).ax=fi (s.hold i)from w2,hh];rfl)) w1 w2 rfl ⟨rfl,rfl,rfl,rfl,rfl,rfl,rfl⟩ (b.Aw (c:=.bot i) rfl (by rw[hp];rfl) hi _ _ _ _ _) (Lg.nt rfl) (by show(2:Nat)≠0;decide)
theorem u3(h1:fz M (act S i).bl=some (o',M'))(h2:o'.kind=2)(h3:o'.J≠0):cU S M (i:Int) D=some (B9 none,gG S i {act S i with bl:=o' },M'):=by
 unfold cU jN an;rw[u0 h1 (Mb (by rw[h2];decide) h3),gp,aW rfl];rfl
theorem Pd(h1:fz M (act S i).bl=some (o',M'))(h2:o'.kind=2)(h3:o'.J=0)(h4:o'.code=4) :
 cU S M (i:Int) D=some (B9 none,gG S i {act S i with bl:=o',ax:=o'.value,from_:=-1,aG:=0},M'):=by
 have hw:=b.wl hi;unfold cU jN an;rw[u0 h1 (NC (by rw[h2];decide) h3),gp,h4,cF eL,aW rfl,aW (by rw[jO];exact b.AA hi),dc];rw[show J (gG S i {act S i with bl:=o' }).ah i={act S i with bl:=o' }from nC hw];show some (_,({S with ah:=(((S.ah.set i _).set i _).set i _).set i _}:ag),M')=_;rw[iG,iG,iG];rfl
theorem pop_empty(h1:fz M (act S i).bl=some (o',M'))(h2:o'.kind=2)(h3:o'.J=0)(h4:o'.code=5) :
 cU S M (i:Int) D=some (B9 none,gG S i {act S i with bl:=o',fZ:=0,aG:=9},M'):=by
 have hw:=b.wl hi;unfold cU jN an;rw[u0 h1 (NC (by rw[h2];decide) h3),gp,h4,cF eL,cF eL,aW rfl,aW (by rw[jO];exact b.AA hi),dc];rw[show J (gG S i {act S i with bl:=o' }).ah i={act S i with bl:=o' }from nC hw];show some (_,({S with ah:=((S.ah.set i _).set i _).set i _}:ag),M')=_;rw[iG,iG];rfl
theorem Vv(hp:s.pc i= .GZ):jA C p sz n M (Am.aJ C s i d) (cU S M (i:Int) D):=by
 obtain⟨w1,w2,w3⟩:=b.jT.wk i hi;rw[hp]at w3;obtain⟨a1,⟨o1,o2,o3,o4⟩,a3,a4⟩:=w3;have r:=b.L8 (a:=.bot i) rfl;have hs:=pH o1 o2 eL eL (FU b.ar b.z b.cN hi o2 o3) (by rw[cF eL,aW rfl];exact abl o2 aB);unfold Am.aJ;rw[hp];simp only;exact .mk b hi (u3 b hi hs o1 (by show(3:Int)≠0;decide)) w1 w2 rfl ⟨a1,⟨o1,rfl,o3,o4⟩,a3,a4,rfl⟩ (b.yq rfl (by rw[hp];rfl) _ _ _ _ _) (Lg.nt rfl) trivial
theorem Qv{bb:Int}(hp:s.pc i= .wX bb):jA C p sz n M (Am.aJ C s i d) (cU S M (i:Int) D):=by
 obtain⟨w1,w2,w3⟩:=b.jT.wk i hi;rw[hp]at w3;obtain⟨a1,⟨o1,o2,o3,o4⟩,a3,a4,a5⟩:=w3;have hs:=pH o1 o2 eL eL (J8 b.ar b.z b.cN hi o2 o3) (by rw[cF eL,aW rfl];exact abm o2);unfold Am.aJ;rw[hp];simp only;exact .mk b hi (u3 b hi hs o1 (by show(11:Int)≠0;decide)) w1 w2 rfl ⟨a1,⟨o1,rfl,o3,o4⟩,a3,a4,a5,(b.dt.1 i hi).EA⟩ (b.yq rfl (by rw[hp];rfl) _ _ _ _ _) (Lg.nt rfl) trivial
theorem Mj{bb:Int}(hp:s.pc i= .rH bb):jA C p sz n M (Am.aJ C s i d) (cU S M (i:Int) D):=by
 obtain⟨w1,w2,w3⟩:=b.jT.wk i hi;rw[hp]at w3;obtain⟨a1,⟨o1,o2,o3,o4⟩,a3,a4,a5,a6⟩:=w3;have hac:=zL b.ar b.z b.cN hi o2 o3 (abi o1 a3);rw[a5]at hac;have hs:=pH o1 o2 eL eL hac (by rw[cF eL,aW rfl,NL o2,aW a3]);unfold Am.aJ;rw[hp];simp only;exact .mk b hi (u3 b hi hs o1 (by show(2:Int)≠0;decide)) w1 w2 rfl ⟨a1,⟨o1,rfl,o3,o4⟩,a5,a6,a4⟩ (b.Aw (c:=.bot i) rfl (by rw[hp];rfl) hi _ _ _ _ _) (Lg.nt rfl) trivial
theorem Vw{bb:Int}(hp:s.pc i= .Ey bb):jA C p sz n M (Am.aJ C s i d) (cU S M (i:Int) D):=by
 obtain⟨w1,w2,w3⟩:=b.jT.wk i hi;rw[hp]at w3;obtain⟨a1,⟨o1,o2,o3,o4⟩,a5,a6,a4⟩:=w3;have hac:=FV b.ar b.z b.cN hi o2 o3;have hs:=λo' h=>pH o1 o2 eL eL hac (o':=o') (by rw[cF eL,aW rfl];exact h);have e:=abn o2 (v:=s.mem (.top i));unfold Am.aJ;rw[hp];simp only;by_cases h1:s.mem (.top i)<bb
 ·rw[aW h1];rw[cF (by rw[a5];omega)]at e;exact .mk b hi (u3 b hi (hs _ e) o1 (by show(4:Int)≠0;decide)) w1 w2 rfl ⟨a1,⟨o1,rfl,o3,o4⟩,rfl,a5,rfl,a6⟩ (b.yq rfl (by rw[hp];rfl) _ _ _ _ _) (Lg.nt rfl) trivial
 ·rw[cF h1];by_cases h2:s.mem (.top i)=bb
  ·rw[aW h2];rw[cF (by rw[a5];omega)]at e;exact .mk b hi (u3 b hi (hs _ e) o1 (by show(4:Int)≠0;decide)) w1 w2 rfl ⟨a1,⟨o1,rfl,o3,o4⟩,rfl,a5,rfl,a6⟩ (b.yq rfl (by rw[hp];rfl) _ _ _ _ _) (Lg.nt rfl) trivial
  ·rw[cF h2];rw[aW (by rw[a5];omega)]at e;exact .mk b hi (u3 b hi (hs _ e) o1 (by show(11:Int)≠0;decide)) w1 w2 rfl ⟨a1,⟨o1,rfl,o3,o4⟩,rfl,rfl,by show(act S i).bl.b<_;rw[show(act S i).bl.b=bb from a5];omega,a4⟩ (b.yq rfl (by rw[hp];rfl) _ _ _ _ _) (Lg.nt rfl) trivial
theorem DG{tr cj:Nat}{bs:Nat->Nat->Int}{a:bD}(h1:a.aG=9)(h2:a.fZ=0)(h3:tr=0):ph C i (if C.N=1 then .flag else .rm) tr cj bs a:=by
 by_cases e:C.N=1
 ·rw[aW e];exact .inl ⟨h1,e⟩
 ·rw[cF e];exact⟨h1,by rw[h2,h3];rfl,aB⟩
theorem DH{q:Am.Pc}(h:Am.lA q=false):Am.lA (if C.N=1 then .flag else .rm)=Am.lA q:=by rw[h];split<;>rfl
theorem Mk{t:Int}(hp:s.pc i= .qu t):jA C p sz n M (Am.aJ C s i d) (cU S M (i:Int) D):=by
 obtain⟨w1,w2,w3⟩:=b.jT.wk i hi;rw[hp]at w3;obtain⟨a1,⟨o1,o2,o3,o4⟩,a3,a5,a6,a4⟩:=w3;have hac:=zL b.ar b.z b.cN hi o2 o3 (abj o1 a3 (by rw[a5];exact a6));rw[a5]at hac;have hs:=pH o1 o2 eL eL hac (by rw[cF eL,aW rfl,NL o2,dN a3,dN a4]);unfold Am.aJ;rw[hp];simp only;exact .mk b hi (pop_empty b hi hs o1 rfl rfl) w1 w2 rfl (DG b hi rfl rfl (Am.bK _ _ _)) (b.Aw (c:=.bot i) rfl (by rw[hp];exact DH b hi rfl) hi _ _ _ _ _) (Lg.nt rfl) trivial (Qs:=λj hj=>Am.bA hj)
theorem Qw{bb t:Int}(hp:s.pc i= .vG bb t):jA C p sz n M (Am.aJ C s i d) (cU S M (i:Int) D):=by
 obtain⟨w1,w2,w3⟩:=b.jT.wk i hi;rw[hp]at w3;obtain⟨a1,⟨o1,o2,o3,o4⟩,a3,a4,a5,a6⟩:=w3;obtain⟨c0,c1,c2,c3⟩:=W2 b hi;have hs:=pH o1 o2 eL eL (J9 b.ar b.z b.cN hi (Bs s i) o2 a6) (by rw[cF eL,aW rfl];exact abo o2 c1);unfold Am.aJ;rw[hp];simp only;exact .mk b hi (u3 b hi hs o1 (by show(12:Int)≠0;decide)) w1 w2 rfl ⟨a1,⟨o1,rfl,o3,o4⟩,a3,a4,a5,a6,rfl⟩ (b.yq rfl (by rw[hp];rfl) _ _ _ _ _) (Lg.nt rfl) trivial
theorem NN{bb t cc:Int}(hp:s.pc i= .sE bb t cc):jA C p sz n M (Am.aJ C s i d) (cU S M (i:Int) D):=by
 obtain⟨w1,w2,w3⟩:=b.jT.wk i hi;rw[hp]at w3;obtain⟨a1,⟨o1,o2,o3,o4⟩,a3,a4,a5,a6,a7⟩:=w3;have P:=(b.dt.1 i hi).ph;unfold Am.rN at P;rw[hp]at P;simp only at P;have Q7:cc=Am.uA C (s.cur i):=P.2.trans (Am.ED b.z hi);have r1:=b.J4 (i:=i) (x:=bb) (by rw[hp];simp[Am.gP]);have hac:=Mc (x:=bb) b.ar b.z b.ok b.cN hi (Bs s i) o2 a6 (by rw[a7];exact Q7) (by rw[aW o1];exact a4.symm) r1;rw[a7]at hac;have hs:=λo' h=>pH o1 o2 eL eL hac (o':=o') (by rw[cF eL,aW rfl];exact h);have e:=Yz o2 (v:=s.mem (.el i (s.cur i) (Am.ix bb cc)));unfold Am.aJ;rw[hp];simp only;by_cases h1:t<bb
 ·rw[aW h1];rw[aW (by rw[a4,a5];exact h1)]at e;obtain⟨x,hx,he⟩:=(P.1.2.2.2.1 h1).2.2;rw[<-P.2]at he;have hn:fi (some (s.mem (.el i (s.cur i) (Am.ix bb cc))).toNat)=s.mem (.el i (s.cur i) (Am.ix bb cc)):=by rw[he];rfl
  exact .mk b hi (Pd b hi (hs _ e) o1 rfl rfl) w1 (by show s.mem _=fi (Am.dW s.hold i _ i);rw[Am.bK];exact hn.symm) rfl ⟨rfl,rfl⟩ (b.yq rfl (by rw[hp];rfl) _ _ _ _ _) (Lg.nt rfl) trivial (hh:=λj hj=>Am.bA hj)
 ·rw[cF h1];rw[cF (by rw[a4,a5];exact h1)]at e;exact .mk b hi (u3 b hi (hs _ e) o1 (by show(13:Int)≠0;decide)) w1 w2 rfl ⟨a1,⟨o1,rfl,o3,o4⟩,a3,a4,a5,rfl⟩ (b.yq rfl (by rw[hp];rfl) _ _ _ _ _) (Lg.nt rfl) trivial
theorem Qx{bb t x:Int}(hp:s.pc i= .uP bb t x):jA C p sz n M (Am.aJ C s i d) (cU S M (i:Int) D):=by
 obtain⟨w1,w2,w3⟩:=b.jT.wk i hi;rw[hp]at w3;obtain⟨a1,⟨o1,o2,o3,o4⟩,a3,a4,a5,a6⟩:=w3;have P:=(b.dt.1 i hi).ph;unfold Am.rN at P;rw[hp]at P;simp only at P;have r1:=b.J4 (i:=i) (x:=t) (by rw[hp];simp[Am.gP]);have hac:=Pb b.ar b.z b.cN hi o2 o3 (by rw[a5];exact r1);rw[a5]at hac;have hs:=pH o1 o2 eL eL hac (by rw[cF eL,aW rfl];exact YA o2);have htb:t<=(act S i).bl.b:=by rw[show(act S i).bl.b=bb from a4];omega
 unfold Am.aJ;rw[hp];simp only;by_cases h1:s.mem (.top i)=t
 ·rw[aW h1];rw[aW h1,aW h1]at hs;exact .mk b hi (u3 b hi hs o1 (by show(11:Int)≠0;decide)) w1 w2 rfl ⟨a1,⟨o1,rfl,o3,o4⟩,a3,a5,htb,a6,rfl⟩ (b.Aw (c:=.top i) rfl (by rw[hp];rfl) hi _ _ _ _ _) (by rw[show(s.mem (.top i)==t)=true by rw[h1];simp];exact Lg.nt rfl) trivial
 ·rw[cF h1];rw[cF h1,cF h1]at hs;exact .mk b hi (u3 b hi hs o1 (by show(11:Int)≠0;decide)) w1 w2 rfl ⟨a1,⟨o1,rfl,o3,o4⟩,a3,a5,htb,a6,rfl⟩ (b.yq rfl (by rw[hp];rfl) _ _ _ _ _) (by rw[show(s.mem (.top i)==t)=false by simpa using h1];exact Lg.nt rfl) trivial
theorem Qy{t x:Int}{AU:Bool}(hp:s.pc i= .tA t x AU):jA C p sz n M (Am.aJ C s i d) (cU S M (i:Int) D):=by
 obtain⟨w1,w2,w3⟩:=b.jT.wk i hi;rw[hp]at w3;obtain⟨a1,⟨o1,o2,o3,o4⟩,a3,a5,a8,a6,a7⟩:=w3;have P:=(b.dt.1 i hi).ph;unfold Am.rN at P;rw[hp]at P;simp only at P;have r1:=b.J4 (i:=i) (x:=t) (by rw[hp];simp[Am.gP]);have hac:=zL b.ar b.z b.cN hi o2 o3 (abk o1 a3 (by rw[a5];exact a8) (by rw[a5];omega));rw[a5]at hac;have e:=NL o2 (v:=0);rw[dN a3]at e;have hs:=λo' h=>pH o1 o2 eL eL hac (o':=o') (by rw[cF eL,aW rfl];exact h);unfold Am.aJ;rw[hp];simp only;cases AU with
 | true =>
  rw[aW a7]at e;have hx:=(P.2.2.2 rfl).2;have hn:fi (some x.toNat)=x:=by show((x.toNat:Nat):Int)=x;omega
  exact .mk b hi (Pd b hi (hs _ e) o1 rfl rfl) w1 (by show(act S i).bl.x=fi (Am.dW s.hold i _ i);rw[Am.bK,show(act S i).bl.x=x from a6];exact hn.symm) rfl ⟨rfl,rfl⟩ (b.Aw (c:=.bot i) rfl (by rw[hp];rfl) hi _ _ _ _ _) (Lg.nt rfl) trivial (hh:=λj hj=>Am.bA hj) (Qs:=λj hj=>Am.bA hj)
 | false =>
  rw[dN a7]at e;exact .mk b hi (pop_empty b hi (hs _ e) o1 rfl rfl) w1 w2 rfl (DG b hi rfl rfl (Am.bK _ _ _)) (b.Aw (c:=.bot i) rfl (by rw[hp];exact DH b hi rfl) hi _ _ _ _ _) (Lg.nt rfl) trivial (Qs:=λj hj=>Am.bA hj)
end
theorem Ti{x n:Int}(h1:1<=n)(h2:n<=1000):uX x n=some (x%n):=by
 have e1:=ER x (b:=n) aB;have e2:=ES x (show 0<n by omega);have e4:x.tmod n=if 0<=x∨n∣x then x%n else x%n-n:=by
  rw[Int.tmod_eq_emod];split
  ·omega
  ·rw[show((n.natAbs:Nat):Int)=n by omega]
 unfold uX;rw[eG,oU,e4];by_cases h:0<=x∨n∣x
 ·rw[aW h,eG]
 ·rw[cF h,oU,eF aB];congr 1;omega
def YE(C:Am.kT):bY:=⟨2+10*(C.F:Int),C.N,0,3,3,0,0,0,0,List.replicate 64 ⟨0,0⟩,⟨0,0,0,0,0,0,0,0,0,0,0,0,0,false,0,0⟩⟩
def DI(C:Am.kT)(k a:Int)(v:Nat)(x:Int):bV:=⟨k,a,Am.vJ C v,C.most,x,0,0,0,0,0,0,0,0,false,0,0⟩
section
variable {K:Nat}{C:Am.kT}{p:aM}{s:Am.St}{S:ag}{M M':af}{sz n i:Nat}{D:aQ}{d:Int}{o':bV}
variable (b:vL C p s S M sz n)(hi:i<C.N)
include b
theorem Bt(k a:Int)(v:Nat)(x:Int):n7 k a (Ma C v) x=some (DI C k a v x):=by
 have h1:=b.ok.c1;have h2:=b.ok.cm;have h3:=b.ok.m4;unfold n7 Ma;simp only;rw[eG,eG];rfl
theorem Vx:wC (⟨S.fq,S.cO⟩:fe)=some (YE C):=by
 have h1:=b.ok.n1;have h2:=b.ok.n64;unfold wC mP cC bJ;rw[b.jT.lb,b.jT.lw];simp only;rw[eG,eG,ay,eF (x:=2+(C.N:Int)) aB,eG];rfl
include hi
theorem BK(h1:fz M (act S i).bl=some (o',M'))(h2:o'.kind=3)(h3:o'.J≠0):cI S M (i:Int) D=some (B9 none,gG S i {act S i with bl:=o' },M'):=by
 unfold cI jN an;rw[u0 h1 (Mb (by rw[h2];decide) h3),gp,aW rfl];rfl
theorem Qz(h1:fz M (act S i).bl=some (o',M'))(h2:o'.kind=3)(h3:o'.J=0)(h4:o'.code=4){v:Nat}(hv:(act S i).fF=v) :
 cI S M (i:Int) D=some (B9 (Am.ev 8 o'.value v 0),gG S i {act S i with bl:=o',ax:=o'.value,from_:=(v:Int),aG:=0},M'):=by
 have hw:=b.wl hi;unfold cI jN an;rw[u0 h1 (NC (by rw[h2];decide) h3),gp,h4,cF eL,aW rfl,aW (by rw[jO];exact b.AA hi),dc];rw[show J (gG S i {act S i with bl:=o' }).ah i={act S i with bl:=o' }from nC hw];show some ((⟨0,0,8,o'.value,(act S i).fF,0⟩:ai),({S with ah:=(((S.ah.set i _).set i _).set i {act S i with bl:=o',ax:=o'.value,from_:=(act S i).fF}).set i {act S i with bl:=o',ax:=o'.value,from_:=(act S i).fF,aG:=0}}:ag),M')=_;rw[iG,iG,iG,hv];rfl
theorem G4(h1:fz M (act S i).bl=some (o',M'))(h2:o'.kind=3)(h3:o'.J=0)(h4:o'.code=5∨o'.code=6){t:Nat}(ht:(act S i).fZ=t/\t<3) :
 cI S M (i:Int) D=some (B9 none,gG S i {act S i with bl:=o',fZ:=(t:Int)+1,cL:=YE C,aG:=11},M'):=by
 have hw:=b.wl hi;have hpk:=Vx b;unfold cI jN an;have hc:(if o'.code=5 then some (o'.code==5)else some (o'.code==6))=some true:=by
  rcases h4 with h | h
  ·rw[aW h,h];rfl
  ·rw[dN h,h];rfl
 rw[u0 h1 (NC (by rw[h2];decide) h3),gp,cF (by rcases h4 with h | h<;>rw[h]<;>decide),cF (by rcases h4 with h | h<;>rw[h]<;>decide),hc,ay,aW rfl,aW (by rw[jO];exact b.AA hi),dc];rw[show J (gG S i {act S i with bl:=o' }).ah i={act S i with bl:=o' }from nC hw];show eY (wC (⟨S.fq,S.cO⟩:fe)) _=_;rw[hpk,ay];show some (_,({S with ah:=(((S.ah.set i _).set i _).set i _).set i {act S i with bl:=o',fZ:=wi ((act S i).fZ+1),cL:=YE C,aG:=11}}:ag),M')=_;rw[iG,iG,iG,ht.1,eF aB];rfl
theorem QA{v:Nat}{t:Int}(hp:s.pc i= .vH v t):jA C p sz n M (Am.aJ C s i d) (cI S M (i:Int) D):=by
 obtain⟨w1,w2,w3⟩:=b.jT.wk i hi;rw[hp]at w3;obtain⟨a1,a2,a3,⟨o1,o2,o3,o4⟩,a4⟩:=w3;have T:=b.dt.2 i hi;unfold Am.Th at T;rw[hp]at T;simp only at T;have hac:=FU b.ar b.z b.cN T.1 o2 o3;have hs:=λo' h=>pH o1 o2 eL eL hac (o':=o') (by rw[cF eL,cF eL,aW rfl];exact h);have e:=abq o2 (v:=s.mem (.bot v));unfold Am.aJ;rw[hp];simp only;by_cases h1:s.mem (.bot v)<=t
 ·rw[aW h1];rw[aW (by rw[a4];exact h1)]at e;exact .mk b hi (G4 b hi (hs _ e) o1 rfl (.inl rfl) a2) w1 w2 rfl ⟨rfl,by show(_:Int)=((Am.dW s.fZ i (s.fZ i+1) i:Nat):Int);rw[Am.bK];rfl,rfl,rfl,rfl,rfl⟩ (b.yq rfl (by rw[hp];rfl) _ _ _ _ _) (Lg.nt rfl) trivial (Qs:=λj hj=>Am.bA hj)
 ·rw[cF h1];rw[cF (by rw[a4];exact h1)]at e;exact .mk b hi (BK b hi (hs _ e) o1 (by show(3:Int)≠0;decide)) w1 w2 rfl ⟨a1,a2,a3,⟨o1,rfl,o3,o4⟩,a4⟩ (b.yq rfl (by rw[hp];rfl) _ _ _ _ _) (Lg.nt rfl) trivial
theorem Ml{v:Nat}{t:Int}(hp:s.pc i= .rI v t):jA C p sz n M (Am.aJ C s i d) (cI S M (i:Int) D):=by
 obtain⟨w1,w2,w3⟩:=b.jT.wk i hi;rw[hp]at w3;obtain⟨a1,a2,a3,⟨o1,o2,o3,o4⟩,a4⟩:=w3;have T:=b.dt.2 i hi;unfold Am.Th at T;rw[hp]at T;simp only at T;have hs:=pH o1 o2 eL eL (J8 b.ar b.z b.cN T.1 o2 o3) (by rw[cF eL,cF eL,aW rfl];exact abr o2);unfold Am.aJ;rw[hp];simp only;exact .mk b hi (BK b hi hs o1 (by show(4:Int)≠0;decide)) w1 w2 rfl ⟨a1,a2,a3,⟨o1,rfl,o3,o4⟩,a4,(b.dt.1 v T.1).EA⟩ (b.yq rfl (by rw[hp];rfl) _ _ _ _ _) (Lg.nt rfl) trivial
theorem Mm{v g:Nat}{t:Int}(hp:s.pc i= .qv v t g):jA C p sz n M (Am.aJ C s i d) (cI S M (i:Int) D):=by
 obtain⟨w1,w2,w3⟩:=b.jT.wk i hi;rw[hp]at w3;obtain⟨a1,a2,a3,⟨o1,o2,o3,o4⟩,a4,a5⟩:=w3;have T:=b.dt.2 i hi;unfold Am.Th at T;rw[hp]at T;simp only at T;have hg:=E1 T.2.2.2.1 (Bs s v);have h1:=(b.dt.1 v T.1).zG g T.2.2.2.1;have hs:=pH o1 o2 eL eL (J9 b.ar b.z b.cN T.1 hg o2 a5) (by rw[cF eL,cF eL,aW rfl];exact abt o2 h1);unfold Am.aJ;rw[hp];simp only;exact .mk b hi (BK b hi hs o1 (by show(12:Int)≠0;decide)) w1 w2 rfl ⟨a1,a2,a3,⟨o1,rfl,o3,o4⟩,a4,a5,rfl⟩ (b.yq rfl (by rw[hp];rfl) _ _ _ _ _) (Lg.nt rfl) trivial
theorem Ke{v g:Nat}{t cc:Int}(hp:s.pc i= .og v t g cc):jA C p sz n M (Am.aJ C s i d) (cI S M (i:Int) D):=by
 obtain⟨w1,w2,w3⟩:=b.jT.wk i hi;rw[hp]at w3;obtain⟨a1,a2,a3,⟨o1,o2,o3,o4⟩,a4,a5,a6⟩:=w3;have T:=b.dt.2 i hi;unfold Am.Th at T;rw[hp]at T;simp only at T;have hg:=E1 T.2.2.2.1 (Bs s v);have Q7:cc=Am.uA C g:=T.2.2.2.2.1.trans (b.z.cap v T.1 g T.2.2.2.1);have r1:=b.J4 (i:=i) (x:=t) (by rw[hp];simp[Am.gP]);have hac:=Mc (x:=t) b.ar b.z b.ok b.cN T.1 hg o2 a5 (by rw[a6];exact Q7) (by rw[dN o1];exact a4.symm) r1;rw[a6]at hac;have hs:=pH o1 o2 eL eL hac (by rw[cF eL,cF eL,aW rfl];exact YB o2);unfold Am.aJ;rw[hp];simp only;exact .mk b hi (BK b hi hs o1 (by show(13:Int)≠0;decide)) w1 w2 rfl ⟨a1,a2,a3,⟨o1,rfl,o3,o4⟩,a4,rfl⟩ (b.yq rfl (by rw[hp];rfl) _ _ _ _ _) (Lg.nt rfl) trivial
theorem Mn{v:Nat}{t x:Int}(hp:s.pc i= .pF v t x):jA C p sz n M (Am.aJ C s i d) (cI S M (i:Int) D):=by
 obtain⟨w1,w2,w3⟩:=b.jT.wk i hi;rw[hp]at w3;obtain⟨a1,a2,a3,⟨o1,o2,o3,o4⟩,a4,a5⟩:=w3;have T:=b.dt.2 i hi;unfold Am.Th at T;rw[hp]at T;simp only at T;have r1:=b.J4 (i:=i) (x:=t) (by rw[hp];simp[Am.gP]);have hac:=Pb b.ar b.z b.cN T.1 o2 o3 (by rw[a4];exact r1);rw[a4]at hac;have hs:=λo' h=>pH o1 o2 eL eL hac (o':=o') (by rw[cF eL,cF eL,aW rfl];exact h);have e:=YC o2 (v:=if s.mem (.top v)=t then 1 else 0);unfold Am.aJ;rw[hp];simp only;by_cases h1:s.mem (.top v)=t
 ·rw[aW h1]at e hs;rw[aW rfl]at e;rw[aW h1]at hs;rw[aW h1];obtain⟨y,l,hq,hx⟩:=T.2.2.2 h1.symm;have hn:fi (some x.toNat)=x:=by rw[hx];rfl
  have ha:=Qz b hi (D:=D) (hs _ e) o1 rfl rfl a3;simp only[a5]at ha;exact .mk b hi ha w1 (by show x=fi (Am.dW s.hold i _ i);rw[Am.bK];exact hn.symm) rfl ⟨rfl,rfl⟩ (b.Aw (c:=.top v) rfl (by rw[hp];rfl) T.1 _ _ _ _ _) (by rw[show(s.mem (.top v)==t)=true by rw[h1];simp];exact Lg.nt rfl) (by show(8:Nat)≠0;decide) (hh:=λj hj=>Am.bA hj)
 ·rw[cF h1]at e hs;rw[cF eL]at e;rw[cF h1]at hs;rw[cF h1];exact .mk b hi (G4 b hi (hs _ e) o1 rfl (.inr rfl) a2) w1 w2 rfl ⟨rfl,by show(_:Int)=((Am.dW s.fZ i (s.fZ i+1) i:Nat):Int);rw[Am.bK];rfl,rfl,rfl,rfl,rfl⟩ (b.yq rfl (by rw[hp];rfl) _ _ _ _ _) (by rw[show(s.mem (.top v)==t)=false by simpa using h1];exact Lg.nt rfl) trivial (Qs:=λj hj=>Am.bA hj)
end
theorem BL{C:Am.kT}{i j k:Nat}(hi:i<C.N)(h:ring C i j k):(k+1=C.N/\Am.LZ C j=i)∨(k+1<C.N/\Am.LZ C j≠i/\ring C i (Am.LZ C j) (k+1)):=by
 obtain⟨h1,h2,rfl⟩:=h;have e:Am.LZ C ((i+k)%C.N)=(i+(k+1))%C.N:=by unfold Am.LZ;rw[Nat.mod_add_mod,Nat.add_assoc]
 rw[e];by_cases hk:k+1=C.N
 ·left;exact⟨hk,by rw[hk,Nat.add_mod_right,F3 hi]⟩
 ·right
  refine⟨aB,λh => ?_,aB,aB,rfl⟩;rcases CV (i+(k+1)) C.N with h' | h'
  ·rw[F3 h']at h;omega
  ·rw[Nat.mod_eq_sub_mod h',F3 aB]at h;omega
theorem CN{C:Am.kT}{i:Nat}(hi:i<C.N):(C.N=1/\Am.LZ C i=i)∨(1<C.N/\Am.LZ C i≠i/\ring C i (Am.LZ C i) 1):=by
 unfold Am.LZ ring;by_cases h:C.N=1
 ·left;refine⟨h,?_⟩;rw[h,Nat.mod_one];omega
 ·right
  refine⟨aB,λh' => ?_,aB,aB,rfl⟩;rcases CV (i+1) C.N with e | e
  ·rw[F3 e]at h';omega
  ·rw[Nat.mod_eq_sub_mod e,F3 aB]at h';omega
theorem DJ{C:Am.kT}{i j k:Nat}(h:ring C i j k):j<C.N:=by obtain⟨h1,h2,rfl⟩:=h;exact Nat.mod_lt _ aB
section
variable {o o':bY}{M M':af}{v:Int}
theorem yU{k a:Int}(hk:o.dw=k)(ha:o.az=a)(XW:k≠0)(ha0:a≠0)(ha4:a≠4)(hx:cu o M=some (v,0,M'))
 (hn:(if k=1 then gj o v else if k=2 then iR o v else if k=3 then some {o with az:=0,ef:=if v=1 then 17 else 16,fo:=0}else ik o v)=some o'):eI M o=some (o',M'):=by
 subst hk;subst ha;unfold eI dO;rw[cF XW,cF ha0,eT,cF ha4,hx,dz,aW rfl];split at hn
 ·rename_i h;rw[aW h,hn,ay]
 ·rename_i h;rw[cF h];split at hn
  ·rename_i h;rw[aW h,hn,ay]
  ·rename_i h;rw[cF h];split at hn
   ·rename_i h;rw[aW h,ay];by_cases e:v=1
    ·rw[aW e];rw[aW e]at hn;cases hn;rfl
    ·rw[cF e];rw[cF e]at hn;cases hn;rfl
   ·rename_i h;rw[cF h,hn,ay]
theorem YF(ha:o.az=9){k:Int}(hk:wi (o.dm+1)=k):iR o v=if v=1 then some {o with az:=7}else if k=o.bZ then some {o with az:=0,dm:=k,ef:=19,fo:=0}else some {o with dm:=k}:=by
 unfold iR dO;rw[dN ha,aW ha,hk];rfl
theorem Pe(hk:o.dw≠0)(ha:o.az≠0):pz o=some (0,0):=by
 unfold pz;rw[cF hk,cF ha]
theorem Mp(hk:o.dw≠0)(ha:o.az=0):pz o=some (o.ef,o.fo):=by
 unfold pz;rw[cF hk,aW ha]
end
section
variable {C:Am.kT}{s:Am.St}{M:af}{sz n i:Nat}{o:bY}
theorem Pf(h:AR C s M sz n)(hz:Am.SZ C s){j:Nat}(hj:j<C.N)(hb:o.bQ=2+10*(C.F:Int)):mE o (j:Int)=some (Am.cG C s (.flag j)):=by
 have p:=h.Vm hz (a:=.flag j) hj;have e:Am.cG C s (.flag j)=2+10*(C.F:Int)+2+j:=by show(4:Int)+10*C.F+j=_;omega
 rw[e]at p;unfold mE;rw[hb,eF (x:=2+10*(C.F:Int)+2) aB,eF aB,e]
theorem YG(h:AR C s M sz n)(hz:Am.SZ C s)(hb:o.bQ=2+10*(C.F:Int)):wi (o.bQ+0)=Am.cG C s .tK:=by
 refine h.cast hz (a:=.tK) trivial ?_;rw[hb];show _=(2:Int)+10*C.F;omega
theorem abv(h:AR C s M sz n)(hz:Am.SZ C s)(hb:o.bQ=2+10*(C.F:Int)):wi (o.bQ+1)=Am.cG C s .Ex:=by
 refine h.cast hz (a:=.Ex) trivial ?_;rw[hb];show _=(3:Int)+10*C.F;omega
theorem Kf{j k:Nat}(hi:i<C.N)(hN:C.N<=64)(hw:o.bZ=C.N)(hs:o.gw=i)(hk:o.dm=k)(hr:ring C i j k):kz o=some (j:Int):=by
 obtain⟨h1,h2,rfl⟩:=hr;unfold kz;rw[hw,hs,hk,oU,eF aB]
 congr 1
theorem adO(h:AR C s M sz n)(hz:Am.SZ C s)(hn:n<=2000000000)(hi:i<C.N)(hb:o.bQ=2+10*(C.F:Int))(hs:o.gw=i)(ha:o.az=1):cu o M=some (0,0,nt M (M.cell.set (Am.cG C s (.flag i)).toNat 1) 1 (Am.cG C s (.flag i)) 1 0 true):=by
 unfold cu;rw[aW ha,hs,Pf h hz hi hb,ay,uZ h hz hn (a:=.flag i) hi,fh]
theorem adP(h:AR C s M sz n)(hz:Am.SZ C s)(hn:n<=2000000000)(hb:o.bQ=2+10*(C.F:Int))(ha:o.az=2)(hv:-1000000000000<=s.mem .tK/\s.mem .tK<=1000000000000):cu o M=some (s.mem .tK+1,0,nt M (M.cell.set (Am.cG C s .tK).toNat (s.mem .tK+1)) 3 (Am.cG C s .tK) 1 (s.mem .tK+1) true):=by
 unfold cu;rw[dN ha,aW ha,YG h hz hb,I2 h hz hn (a:=.tK) trivial (eF aB),dz]
theorem abw(h:AR C s M sz n)(hz:Am.SZ C s)(hn:n<=2000000000)(hb:o.bQ=2+10*(C.F:Int))(ha:o.az=3):cu o M=some (s.mem .Ex,0,nt M M.cell 0 (Am.cG C s .Ex) (s.mem .Ex) 0 true):=by
 unfold cu;rw[dN ha,dN ha,aW ha,abv h hz hb,yg h hz hn (a:=.Ex) trivial,dz]
theorem adQ(h:AR C s M sz n)(hz:Am.SZ C s)(hn:n<=2000000000)(hi:i<C.N)(hb:o.bQ=2+10*(C.F:Int))(hs:o.gw=i)(ha:o.az=5):cu o M=some (s.mem (.flag i),0,nt M M.cell 0 (Am.cG C s (.flag i)) (s.mem (.flag i)) 0 true):=by
 unfold cu;rw[dN ha,dN ha,dN ha,aW ha,hs,Pf h hz hi hb,ay,yg h hz hn (a:=.flag i) hi,dz]
theorem adR(h:AR C s M sz n)(hz:Am.SZ C s)(hn:n<=2000000000)(hi:i<C.N)(hb:o.bQ=2+10*(C.F:Int))(hs:o.gw=i)(ha:o.az=6):cu o M=some (if s.mem (.flag i)=1 then 1 else 0,0,nt M (if s.mem (.flag i)=1 then M.cell.set (Am.cG C s (.flag i)).toNat 0 else M.cell) 2 (Am.cG C s (.flag i)) 1 0 (s.mem (.flag i)==1)):=by
 unfold cu;rw[dN ha,dN ha,dN ha,dN ha,aW ha,hs,Pf h hz hi hb,ay,S4 h hz hn (a:=.flag i) hi,dz];by_cases e:s.mem (.flag i)=1
 ·rw[aW (by rw[e];rfl),aW e,aW e]
 ·rw[cF (by simpa using e),cF e,cF e]
theorem YH(h:AR C s M sz n)(hz:Am.SZ C s)(hn:n<=2000000000)(hb:o.bQ=2+10*(C.F:Int))(ha:o.az=7)(hv:-1000000000000<=s.mem .tK/\s.mem .tK<=1000000000000):cu o M=some (s.mem .tK-1,0,nt M (M.cell.set (Am.cG C s .tK).toNat (s.mem .tK-1)) 3 (Am.cG C s .tK) (-1) (s.mem .tK-1) true):=by
 unfold cu;rw[dN ha,dN ha,dN ha,dN ha,dN ha,aW ha,YG h hz hb,I2 h hz hn (a:=.tK) trivial (v:=s.mem .tK-1) (by rw[eF aB];omega),dz]
theorem adS(h:AR C s M sz n)(hz:Am.SZ C s)(hn:n<=2000000000)(hb:o.bQ=2+10*(C.F:Int))(ha:o.az=8):cu o M=some (s.mem .tK,0,nt M M.cell 0 (Am.cG C s .tK) (s.mem .tK) 0 true):=by
 unfold cu;rw[dN ha,dN ha,dN ha,dN ha,dN ha,dN ha,aW ha,YG h hz hb,yg h hz hn (a:=.tK) trivial,dz]
theorem abx{j:Nat}(h:AR C s M sz n)(hz:Am.SZ C s)(hn:n<=2000000000)(hb:o.bQ=2+10*(C.F:Int))(hj:j<C.N)(ho:kz o=some (j:Int))(ha:o.az=9):cu o M=some (if s.mem (.flag j)=1 then 1 else 0,0,nt M (if s.mem (.flag j)=1 then M.cell.set (Am.cG C s (.flag j)).toNat 0 else M.cell) 2 (Am.cG C s (.flag j)) 1 0 (s.mem (.flag j)==1)):=by
 unfold cu;rw[dN ha,dN ha,dN ha,dN ha,dN ha,dN ha,dN ha,aW ha,ho,ay,Pf h hz hj hb,ay,S4 h hz hn (a:=.flag j) hj,dz];by_cases e:s.mem (.flag j)=1
 ·rw[aW (by rw[e];rfl),aW e,aW e]
 ·rw[cF (by simpa using e),cF e,cF e]
theorem aby(h:AR C s M sz n)(hz:Am.SZ C s)(hn:n<=2000000000)(hb:o.bQ=2+10*(C.F:Int))(ha:o.az=10):cu o M=some (0,0,nt M (M.cell.set (Am.cG C s .Ex).toNat 1) 1 (Am.cG C s .Ex) 1 0 true):=by
 unfold cu;rw[dN ha,dN ha,dN ha,dN ha,dN ha,dN ha,dN ha,dN ha,abv h hz hb,uZ h hz hn (a:=.Ex) trivial,fh]
end
section
variable {K:Nat}{C:Am.kT}{p:aM}{s:Am.St}{S:ag}{M M':af}{sz n i:Nat}{D:aQ}{d:Int}{o':bY}
variable (b:vL C p s S M sz n)(hi:i<C.N)
include b hi
theorem G5(h1:eI M (act S i).cL=some (o',M'))(h2:o'.dw=2)(h3:o'.az≠0):eC S M (i:Int) D=some (B9 none,gG S i {act S i with cL:=o' },M'):=by
 unfold eC jN an;rw[xK h1 (Pe (by rw[h2];decide) h3),gp,aW rfl];rfl
theorem QB(h1:eI M (act S i).cL=some (o',M'))(h2:o'.dw=2)(h3:o'.az=0)(h4:o'.ef=18){f:Nat}(hf:(act S i).ax=f):eC S M (i:Int) D=some (B9 (Am.ev 3 f o'.fo 0),gG S i {act S i with cL:=o',aG:=1},M'):=by
 have hw:=b.wl hi;unfold eC jN an;rw[xK h1 (Mp (by rw[h2];decide) h3),gp,h4,cF eL,aW rfl,aW (by rw[jO];exact b.AA hi),dc];rw[show J (gG S i {act S i with cL:=o' }).ah i={act S i with cL:=o' }from nC hw];show some ((⟨0,0,3,(act S i).ax,o'.fo,0⟩:ai),({S with ah:=(S.ah.set i _).set i _}:ag),M')=_;rw[iG,hf];rfl
theorem I3(h1:eI M (act S i).cL=some (o',M'))(h2:o'.dw=2)(h3:o'.az=0)(h4:o'.ef=19):eC S M (i:Int) D=some (B9 none,gG S i {act S i with cL:=o',aG:=1},M'):=by
 have hw:=b.wl hi;unfold eC jN an;rw[xK h1 (Mp (by rw[h2];decide) h3),gp,h4,cF eL,cF eL,aW rfl,aW (by rw[jO];exact b.AA hi),dc];rw[show J (gG S i {act S i with cL:=o' }).ah i={act S i with cL:=o' }from nC hw];show some (_,({S with ah:=(S.ah.set i _).set i _}:ag),M')=_;rw[iG];rfl
theorem Vy(hp:s.pc i= .Ig):jA C p sz n M (Am.aJ C s i d) (eC S M (i:Int) D):=by
 obtain⟨w1,w2,w3⟩:=b.jT.wk i hi;rw[hp]at w3;obtain⟨a1,⟨l1,l2,l3,l4,l5,l6⟩⟩:=w3;have hs:=λo' h=>yU l4 l5 eL eL eL (adS b.ar b.z b.cN l1 l5) (o':=o') (by rw[cF eL,aW rfl];exact h);have hw:∀v,iR (act S i).cL v=if v<=0 then some {(act S i).cL with az:=0,ef:=19,fo:=0}else if(act S i).cL.bZ=1 then some {(act S i).cL with az:=0,ef:=19,fo:=0}else some {(act S i).cL with az:=9}:=λv=>by
  unfold iR dO;rw[aW l5];rfl
 have e:=hw (s.mem .tK);unfold Am.aJ;rw[hp];simp only;by_cases h0:0<s.mem .tK/\1<C.N
 ·rw[aW h0];rw[eG,cF (by rw[l2];omega)]at e;have hr:=(CN hi).resolve_left (λh=>aB);exact .mk b hi (G5 b hi (hs _ e) l4 (by show(9:Int)≠0;decide)) w1 w2 rfl ⟨a1,1,⟨l1,l2,l3,l4,rfl,l6⟩,hr.2.2⟩ (b.yq rfl (by rw[hp];rfl) _ _ _ _ _) (Lg.nt rfl) trivial
 ·rw[cF h0];have e:iR (act S i).cL (s.mem .tK)=some {(act S i).cL with az:=0,ef:=19,fo:=0}:=by
   rw[e];by_cases h1:s.mem .tK<=0
   ·rw[aW h1]
   ·rw[cF h1,aW (by rw[l2];have:=b.ok.n1;omega)]
  exact .mk b hi (I3 b hi (hs _ e) l4 rfl rfl) w1 w2 rfl rfl (b.yq rfl (by rw[hp];rfl) _ _ _ _ _) (Lg.nt rfl) trivial
theorem NO{j:Nat}(hp:s.pc i= .uj j):jA C p sz n M (Am.aJ C s i d) (eC S M (i:Int) D):=by
 obtain⟨w1,w2,w3⟩:=b.jT.wk i hi;rw[hp]at w3;obtain⟨a1,k,⟨l1,l2,l3,l4,l5,l6⟩,hr⟩:=w3;have hj:=DJ hr;have n64:=b.ok.n64;have hk:=hr.2.1;have hac:=abx b.ar b.z b.cN l1 hj (Kf hi n64 l2 l3 l6 hr) l5;have hs:=λo' h=>yU l4 l5 eL eL eL hac (o':=o') (by rw[cF eL,aW rfl];exact h);have hw:=λv=>YF (v:=v) l5 (k:=(k:Int)+1) (by rw[l6,eF aB]);unfold Am.aJ;rw[hp];simp only;by_cases h1:s.mem (.flag j)=1
 ·have e:=hw 1;rw[aW rfl]at e;rw[aW h1,aW h1]at hs;rw[aW h1];exact .mk b hi (G5 b hi (hs _ e) l4 (by show(7:Int)≠0;decide)) w1 w2 rfl ⟨a1,k,⟨l1,l2,l3,l4,rfl,l6⟩,hr⟩ (b.Aw (c:=.flag j) rfl (by rw[hp];rfl) hj _ _ _ _ _) (by rw[show(s.mem (.flag j)==1)=true by rw[h1];rfl];exact Lg.nt rfl) trivial
 ·have e:=hw 0;rw[cF eL]at e;rw[cF h1,cF h1]at hs;rw[cF h1];have hb:(s.mem (.flag j)==1)=false:=by simpa using h1
  rcases BL hi hr with ⟨e1,e2⟩ | ⟨e1,e2,e3⟩
  ·rw[aW (by rw[l2];omega)]at e;rw[aW e2];exact .mk b hi (I3 b hi (hs _ e) l4 rfl rfl) w1 w2 rfl rfl (b.yq rfl (by rw[hp];rfl) _ _ _ _ _) (by rw[hb];exact Lg.nt rfl) trivial
  ·rw[cF (by rw[l2];omega)]at e;rw[cF e2];exact .mk b hi (G5 b hi (hs _ e) l4 (by show(act S i).cL.az≠0;rw[show(act S i).cL.az=9 from l5];decide)) w1 w2 rfl ⟨a1,k+1,⟨l1,l2,l3,l4,l5,by show(k:Int)+1=((k+1:Nat):Int);omega⟩,e3⟩ (b.yq rfl (by rw[hp];rfl) _ _ _ _ _) (by rw[hb];exact Lg.nt rfl) trivial
theorem NP{j:Nat}(hp:s.pc i= .wc j):jA C p sz n M (Am.aJ C s i d) (eC S M (i:Int) D):=by
 obtain⟨w1,w2,w3⟩:=b.jT.wk i hi;rw[hp]at w3;obtain⟨a1,k,⟨l1,l2,l3,l4,l5,l6⟩,hr⟩:=w3;have n64:=b.ok.n64;obtain⟨f,hh⟩:=Am.uY b.fi hi (by rw[hp];rfl);have hac:=YH b.ar b.z b.cN l1 l5 (b.L8 rfl);have e:∀v,iR (act S i).cL v=some {(act S i).cL with az:=0,ef:=18,fo:=(j:Int)}:=λv=>by
  unfold iR dO;rw[dN l5,dN l5,aW l5,Kf hi n64 l2 l3 l6 hr];rfl
 have hs:=yU l4 l5 eL eL eL hac (by rw[cF eL,aW rfl];exact e _);unfold Am.aJ;rw[hp];simp only[hh,qH];exact .mk b hi (QB b hi hs l4 rfl rfl (f:=f) (by rw[show(act S i).ax=fi (s.hold i)from w2,hh];rfl)) w1 w2 rfl rfl (b.Aw (c:=.tK) rfl (by rw[hp];rfl) trivial _ _ _ _ _) (Lg.nt rfl) (by show(3:Nat)≠0;decide)
theorem DK(h1:eI M (act S i).cL=some (o',M'))(h2:o'.dw=4)(h3:o'.az≠0):fA S M (i:Int) D=some (B9 none,gG S i {act S i with cL:=o' },M'):=by
 unfold fA;rw[xK h1 (Pe (by rw[h2];decide) h3),gp,aW rfl];rfl
theorem G6(h1:eI M (act S i).cL=some (o',M'))(h2:o'.dw=4)(h3:o'.az=0)(h4:o'.ef=20):fA S M (i:Int) D=some (B9 (Am.ev 10 0 0 0),gG S i {act S i with cL:=o',aG:=13},M'):=by
 have hw:=b.wl hi;unfold fA kR;rw[xK h1 (Mp (by rw[h2];decide) h3),gp,h4,cF eL,aW rfl,aW (by rw[jO];exact b.AA hi),dc];rw[show J (gG S i {act S i with cL:=o' }).ah i={act S i with cL:=o' }from nC hw,fh];show some (_,({S with ah:=(S.ah.set i _).set i _}:ag),M')=_;rw[iG];rfl
theorem abz{o:bY}(ha:o.az=10)(v:Int):ik o v=if o.dm>=o.bZ then some {o with az:=0,ef:=20,fo:=0}else some {o with az:=9}:=by
 unfold ik dO;rw[aW ha,Oh];rfl
theorem adT{o:bY}(ha:o.az=9):ik o 1=some {o with az:=7}:=by
 unfold ik dO;rw[dN ha,aW ha,ay];rfl
theorem abA{o:bY}{v:Int}(h:(o.az=9/\v≠1)∨o.az=7){k:Int}(hk:wi (o.dm+1)=k):ik o v=if k>=o.bZ then some {o with az:=0,dm:=k,ef:=20,fo:=0}else some {o with az:=9,dm:=k}:=by
 have e:eY (if o.az=9 then some (v==1)else some false) (λg5=>if g5=true then some (Sum.inr {o with az:=7})else some (Sum.inl (wi (o.dm+1))))=some (.inl k):=by
  rw[<-hk];rcases h with ⟨h1,h2⟩ | h1
  ·rw[aW h1,ay,cF (by simpa using h2)]
  ·rw[dN h1,ay,cF eL]
 unfold ik dO;rw[cF (by rcases h with ⟨h1,_⟩ | h1<;>rw[h1]<;>decide),e,Oh];rfl
theorem Vz(hp:s.pc i= .done):jA C p sz n M (Am.aJ C s i d) (fA S M (i:Int) D):=by
 obtain⟨w1,w2,w3⟩:=b.jT.wk i hi;rw[hp]at w3;obtain⟨a1,⟨l1,l2,l3,l4,l5,l6⟩⟩:=w3;have hac:=aby b.ar b.z b.cN l1 l5;have hs:=λo' h=>yU l4 l5 eL eL eL hac (o':=o') (by rw[cF eL,cF eL,cF eL];exact h);have e:=abz b hi l5 0;unfold Am.aJ;rw[hp];simp only[Am.pG];rcases CN hi with ⟨e1,e2⟩ | ⟨e1,e2,e3⟩
 ·rw[aW (by rw[l6,l2];omega)]at e;rw[aW e2];exact .mk b hi (G6 b hi (hs _ e) l4 rfl rfl) w1 w2 rfl rfl (b.Aw (c:=.Ex) rfl (by rw[hp];rfl) trivial _ _ _ _ _) (Lg.nt rfl) (by show(10:Nat)≠0;decide)
 ·rw[cF (by rw[l6,l2];omega)]at e;rw[cF e2];exact .mk b hi (DK b hi (hs _ e) l4 (by show(9:Int)≠0;decide)) w1 w2 rfl ⟨a1,1,⟨l1,l2,l3,l4,rfl,l6⟩,e3⟩ (b.Aw (c:=.Ex) rfl (by rw[hp];rfl) trivial _ _ _ _ _) (Lg.nt rfl) trivial
theorem VA{j:Nat}(hp:s.pc i= .tell j):jA C p sz n M (Am.aJ C s i d) (fA S M (i:Int) D):=by
 obtain⟨w1,w2,w3⟩:=b.jT.wk i hi;rw[hp]at w3;obtain⟨a1,k,⟨l1,l2,l3,l4,l5,l6⟩,hr⟩:=w3;have hj:=DJ hr;have n64:=b.ok.n64;have hk:=hr.2.1;have hac:=abx b.ar b.z b.cN l1 hj (Kf hi n64 l2 l3 l6 hr) l5;have hs:=λo' h=>yU l4 l5 eL eL eL hac (o':=o') (by rw[cF eL,cF eL,cF eL];exact h);unfold Am.aJ;rw[hp];simp only[Am.pG];by_cases h1:s.mem (.flag j)=1
 ·have e:=adT b hi l5;rw[aW h1,aW h1]at hs;rw[aW h1];exact .mk b hi (DK b hi (hs _ e) l4 (by show(7:Int)≠0;decide)) w1 w2 rfl ⟨a1,k,⟨l1,l2,l3,l4,rfl,l6⟩,hr⟩ (b.Aw (c:=.flag j) rfl (by rw[hp];rfl) hj _ _ _ _ _) (by rw[show(s.mem (.flag j)==1)=true by rw[h1];rfl];exact Lg.nt rfl) trivial
 ·have e:=abA b hi (v:=0) (.inl ⟨l5,eL⟩) (k:=(k:Int)+1) (by rw[l6,eF aB]);rw[cF h1,cF h1]at hs;rw[cF h1];have hb:(s.mem (.flag j)==1)=false:=by simpa using h1
  rcases BL hi hr with ⟨e1,e2⟩ | ⟨e1,e2,e3⟩
  ·rw[aW (by rw[l2];omega)]at e;rw[aW e2];exact .mk b hi (G6 b hi (hs _ e) l4 rfl rfl) w1 w2 rfl rfl (b.yq rfl (by rw[hp];rfl) _ _ _ _ _) (by rw[hb];exact Lg.nt rfl) (by show(10:Nat)≠0;decide)
  ·rw[cF (by rw[l2];omega)]at e;rw[cF e2];exact .mk b hi (DK b hi (hs _ e) l4 (by show(9:Int)≠0;decide)) w1 w2 rfl ⟨a1,k+1,⟨l1,l2,l3,l4,rfl,by show(k:Int)+1=((k+1:Nat):Int);omega⟩,e3⟩ (b.yq rfl (by rw[hp];rfl) _ _ _ _ _) (by rw[hb];exact Lg.nt rfl) trivial
theorem NQ{j:Nat}(hp:s.pc i= .xJ j):jA C p sz n M (Am.aJ C s i d) (fA S M (i:Int) D):=by
 obtain⟨w1,w2,w3⟩:=b.jT.wk i hi;rw[hp]at w3;obtain⟨a1,k,⟨l1,l2,l3,l4,l5,l6⟩,hr⟩:=w3;have n64:=b.ok.n64;have hk:=hr.2.1;have hac:=YH b.ar b.z b.cN l1 l5 (b.L8 rfl);have hs:=λo' h=>yU l4 l5 eL eL eL hac (o':=o') (by rw[cF eL,cF eL,cF eL];exact h);have e:=abA b hi (v:=s.mem .tK-1) (.inr l5) (k:=(k:Int)+1) (by rw[l6,eF aB]);unfold Am.aJ;rw[hp];simp only[Am.pG];rcases BL hi hr with ⟨e1,e2⟩ | ⟨e1,e2,e3⟩
 ·rw[aW (by rw[l2];omega)]at e;rw[aW e2];exact .mk b hi (G6 b hi (hs _ e) l4 rfl rfl) w1 w2 rfl rfl (b.Aw (c:=.tK) rfl (by rw[hp];rfl) trivial _ _ _ _ _) (Lg.nt rfl) (by show(10:Nat)≠0;decide)
 ·rw[cF (by rw[l2];omega)]at e;rw[cF e2];exact .mk b hi (DK b hi (hs _ e) l4 (by show(9:Int)≠0;decide)) w1 w2 rfl ⟨a1,k+1,⟨l1,l2,l3,l4,rfl,by show(k:Int)+1=((k+1:Nat):Int);omega⟩,e3⟩ (b.Aw (c:=.tK) rfl (by rw[hp];rfl) trivial _ _ _ _ _) (Lg.nt rfl) trivial
end
theorem NR{α:Type}[Inhabited α]{N j:Nat}{g:Nat->α}(h:j<N):J ((List.range N).map g) j=g j:=by
 unfold J;rw[List.getD_eq_getElem?_getD,List.getElem?_map,List.getElem?_range h];rfl
theorem Pg{α:Type}[Inhabited α]{N j k:Nat}{l:List α}{y:α}(h:j<N):J (qz N l k y) j=if j=k then y else J l j:=NR h
theorem W3{α:Type}[Inhabited α]{N j:Nat}{ys l:List α}(h:j<N):J (C6 N ys l) j=if j<ys.length then J ys j else J l j:=NR h
theorem YI{α:Type}[Inhabited α]{lo m j:Nat}{l:List α}(h:j<m):J (yH l lo m) j=J l (lo+j):=NR h
def zDq:bV:=⟨0,0,0,0,0,0,0,0,0,0,0,0,0,false,0,0⟩
def QC(C:Am.kT)(i:Nat)(l:List cz):bY:=⟨2+10*(C.F:Int),C.N,i,1,1,0,0,0,0,l,zDq⟩
section
variable {K:Nat}{C:Am.kT}{p:aM}{s:Am.St}{S:ag}{M M':af}{sz n i:Nat}{D:aQ}{d:Int}{o':bY}
variable (b:vL C p s S M sz n)(hi:i<C.N)
include b
theorem Tj:∀(e k g:Nat) (l:List cz),g+e=C.N->e<k->(∀v,v<g->J l v=Ma C v)->
 ∃l',pB K (⟨S.fq,S.cO⟩:fe) (i:Int) S.dD k l (g:Int)=some (⟨S.fq,S.cO,i,1,1,0,0,0,0,l',zDq⟩:bY)/\∀v,v<C.N->J l' v=Ma C v
 | e,k,g,l,he,hk,hl=>by
  obtain⟨k,rfl⟩ :∃m,k=m+1:=⟨k-1,aB⟩;have n64:=b.ok.n64;have h1:=b.ok.c1;have h2:=b.ok.cm;have h3:=b.ok.m4;rw[pB,b.jT.dl];by_cases hg:g<C.N
  ·obtain⟨e,rfl⟩ :∃m,e=m+1:=⟨e-1,aB⟩;have hd:=b.jT.dq g hg;have ih:=Tj e k (g+1) (qz 64 l g (Ma C g)) aB aB (λv hv=>by
    rw[Pg aB];split
    ·next e=>rw[e]
    ·exact hl v aB)
   have hin:bI (g:Int) C.N:=⟨aB,aB⟩;have Tk:bI (g:Int) 64:=⟨aB,aB⟩;rw[oU,aW hin,dc,hd,CG aB];by_cases eg:(g:Int)=(i:Int)
   ·rw[aW eg,aW Tk];exact ih
   ·rw[cF eg,cF (by show ¬(C.most:Int)<1;omega),cF (by show ¬(C.most:Int)>4096;omega),aW Tk];exact ih
  ·rw[eG];exact⟨l,rfl,λv hv=>hl v aB⟩
include hi
theorem VB(hK:100<K) :∃l,uN K (⟨S.fq,S.cO⟩:fe) (i:Int) S.dD=some (QC C i l)/\∀v,v<C.N->J l v=Ma C v:=by
 have h1:=b.ok.n1;have h2:=b.ok.n64;obtain⟨l,e1,e2⟩:=Tj (K:=K) (i:=i) b C.N K 0 (List.replicate 64 ⟨0,0⟩) aB aB (λv hv=>aB);refine⟨l,?_,e2⟩;unfold uN mD mP;rw[cF (by show ¬S.cO<1;rw[b.jT.lw];omega),cF (by show ¬S.cO>64;rw[b.jT.lw];omega),ay,aW (by show wi (2+S.cO)>0;rw[b.jT.lw,eF aB];omega),oU,tR (by show(i:Int)<S.cO;rw[b.jT.lw];omega),ay,aW rfl,aW (by show((S.dD.length:Nat):Int)=S.cO;rw[b.jT.lw,b.jT.dl]),eT];rw[pT]at e1;rw[e1,b.jT.lb,b.jT.lw];rfl
theorem Tm(hK:100<K){S0:ag}{a:bD}(h0:S0=gG S i a)(ha:a.bp=i) :∃l,(∀M',oe K S0 M' (i:Int)=some (gG S i {a with cL:=QC C i l,parked:=false,aG:=12}))/\∀v,v<C.N->J l v=Ma C v:=by
 obtain⟨l,e1,e2⟩:=VB (K:=K) b hi hK;refine⟨l,λM' => ?_,e2⟩;subst h0;unfold oe jN an;rw[dc,show J (gG S i a).ah i=a from nC (b.wl hi)];show eY (uN K (⟨S.fq,S.cO⟩:fe) a.bp S.dD) _=_;rw[show uN K (⟨S.fq,S.cO⟩:fe) a.bp S.dD=some (QC C i l) by rw[ha];exact e1,ay];show some ({S with ah:=(((S.ah.set i _).set i _).set i _).set i _}:ag)=_;rw[iG,iG,iG];rfl
theorem QD(h1:eI M (act S i).cL=some (o',M'))(h2:o'.dw=3)(h3:o'.az=0)(h4:o'.ef=17):fB K S M (i:Int) D=some (B9 (Am.ev 10 0 0 0),gG S i {act S i with cL:=o',aG:=13},M'):=by
 have hw:=b.wl hi;unfold fB kR;rw[xK h1 (Mp (by rw[h2];decide) h3),gp,h4,aW rfl,aW (by rw[jO];exact b.AA hi),dc];rw[show J (gG S i {act S i with cL:=o' }).ah i={act S i with cL:=o' }from nC hw,fh];show some (_,({S with ah:=(S.ah.set i _).set i _}:ag),M')=_;rw[iG];rfl
theorem QE(h1:eI M (act S i).cL=some (o',M'))(h2:o'.dw=3)(h3:o'.az=0)(h4:o'.ef=16)(ht:(act S i).fZ<3):fB K S M (i:Int) D=some (B9 none,gG S i {act S i with cL:=o',aG:=9},M'):=by
 have hw:=b.wl hi;unfold fB;rw[xK h1 (Mp (by rw[h2];decide) h3),gp,h4,cF eL,aW rfl,aW (by rw[jO];exact b.AA hi),dc];rw[show J (gG S i {act S i with cL:=o' }).ah i={act S i with cL:=o' }from nC hw,aW ht];show some (_,({S with ah:=(S.ah.set i _).set i _}:ag),M')=_;rw[iG];rfl
theorem Tn(hK:100<K)(h1:eI M (act S i).cL=some (o',M'))(h2:o'.dw=3)(h3:o'.az=0)(h4:o'.ef=16)(ht:¬(act S i).fZ<3) :∃l,fB K S M (i:Int) D=some (B9 none,gG S i {act S i with cL:=QC C i l,parked:=false,aG:=12},M')/\∀v,v<C.N->J l v=Ma C v:=by
 have hw:=b.wl hi;obtain⟨l,e1,e2⟩:=Tm (K:=K) b hi hK (S0:=gG S i {act S i with cL:=o' }) rfl (b.jT.wk i hi).self;refine⟨l,?_,e2⟩;unfold fB;rw[xK h1 (Mp (by rw[h2];decide) h3),gp,h4,cF eL,aW rfl,aW (by rw[jO];exact b.AA hi),dc];rw[show J (gG S i {act S i with cL:=o' }).ah i={act S i with cL:=o' }from nC hw,cF ht,e1,ay];rfl
theorem VC(hK:100<K)(hp:s.pc i= .Ez):jA C p sz n M (Am.aJ C s i d) (fB K S M (i:Int) D):=by
 obtain⟨w1,w2,w3⟩:=b.jT.wk i hi;rw[hp]at w3;obtain⟨a1,a2,l4,l5,l1,l2⟩:=w3;have T:=b.dt.2 i hi;unfold Am.Th at T;rw[hp]at T;simp only at T;have hac:=abw b.ar b.z b.cN l1 l5;have hs:=yU l4 l5 eL eL eL hac (by rw[cF eL,cF eL,aW rfl]);unfold Am.aJ;rw[hp];simp only;by_cases h1:s.mem .Ex=1
 ·rw[aW h1];rw[aW h1]at hs;exact .mk b hi (QD b hi hs l4 rfl rfl) w1 w2 rfl rfl (b.yq rfl (by rw[hp];rfl) _ _ _ _ _) (Lg.nt rfl) (by show(10:Nat)≠0;decide)
 ·rw[cF h1];rw[cF h1]at hs;by_cases h2:s.fZ i<3
  ·rw[aW h2];exact .mk b hi (QE b hi hs l4 rfl rfl (by rw[show(act S i).fZ=s.fZ i from a2];omega)) w1 w2 rfl ⟨rfl,a2,h2⟩ (b.yq rfl (by rw[hp];rfl) _ _ _ _ _) (Lg.nt rfl) trivial
  ·rw[cF h2];obtain⟨l,e1,e2⟩:=Tn (D:=D) b hi hK hs l4 rfl rfl (by rw[show(act S i).fZ=s.fZ i from a2];omega);exact .mk b hi e1 w1 w2 rfl (.inr ⟨⟨rfl,⟨rfl,rfl,rfl,rfl,rfl,rfl⟩,e2⟩,rfl⟩) (b.yq rfl (by rw[hp];rfl) _ _ _ _ _) (Lg.nt rfl) trivial
section
variable {a:bD}
theorem zM:J (gG S i a).ah (i:Int).toNat=a:=by rw[dc];exact nC (b.wl hi)
theorem DL{c v:Int}(h1:eI M a.cL=some (o',M'))(h2:pz o'=some (c,v)):jz (gG S i a) M (i:Int)=some (c,v,gG S i {a with cL:=o' },M'):=by
 unfold jz jN an;rw[zM b hi,h1,fh];simp only;rw[h2,fh];show some (_,_,({S with ah:=(S.ah.set i a).set i {a with cL:=o' }}:ag),M')=_;rw[iG];rfl
theorem uo(h1:eI M a.cL=some (o',M'))(h2:o'.dw=1)(h3:o'.az≠0)(h4:o'.az≠5∨a.parked=true):bX (gG S i a) M (i:Int) D=some (B9 none,gG S i {a with cL:=o' },M'):=by
 unfold bX vp jN an;rw[DL b hi h1 (Pe (by rw[h2];decide) h3),gp,aW rfl,aW (by rw[jO];exact b.AA hi),zM b hi];simp only;rw[aW h2,ay];by_cases e:o'.az=5
 ·rw[aW (by rw[e];rfl),aW (h4.resolve_left (λh=>h e))];rfl
 ·rw[cF (by simpa using e)];rfl
theorem I4(h1:eI M a.cL=some (o',M'))(h2:o'.dw=1)(h3:o'.az=5)(h4:a.parked=false):bX (gG S i a) M (i:Int) D=some (B9 (Am.ev 9 0 0 0),gG S i {a with cL:=o',parked:=true},M'):=by
 unfold bX vp jN an;rw[DL b hi h1 (Pe (by rw[h2];decide) (by rw[h3];decide)),gp,aW rfl,aW (by rw[jO];exact b.AA hi),zM b hi];simp only;rw[aW h2,ay,aW (by rw[h3];rfl),dN h4,dc];show some (_,({S with ah:=(S.ah.set i _).set i _}:ag),M')=_;rw[iG];rfl
theorem CO(h1:eI M a.cL=some (o',M'))(h2:o'.dw=1)(h3:o'.az=0)(h4:o'.ef=16):bX (gG S i a) M (i:Int) D=some (B9 none,gG S i {a with cL:=o',fZ:=0,aG:=9},M'):=by
 unfold bX jN an;rw[DL b hi h1 (Mp (by rw[h2];decide) h3),gp,h4,cF eL,aW rfl,aW (by rw[jO];exact b.AA hi),zM b hi,dc];show some (_,({S with ah:=((S.ah.set i _).set i _).set i _}:ag),M')=_;rw[iG,iG];rfl
theorem I5(h1:eI M a.cL=some (o',M'))(h2:o'.dw=1)(h3:o'.az=0)(h4:o'.ef=17):bX (gG S i a) M (i:Int) D=some (B9 (Am.ev 10 0 0 0),gG S i {a with cL:=o',aG:=13},M'):=by
 unfold bX kR jN an;rw[DL b hi h1 (Mp (by rw[h2];decide) h3),gp,h4,cF eL,cF eL,aW rfl,aW (by rw[jO];exact b.AA hi),zM b hi,fh,dc];show some (_,({S with ah:=(S.ah.set i _).set i _}:ag),M')=_;rw[iG];rfl
end
theorem jS:gG S i (act S i)=S:=by
 have e:S.ah.set i (act S i)=S.ah:=by
  refine yu λk => ?_;rw[List.getElem?_set];have hw:=b.wl hi;by_cases h:i=k
  ·subst h;rw[aW rfl,aW hw];show _=_;rw[List.getElem?_eq_getElem hw];show some (J S.ah i)=_;unfold J;rw[List.getD_eq_getElem?_getD,List.getElem?_eq_getElem hw];rfl
  ·rw[cF h]
 show({S with ah:=S.ah.set i (act S i)}:ag)=S;rw[e]
end
section
variable {o o':bY}{M M':af}{v:Int}
theorem adU(ha:o.az=1):gj o v=some {o with az:=2}:=by unfold gj;rw[aW ha]
theorem adV(ha:o.az=2):gj o v=some {o with az:=3}:=by unfold gj;rw[dN ha,aW ha]
theorem adW(ha:o.az=3):gj o v=if v=1 then some {o with az:=6,jG:=17}else jq o:=by
 unfold gj oS;rw[dN ha,dN ha,aW ha];split
 ·rfl
 ·cases jq o<;>rfl
theorem adX(ha:o.az=5):gj o v=if v=1 then some o else some {o with az:=0,ef:=16,fo:=0}:=by
 unfold gj dO;rw[dN ha,dN ha,dN ha,aW ha];rfl
theorem abB(ha:o.az=6):gj o v=if v=1 then some {o with az:=7}else some {o with az:=0,ef:=o.jG,fo:=0}:=by
 unfold gj dO;rw[dN ha,dN ha,dN ha,dN ha,aW ha];rfl
theorem adY(ha:o.az=7):gj o v=some {o with az:=0,ef:=o.jG,fo:=0}:=by
 unfold gj dO;rw[dN ha,dN ha,dN ha,dN ha,dN ha,aW ha];rfl
theorem Kg(hk:o.dw=1)(ha:o.az=4)(hx:lf o M=some (o',M')):eI M o=some (o',M'):=by
 unfold eI;rw[dN hk,dN ha,eT,aW ha,hx,fh]
theorem To{l':bV}(h:fz M o.look=some (l',M'))(hk:l'.kind=4):lf o M=if l'.J=0 then(if l'.code=0 then some ({o with look:=l' },M')else if l'.code=7 then some ({o with look:=l',az:=6,jG:=16},M')else if l'.code=8 then eY (jq {o with look:=l' }) (λr=>some (r,M'))else some ({o with look:=l',az:=0,ef:=1,fo:=0},M'))else some ({o with look:=l' },M'):=by
 unfold lf oS dO;rw[h,fh];by_cases e:l'.J=0
 ·rw[NC (by rw[hk];decide) e,aW e,fh];rfl
 ·rw[Mb (by rw[hk];decide) e,cF e,fh,aW rfl]
theorem adZ{l:bV}(ha:l.J=2):lP l v=some {l with J:=1,t:=v}:=by unfold lP;rw[aW ha]
theorem ad0{l:bV}(ha:l.J=1):lP l v=if l.t<v then some {l with J:=0,code:=7,value:=0}else some {l with J:=0,code:=8,value:=0}:=by
 unfold lP eH;rw[dN ha];rfl
end
section
variable {K:Nat}{C:Am.kT}{p:aM}{s:Am.St}{S:ag}{M M':af}{sz n i:Nat}{D:aQ}{d:Int}{o:bY}
variable (b:vL C p s S M sz n)(hi:i<C.N)
include b hi
theorem Ph{k:Nat}(hw:o.bZ=C.N)(hk:o.dm=k)(h:k+1=C.N):jq o=some {o with az:=5,dm:=(k:Int)+1}:=by
 have n64:=b.ok.n64;have e:wi (o.dm+1)=(k:Int)+1:=by rw[hk,eF aB]
 unfold jq;rw[e,aW (by rw[hw];omega)]
theorem Pj{k j:Nat}(hw:o.bZ=C.N)(hs:o.gw=i)(hk:o.dm=k)(hd:∀v,v<C.N->J o.dD v=Ma C v)(h:ring C i j (k+1)):jq o=some {o with az:=4,dm:=(k:Int)+1,look:=DI C 4 2 j 0}:=by
 have n64:=b.ok.n64;have hj:=DJ h;have hlt:=h.2.1;have e:wi (o.dm+1)=(k:Int)+1:=by rw[hk,eF aB]
 have ho:kz {o with az:=4,dm:=(k:Int)+1}=some (j:Int):=Kf (k:=k+1) hi n64 hw hs (by show(k:Int)+1=((k+1:Nat):Int);omega) h;unfold jq zA;rw[e,cF (by rw[hw];omega),ho,ay,aW ⟨aB,aB⟩,dc,hd j hj,Bt b,ay];rfl
theorem I6{a:bD}(hr:RO C i 1 0 a)(hpk:a.parked=false):bX (gG S i a) M (i:Int) D=some (B9 none,gG S i {a with cL:={a.cL with az:=2}},nt M (M.cell.set (Am.cG C s (.flag i)).toNat 1) 1 (Am.cG C s (.flag i)) 1 0 true):=by
 obtain⟨a1,⟨l1,l2,l3,l4,l5,l6⟩,a2⟩:=hr;exact uo b hi (yU l4 l5 eL eL eL (adO b.ar b.z b.cN hi l1 l3 l5) (by rw[aW rfl];exact adU l5)) l4 (by show(2:Int)≠0;decide) (.inl (by show(2:Int)≠5;decide))
theorem VD(hp:s.pc i= .flag)(hr:RO C i 1 0 (act S i)/\(act S i).parked=false):jA C p sz n M (Am.aJ C s i d) (bX S M (i:Int) D):=by
 obtain⟨w1,w2,w3⟩:=b.jT.wk i hi;have h:=I6 (D:=D) b hi hr.1 hr.2;rw[jS b hi]at h;obtain⟨⟨a1,⟨l1,l2,l3,l4,l5,l6⟩,a2⟩,a3⟩:=hr;unfold Am.aJ;rw[hp];simp only;exact .mk b hi h w1 w2 rfl ⟨⟨a1,⟨l1,l2,l3,l4,rfl,l6⟩,a2⟩,a3⟩ (b.Aw (c:=.flag i) rfl (by rw[hp];rfl) hi _ _ _ _ _) (Lg.nt rfl) trivial
theorem Tp(hp:s.pc i= .sleep):jA C p sz n M (Am.aJ C s i d) (bX S M (i:Int) D):=by
 obtain⟨w1,w2,w3⟩:=b.jT.wk i hi;rw[hp]at w3;obtain⟨⟨a1,⟨l1,l2,l3,l4,l5,l6⟩,a2⟩,a3⟩:=w3;have hs:=λo' h=>yU l4 l5 eL eL eL (adP b.ar b.z b.cN l1 l5 (b.L8 rfl)) (o':=o') (by rw[aW rfl];exact h);have h:=uo (D:=D) b hi (a:=act S i) (hs _ (adV l5)) l4 (by show(3:Int)≠0;decide) (.inl (by show(3:Int)≠5;decide));rw[jS b hi]at h;unfold Am.aJ;rw[hp];simp only;exact .mk b hi h w1 w2 rfl ⟨⟨a1,⟨l1,l2,l3,l4,rfl,l6⟩,a2⟩,a3⟩ (b.Aw (c:=.tK) rfl (by rw[hp];rfl) trivial _ _ _ _ _) (Lg.nt rfl) trivial
theorem Mq(hp:s.pc i= .vr):jA C p sz n M (Am.aJ C s i d) (bX S M (i:Int) D):=by
 obtain⟨w1,w2,w3⟩:=b.jT.wk i hi;rw[hp]at w3;obtain⟨⟨a1,⟨l1,l2,l3,l4,l5,l6⟩,a2⟩,a3⟩:=w3;have hs:=λo' h=>yU l4 l5 eL eL eL (abw b.ar b.z b.cN l1 l5) (o':=o') (by rw[aW rfl];exact h);have e:=adW l5 (v:=s.mem .Ex);unfold Am.aJ;rw[hp];simp only[Am.looking];by_cases h1:s.mem .Ex=1
 ·rw[aW h1]at e;rw[aW h1];have h:=uo (D:=D) b hi (a:=act S i) (hs _ e) l4 (by show(6:Int)≠0;decide) (.inl (by show(6:Int)≠5;decide));rw[jS b hi]at h;exact .mk b hi h w1 w2 rfl ⟨a3,0,⟨a1,⟨l1,l2,l3,l4,rfl,l6⟩,a2⟩,rfl⟩ (b.yq rfl (by rw[hp];rfl) _ _ _ _ _) (Lg.nt rfl) trivial
 ·rw[cF h1]at e;rw[cF h1];rcases CN hi with ⟨e1,e2⟩ | ⟨e1,e2,e3⟩
  ·rw[Ph b hi l2 (k:=0) l6 aB]at e;rw[aW e2];have h:=I4 (D:=D) b hi (a:=act S i) (hs _ e) l4 rfl a3;rw[jS b hi]at h;exact .mk b hi h w1 w2 rfl ⟨rfl,_,a1,⟨l1,l2,l3,l4,rfl,rfl⟩,a2⟩ (b.yq rfl (by rw[hp];rfl) _ _ _ _ _) (Lg.nt rfl) (by show(9:Nat)≠0;decide)
  ·rw[Pj b hi l2 l3 (k:=0) l6 a2 e3]at e;rw[cF e2];have h:=uo (D:=D) b hi (a:=act S i) (hs _ e) l4 (by show(4:Int)≠0;decide) (.inl (by show(4:Int)≠5;decide));rw[jS b hi]at h;exact .mk b hi h w1 w2 rfl ⟨a3,1,⟨a1,⟨l1,l2,l3,l4,rfl,rfl⟩,a2⟩,e3,rfl,rfl,rfl,rfl⟩ (b.yq rfl (by rw[hp];rfl) _ _ _ _ _) (Lg.nt rfl) trivial
theorem Tq{j:Nat}(hp:s.pc i= .EX j):jA C p sz n M (Am.aJ C s i d) (bX S M (i:Int) D):=by
 obtain⟨w1,w2,w3⟩:=b.jT.wk i hi;rw[hp]at w3;obtain⟨a3,k,⟨a1,⟨l1,l2,l3,l4,l5,l6⟩,a2⟩,hr,o1,o2,o3,o4⟩:=w3;have hj:=DJ hr;have hd:=pH o1 o2 eL eL (FV b.ar b.z b.cN hj o2 o3) (by rw[cF eL,cF eL,cF eL];exact adZ o2);have hl:=To hd o1;rw[cF (by show ¬(1:Int)=0;decide)]at hl;have h:=uo (D:=D) b hi (a:=act S i) (Kg l4 l5 hl) l4 (by show(act S i).cL.az≠0;rw[show(act S i).cL.az=4 from l5];decide) (.inl (by show(act S i).cL.az≠5;rw[show(act S i).cL.az=4 from l5];decide));rw[jS b hi]at h;unfold Am.aJ;rw[hp];simp only;exact .mk b hi h w1 w2 rfl ⟨a3,k,⟨a1,⟨l1,l2,l3,l4,l5,l6⟩,a2⟩,hr,⟨o1,rfl,o3,o4⟩,rfl⟩ (b.yq rfl (by rw[hp];rfl) _ _ _ _ _) (Lg.nt rfl) trivial
theorem Ts{j:Nat}{t:Int}(hp:s.pc i= .DA j t):jA C p sz n M (Am.aJ C s i d) (bX S M (i:Int) D):=by
 obtain⟨w1,w2,w3⟩:=b.jT.wk i hi;rw[hp]at w3;obtain⟨a3,k,⟨a1,⟨l1,l2,l3,l4,l5,l6⟩,a2⟩,hr,⟨o1,o2,o3,o4⟩,o5⟩:=w3;have hj:=DJ hr;have e:=ad0 o2 (v:=s.mem (.bot j));have hd:=λl' h=>pH o1 o2 eL eL (FU b.ar b.z b.cN hj o2 o3) (o':=l') (by rw[cF eL,cF eL,cF eL];exact h);unfold Am.aJ;rw[hp];simp only[Am.looking];by_cases h1:t<s.mem (.bot j)
 ·rw[aW (by rw[o5];exact h1)]at e;rw[aW h1];have hl:=To (hd _ e) o1;rw[aW rfl,cF (by show ¬(7:Int)=0;decide),aW rfl]at hl;have h:=uo (D:=D) b hi (a:=act S i) (Kg l4 l5 hl) l4 (by show(6:Int)≠0;decide) (.inl (by show(6:Int)≠5;decide));rw[jS b hi]at h;exact .mk b hi h w1 w2 rfl ⟨a3,k,⟨a1,⟨l1,l2,l3,l4,rfl,l6⟩,a2⟩,rfl⟩ (b.yq rfl (by rw[hp];rfl) _ _ _ _ _) (Lg.nt rfl) trivial
 ·rw[cF (by rw[o5];exact h1)]at e;rw[cF h1];have hl:=To (hd _ e) o1;rw[aW rfl,cF (by show ¬(8:Int)=0;decide),cF (by show ¬(8:Int)=7;decide),aW rfl]at hl;rcases BL hi hr with ⟨e1,e2⟩ | ⟨e1,e2,e3⟩
  ·rw[Ph b hi (o:={(act S i).cL with look:={(act S i).cL.look with J:=0,code:=8,value:=0}}) l2 (k:=k) l6 e1,ay]at hl;rw[aW e2];have h:=I4 (D:=D) b hi (a:=act S i) (Kg l4 l5 hl) l4 rfl a3;rw[jS b hi]at h;exact .mk b hi h w1 w2 rfl ⟨rfl,_,a1,⟨l1,l2,l3,l4,rfl,rfl⟩,a2⟩ (b.yq rfl (by rw[hp];rfl) _ _ _ _ _) (Lg.nt rfl) (by show(9:Nat)≠0;decide)
  ·rw[Pj b hi (o:={(act S i).cL with look:={(act S i).cL.look with J:=0,code:=8,value:=0}}) l2 l3 (k:=k) l6 a2 e3,ay]at hl;rw[cF e2];have h:=uo (D:=D) b hi (a:=act S i) (Kg l4 l5 hl) l4 (by show(4:Int)≠0;decide) (.inl (by show(4:Int)≠5;decide));rw[jS b hi]at h;exact .mk b hi h w1 w2 rfl ⟨a3,k+1,⟨a1,⟨l1,l2,l3,l4,rfl,by show(k:Int)+1=((k+1:Nat):Int);omega⟩,a2⟩,e3,rfl,rfl,rfl,rfl⟩ (b.yq rfl (by rw[hp];rfl) _ _ _ _ _) (Lg.nt rfl) trivial
theorem QF(hp:s.pc i= .parked):jA C p sz n M (Am.aJ C s i d) (bX S M (i:Int) D):=by
 obtain⟨w1,w2,w3⟩:=b.jT.wk i hi;rw[hp]at w3;obtain⟨a3,k,a1,⟨l1,l2,l3,l4,l5,l6⟩,a2⟩:=w3;have hs:=λo' h=>yU l4 l5 eL eL eL (adQ b.ar b.z b.cN hi l1 l3 l5) (o':=o') (by rw[aW rfl];exact h);have e:=adX l5 (v:=s.mem (.flag i));unfold Am.aJ;rw[hp];simp only;by_cases h1:s.mem (.flag i)=1
 ·rw[aW h1]at e;rw[aW h1];have h:=uo (D:=D) b hi (a:=act S i) (hs _ e) l4 (by rw[show(act S i).cL.az=5 from l5];decide) (.inr a3);rw[jS b hi]at h;exact .mk (a:=act S i) b hi (by rw[jS b hi];exact h) w1 w2 (q:=.parked) (by show s.pc=_;rw[<-hp,Am.qw]) ⟨a3,k,a1,⟨l1,l2,l3,l4,l5,l6⟩,a2⟩ (b.ar.same rfl rfl rfl rfl _ _ _ _ _) (Lg.nt rfl) trivial
 ·rw[cF h1]at e;rw[cF h1];have h:=CO (D:=D) b hi (a:=act S i) (hs _ e) l4 rfl rfl;rw[jS b hi]at h;exact .mk b hi h w1 w2 rfl (DG b hi rfl rfl (Am.bK _ _ _)) (b.yq rfl (by rw[hp];exact DH b hi rfl) _ _ _ _ _) (Lg.nt rfl) trivial (Qs:=λj hj=>Am.bA hj)
theorem VE{w:Bool}(hp:s.pc i= .back w):jA C p sz n M (Am.aJ C s i d) (bX S M (i:Int) D):=by
 obtain⟨w1,w2,w3⟩:=b.jT.wk i hi;rw[hp]at w3;obtain⟨a3,k,⟨a1,⟨l1,l2,l3,l4,l5,l6⟩,a2⟩,a4⟩:=w3;have hs:=λo' h=>yU l4 l5 eL eL eL (adR b.ar b.z b.cN hi l1 l3 l5) (o':=o') (by rw[aW rfl];exact h);unfold Am.aJ;rw[hp];simp only[Am.DB];by_cases h1:s.mem (.flag i)=1
 ·have e:=abB l5 (v:=1);rw[aW rfl]at e;rw[aW h1,aW h1]at hs;rw[aW h1];have h:=uo (D:=D) b hi (a:=act S i) (hs _ e) l4 (by show(7:Int)≠0;decide) (.inl (by show(7:Int)≠5;decide));rw[jS b hi]at h;exact .mk b hi h w1 w2 rfl ⟨a3,k,⟨a1,⟨l1,l2,l3,l4,rfl,l6⟩,a2⟩,a4⟩ (b.Aw (c:=.flag i) rfl (by rw[hp];rfl) hi _ _ _ _ _) (by rw[show(s.mem (.flag i)==1)=true by rw[h1];rfl];exact Lg.nt rfl) trivial
 ·have e:=abB l5 (v:=0);rw[cF eL]at e;rw[cF h1,cF h1]at hs;rw[cF h1];have hb:(s.mem (.flag i)==1)=false:=by simpa using h1
  cases w with
  | true =>
   have h:=I5 (D:=D) b hi (a:=act S i) (hs _ e) l4 rfl a4;rw[jS b hi]at h;exact .mk b hi h w1 w2 rfl rfl (b.yq rfl (by rw[hp];rfl) _ _ _ _ _) (by rw[hb];exact Lg.nt rfl) (by show(10:Nat)≠0;decide)
  | false =>
   have h:=CO (D:=D) b hi (a:=act S i) (hs _ e) l4 rfl a4;rw[jS b hi]at h;exact .mk b hi h w1 w2 rfl (DG b hi rfl rfl (Am.bK _ _ _)) (b.yq rfl (by rw[hp];exact DH b hi rfl) _ _ _ _ _) (by rw[hb];exact Lg.nt rfl) trivial (Qs:=λj hj=>Am.bA hj)
theorem NS{w:Bool}(hp:s.pc i= .we w):jA C p sz n M (Am.aJ C s i d) (bX S M (i:Int) D):=by
 obtain⟨w1,w2,w3⟩:=b.jT.wk i hi;rw[hp]at w3;obtain⟨a3,k,⟨a1,⟨l1,l2,l3,l4,l5,l6⟩,a2⟩,a4⟩:=w3;have hs:=yU l4 l5 eL eL eL (YH b.ar b.z b.cN l1 l5 (b.L8 rfl)) (by rw[aW rfl];exact adY l5);unfold Am.aJ;rw[hp];simp only[Am.DB];cases w with
 | true =>
  have h:=I5 (D:=D) b hi (a:=act S i) hs l4 rfl a4;rw[jS b hi]at h;exact .mk b hi h w1 w2 rfl rfl (b.Aw (c:=.tK) rfl (by rw[hp];rfl) trivial _ _ _ _ _) (Lg.nt rfl) (by show(10:Nat)≠0;decide)
 | false =>
  have h:=CO (D:=D) b hi (a:=act S i) hs l4 rfl a4;rw[jS b hi]at h;exact .mk b hi h w1 w2 rfl (DG b hi rfl rfl (Am.bK _ _ _)) (b.Aw (c:=.tK) rfl (by rw[hp];exact DH b hi rfl) trivial _ _ _ _ _) (Lg.nt rfl) trivial (Qs:=λj hj=>Am.bA hj)
def Mr(C:Am.kT)(p:aM)(sz n:Nat)(M:af)(D':aQ)(o:Am.Out)(r:Option (ai×ag×af×aQ)):Prop:=
 ∃S' M',r=some (B9 o.ev,S',M',D')/\S5 C p o.s S'/\AR C o.s M' sz (n+1)/\Lg C o.s M M' o.acc/\Tc o.ev
theorem jA.draw{o:Am.Out}{r:Option (ai×ag×af)}{r':Option (ai×ag×af×aQ)}(h:jA C p sz n M o r)(hr:r'=pM r (λa b c=>some (a,b,c,D))):Mr C p sz n M D o r':=by
 obtain⟨S',M',rfl,h⟩:=h;exact⟨S',M',by rw[hr,dz],h⟩
theorem Tt(hK:100<K)(hp:s.pc i= .flag)(h9:(act S i).aG=9/\C.N=1):Mr C p sz n M D (Am.aJ C s i d) (fW K S M (i:Int) D):=by
 obtain⟨w1,w2,w3⟩:=b.jT.wk i hi;obtain⟨l,e1,e2⟩:=Tm (K:=K) b hi hK (S0:=S) (a:=act S i) (jS b hi).symm w1;have hr:RO C i 1 0 {act S i with cL:=QC C i l,parked:=false,aG:=12}:=⟨rfl,⟨rfl,rfl,rfl,rfl,rfl,rfl⟩,e2⟩;have h:=I6 (D:=D) b hi hr rfl;have hg:fW K S M (i:Int) D=pM (bX (gG S i {act S i with cL:=QC C i l,parked:=false,aG:=12}) M (i:Int) D) (λa b c=>some (a,b,c,D)):=by
  unfold fW lH jN an;rw[ay,aW (by rw[b.jT.wl];omega),e1 M,ay,aW (by rw[jO];exact b.AA hi)]
 refine jA.draw b hi ?_ hg;unfold Am.aJ;rw[hp];simp only;exact .mk b hi h w1 w2 rfl ⟨⟨rfl,⟨rfl,rfl,rfl,rfl,rfl,rfl⟩,e2⟩,rfl⟩ (b.Aw (c:=.flag i) rfl (by rw[hp];rfl) hi _ _ _ _ _) (Lg.nt rfl) trivial
theorem QG(hp:s.pc i= .rm):Mr C p sz n M (Hy D) (Am.aJ C s i (Cz D)) (fW K S M (i:Int) D):=by
 obtain⟨w1,w2,w3⟩:=b.jT.wk i hi;rw[hp]at w3;obtain⟨a1,a2,a3⟩:=w3;have T:=b.dt.2 i hi;unfold Am.Th at T;rw[hp]at T;simp only at T;have n1:=b.ok.n1;have n64:=b.ok.n64;obtain⟨v,hv⟩ :∃v,v=(i+1+(Cz D%((C.N:Int)-1)).toNat)%C.N:=⟨_,rfl⟩;have hvN:v<C.N:=by rw[hv];exact Nat.mod_lt _ aB
 have m0:=ER (Cz D) (b:=(C.N:Int)-1) aB;have m1:=ES (Cz D) (show 0<(C.N:Int)-1 by omega);have ad1:((i:Int)+1+Cz D%((C.N:Int)-1))%(C.N:Int)=(v:Int):=by
  rw[hv];have:(i:Int)+1+Cz D%((C.N:Int)-1)=((i+1+(Cz D%((C.N:Int)-1)).toNat:Nat):Int):=by omega
  rw[this];rfl
 have hlen:=b.jT.wl;have hs:=pH (o:=DI C 3 2 v 0) (M:=M) (k:=3) (a:=2) rfl rfl eL eL (FV b.ar b.z b.cN hvN rfl rfl) (by rw[cF eL,cF eL,aW rfl];exact abp rfl);have hact:act (gG S i {act S i with fF:=(v:Int),bl:=DI C 3 2 v 0,aG:=10}) i={act S i with fF:=(v:Int),bl:=DI C 3 2 v 0,aG:=10}:=nC (b.wl hi);have hst:cI (gG S i {act S i with fF:=(v:Int),bl:=DI C 3 2 v 0,aG:=10}) M (i:Int) (Hy D)=some (B9 none,gG S i {act S i with fF:=(v:Int),bl:={DI C 3 2 v 0 with J:=1,t:=s.mem (.top v)},aG:=10},nt M M.cell 0 (Am.cG C s (.top v)) (s.mem (.top v)) 0 true):=by
  unfold cI jN an;rw[u0 (by rw[hact];exact hs) (Mb (by show(3:Int)≠0;decide) (by show(1:Int)≠0;decide)),gp,aW rfl,hact,Mf];rfl
 have hg:fW K S M (i:Int) D=pM (cI (gG S i {act S i with fF:=(v:Int),bl:=DI C 3 2 v 0,aG:=10}) M (i:Int) (Hy D)) (λa b c=>some (a,b,c,Hy D)):=by
  unfold fW lH jN an;rw[ay,cF (by rw[hlen];omega),ay,hlen,eF (x:=(C.N:Int)-1) aB,Ti aB aB,ay,ay,dc,show(J S.ah i).bp=i from w1,eF (x:=(i:Int)+1) aB,eF (x:=(i:Int)+1+_) aB,Ti aB aB,ay,ad1];rw[aW (by show bI (v:Int) S.dD.length;exact⟨aB,by rw[b.jT.dl];omega⟩)];unfold xH;rw[show J S.dD (v:Int).toNat=Ma C v by rw[dc];exact b.jT.dq v hvN,Bt b,ay,ay,iG,iG];rfl
 refine jA.draw b hi ?_ hg;unfold Am.aJ;rw[hp];simp only;rw[<-hv];exact .mk b hi hst w1 w2 rfl ⟨rfl,⟨a2,a3⟩,rfl,⟨rfl,rfl,rfl,rfl⟩,rfl⟩ (b.yq rfl (by rw[hp];rfl) _ _ _ _ _) (Lg.nt rfl) trivial
end
def jQ(C:Am.kT)(k:Int)(f:Nat)(sl:Nat)(v:Int):cy:=⟨1,C.F,f,1,0,0,k,sl,v⟩
section
variable {C:Am.kT}{s:Am.St}{M M':af}{sz n:Nat}{o o':cy}{f:Nat}
theorem Ms(h:AR C s M sz n)(hz:Am.SZ C s)(hf:f<C.F){t:bg}(hb:t.kE=1):gL t (f:Int)=some (Am.cG C s (.join f)):=by
 have p:=h.Vm hz (a:=.join f) hf;have e:Am.cG C s (.join f)=2+10*(f:Int):=rfl;rw[e]at p;unfold gL;rw[hb,eF (x:=(1:Int)+1) aB,eF (x:=(f:Int)*10) aB,eF aB,e];congr 1;omega
theorem W4(h:AR C s M sz n)(hz:Am.SZ C s)(hf:f<C.F){k:Nat}(hk:k<8){t:bg}(hb:t.kE=1):jZ t (f:Int) (k:Int)=some (Am.cG C s (.slot f k)):=by
 have p:=h.Vm hz (a:=.slot f k) ⟨hf,hk⟩;have e:Am.cG C s (.slot f k)=4+10*(f:Int)+k:=rfl;have e1:Am.cG C s (.join f)=2+10*(f:Int):=rfl;rw[e]at p;unfold jZ;rw[Ms h hz hf hb,ay,e1,eF (x:=2+10*(f:Int)+2) aB,eF aB,e];congr 1;omega
theorem abC(h:AR C s M sz n)(hz:Am.SZ C s)(hf:f<C.F){t:bg}(hb:t.kE=1):mR t (f:Int)=some (Am.cG C s (.mark f)):=by
 have p:=h.Vm hz (a:=.mark f) hf;have e:Am.cG C s (.mark f)=3+10*(f:Int):=rfl;have e1:Am.cG C s (.join f)=2+10*(f:Int):=rfl;rw[e]at p;unfold mR;rw[Ms h hz hf hb,ay,e1,eF aB,e];congr 1;omega
theorem NT(hC:C.OK)(hf:f<C.F){k:Int}{sl:Nat}(hs:sl<8){v:Int}:kr k (⟨1,C.F⟩:bg) (f:Int) (sl:Int) v=some (jQ C k f sl v):=by
 have h1:=hC.f1;have h2:=hC.f4;unfold kr po;simp only;rw[oU,oU,oU,oU,tR aB,ay,aW rfl,eG,eG];rfl
theorem FW(hC:C.OK)(hf:f<C.F){k v:Int}:kr k (⟨1,C.F⟩:bg) (f:Int) 0 v=some (jQ C k f 0 v):=NT (sl:=0) hC hf aB
theorem Kh{o:cy}(hb:o.eA=1)(hs:o.aA=0):iV o=some (o.fm,o.lU):=by
 unfold iV;rw[cF (λe=>by rw[e]at hb;exact absurd hb eL),eG]
theorem Tu{o:cy}(hb:o.eA=1)(hs:o.aA>0):iV o=some (0,0):=by
 unfold iV;rw[cF (λe=>by rw[e]at hb;exact absurd hb eL),aW hs]
theorem DM(hs:o.aA≠0){r:Option (Int×cy×af)}(hr:r=some (0,o',M'))
 (hk:r=(if o.kind=0 then jH o M else if o.kind=1 then lK o M else if o.kind=2 then gl o M else if o.kind=3 then jf o M else if o.kind=4 then k6 o M else k8 o M)) :
 de M o=some (if o'.aA>0 then({o' with aA:=wi (o'.aA+1)},M')else(o',M')):=by
 have fin:(if(0:Int)=0 then(if o'.aA>0 then some ({o' with aA:=wi (o'.aA+1)},M')else some (o',M'))else eY (ew o' 1 0) (λS=>some (S,M')))=some (if o'.aA>0 then({o' with aA:=wi (o'.aA+1)},M')else(o',M')):=by
  rw[aW rfl];split<;>rfl
 rw[hr]at hk;unfold de;rw[cF hs];split at hk
 ·rename_i h;rw[aW h,<-hk,dz];exact fin
 ·rename_i h;rw[cF h];split at hk
  ·rename_i h;rw[aW h,<-hk,dz];exact fin
  ·rename_i h;rw[cF h];split at hk
   ·rename_i h;rw[aW h,<-hk,dz];exact fin
   ·rename_i h;rw[cF h];split at hk
    ·rename_i h;rw[aW h,<-hk,dz];exact fin
    ·rename_i h;rw[cF h];split at hk
     ·rename_i h;rw[aW h,<-hk,dz];exact fin
     ·rename_i h;rw[cF h,<-hk,dz];exact fin
theorem VF(h:AR C s M sz n)(hz:Am.SZ C s)(hn:n<=2000000000)(hf:f<C.F)(hv:-1000000000000<=s.mem (.mark f)/\s.mem (.mark f)<=1000000000000) :
 de M (jQ C 4 f 0 0)=some ({jQ C 4 f 0 0 with aA:=0,fm:=14,lU:=s.mem (.mark f)+1},nt M (M.cell.set (Am.cG C s (.mark f)).toNat (s.mem (.mark f)+1)) 3 (Am.cG C s (.mark f)) 1 (s.mem (.mark f)+1) true):=by
 refine DM (o':={jQ C 4 f 0 0 with aA:=0,fm:=14,lU:=s.mem (.mark f)+1}) (M':=nt M (M.cell.set (Am.cG C s (.mark f)).toNat (s.mem (.mark f)+1)) 3 (Am.cG C s (.mark f)) 1 (s.mem (.mark f)+1) true) (by show(1:Int)≠0;decide) rfl ?_;show _=k6 _ _;unfold k6 ew;rw[show mR _ (jQ C 4 f 0 0).gu=some (Am.cG C s (.mark f))from abC h hz hf rfl,ay,I2 h hz hn (a:=.mark f) hf (eF aB),dz];rfl
theorem YJ(h:AR C s M sz n)(hz:Am.SZ C s)(hn:n<=2000000000)(hf:f<C.F)(hv:-1000000000000<=s.mem (.join f)/\s.mem (.join f)<=1000000000000) :
 de M (jQ C 1 f 0 0)=some ({jQ C 1 f 0 0 with aA:=0,fm:=9,lU:=s.mem (.join f)+1},nt M (M.cell.set (Am.cG C s (.join f)).toNat (s.mem (.join f)+1)) 3 (Am.cG C s (.join f)) 1 (s.mem (.join f)+1) true):=by
 refine DM (o':={jQ C 1 f 0 0 with aA:=0,fm:=9,lU:=s.mem (.join f)+1}) (M':=nt M (M.cell.set (Am.cG C s (.join f)).toNat (s.mem (.join f)+1)) 3 (Am.cG C s (.join f)) 1 (s.mem (.join f)+1) true) (by show(1:Int)≠0;decide) rfl ?_;show _=lK _ _;unfold lK ew;rw[show gL _ (jQ C 1 f 0 0).gu=some (Am.cG C s (.join f))from Ms h hz hf rfl,ay,I2 h hz hn (a:=.join f) hf (eF aB),dz];rfl
theorem Tv(h:AR C s M sz n)(hz:Am.SZ C s)(hn:n<=2000000000)(hf:f<C.F)(hb:o.eA=1)(hh:o.gu=f)(hv:-1000000000000<=s.mem (.join f)/\s.mem (.join f)<=1000000000000)(c:Int) :
 je o M c=some (0,(if s.mem (.join f)-1=0 then o else {o with aA:=0,fm:=c,lU:=s.mem (.join f)-1}),nt M (M.cell.set (Am.cG C s (.join f)).toNat (s.mem (.join f)-1)) 3 (Am.cG C s (.join f)) (-1) (s.mem (.join f)-1) true):=by
 unfold je ew;rw[hh,Ms (t:=⟨o.eA,o.dZ⟩) h hz hf hb,ay,I2 h hz hn (a:=.join f) hf (v:=s.mem (.join f)-1) (by rw[eF aB];omega),dz,aW rfl];by_cases e:s.mem (.join f)-1=0
 ·rw[aW e,aW e]
 ·rw[cF e,cF e,ay]
theorem Pk(h:AR C s M sz n)(hz:Am.SZ C s)(hn:n<=2000000000)(hf:f<C.F)(hb:o.eA=1)(hh:o.gu=f)(c:Int) :
 iI o M c=some (0,{o with aA:=0,fm:=c,lU:=0},nt M (M.cell.set (Am.cG C s (.join f)).toNat 1) 1 (Am.cG C s (.join f)) 1 0 true):=by
 unfold iI ew;rw[hh,Ms (t:=⟨o.eA,o.dZ⟩) h hz hf hb,ay,uZ h hz hn (a:=.join f) hf,fh,aW rfl,ay]
theorem VG(h:AR C s M sz n)(hz:Am.SZ C s)(hn:n<=2000000000)(hf:f<C.F)(hv:-1000000000000<=s.mem (.join f)/\s.mem (.join f)<=1000000000000) :
 de M (jQ C 3 f 0 0)=some ((if s.mem (.join f)-1=0 then {jQ C 3 f 0 0 with aA:=2}else {jQ C 3 f 0 0 with aA:=0,fm:=12,lU:=s.mem (.join f)-1}),nt M (M.cell.set (Am.cG C s (.join f)).toNat (s.mem (.join f)-1)) 3 (Am.cG C s (.join f)) (-1) (s.mem (.join f)-1) true):=by
 have e:=Tv (o:=jQ C 3 f 0 0) h hz hn hf rfl rfl hv 12;have e2:jf (jQ C 3 f 0 0) M=je (jQ C 3 f 0 0) M 12:=by unfold jf;rw[aW (show(jQ C 3 f 0 0).aA=1 from rfl),e,dz]
 have:=DM (o:=jQ C 3 f 0 0) (M:=M) (by show(1:Int)≠0;decide) (e2.trans e) rfl;rw[this];by_cases e:s.mem (.join f)-1=0
 ·rw[aW e,aW e,aW (by show(1:Int)>0;decide)];rfl
 ·rw[cF e,cF e,cF (by show ¬(0:Int)>0;decide)]
theorem YK(h:AR C s M sz n)(hz:Am.SZ C s)(hn:n<=2000000000)(hf:f<C.F){k:Nat}(hk:k<8)(v:Int) :
 de M (jQ C 2 f k v)=some ({jQ C 2 f k v with aA:=2},nt M (M.cell.set (Am.cG C s (.slot f k)).toNat v) 1 (Am.cG C s (.slot f k)) v 0 true):=by
 have e:gl (jQ C 2 f k v) M=some (0,jQ C 2 f k v,nt M (M.cell.set (Am.cG C s (.slot f k)).toNat v) 1 (Am.cG C s (.slot f k)) v 0 true):=by
  unfold gl;rw[aW (show(jQ C 2 f k v).aA=1 from rfl),show jZ _ (jQ C 2 f k v).gu (jQ C 2 f k v).slot=some (Am.cG C s (.slot f k))from W4 h hz hf hk rfl,ay,show(jQ C 2 f k v).K7=v from rfl,uZ h hz hn (a:=.slot f k) ⟨hf,hk⟩,fh]
 have:=DM (o:=jQ C 2 f k v) (M:=M) (by show(1:Int)≠0;decide) e rfl;rw[this,aW (by show(1:Int)>0;decide)];rfl
theorem VH(h:AR C s M sz n)(hz:Am.SZ C s)(hn:n<=2000000000)(hf:f<C.F){k:Nat}(hk:k<8) :
 de M (jQ C 5 f k 0)=some ({jQ C 5 f k 0 with aA:=0,fm:=15,lU:=s.mem (.slot f k)},nt M M.cell 0 (Am.cG C s (.slot f k)) (s.mem (.slot f k)) 0 true):=by
 have e:k8 (jQ C 5 f k 0) M=some (0,{jQ C 5 f k 0 with aA:=0,fm:=15,lU:=s.mem (.slot f k)},nt M M.cell 0 (Am.cG C s (.slot f k)) (s.mem (.slot f k)) 0 true):=by
  unfold k8 ew;rw[show jZ _ (jQ C 5 f k 0).gu (jQ C 5 f k 0).slot=some (Am.cG C s (.slot f k))from W4 h hz hf hk rfl,ay,yg h hz hn (a:=.slot f k) ⟨hf,hk⟩,dz];rfl
 have:=DM (o:=jQ C 5 f k 0) (M:=M) (by show(1:Int)≠0;decide) e rfl;rw[this,cF (by show ¬(0:Int)>0;decide)]
theorem VI(h:AR C s M sz n)(hz:Am.SZ C s)(hn:n<=2000000000)(hv:0<=s.mem .next/\s.mem .next<=1000000000000) :
 de M (jQ C 0 0 0 0)=some ((if s.mem .next+1<=C.F then {jQ C 0 0 0 0 with aA:=0,fm:=4,lU:=s.mem .next}else {jQ C 0 0 0 0 with aA:=0,fm:=3,lU:=0}),nt M (M.cell.set (Am.cG C s .next).toNat (s.mem .next+1)) 3 (Am.cG C s .next) 1 (s.mem .next+1) true):=by
 have e:jH (jQ C 0 0 0 0) M=some (0,(if s.mem .next+1<=C.F then {jQ C 0 0 0 0 with aA:=0,fm:=4,lU:=s.mem .next}else {jQ C 0 0 0 0 with aA:=0,fm:=3,lU:=0}),nt M (M.cell.set (Am.cG C s .next).toNat (s.mem .next+1)) 3 (Am.cG C s .next) 1 (s.mem .next+1) true):=by
  unfold jH ox ew;rw[ay,show(⟨(jQ C 0 0 0 0).eA,(jQ C 0 0 0 0).dZ⟩:bg).kE=Am.cG C s .next from rfl,I2 h hz hn (a:=.next) trivial (eF aB),dz,aW rfl,oU,ay];by_cases e:s.mem .next+1<=C.F
  ·rw[aW e,aW (by show decide (s.mem .next+1<=(C.F:Int))=true;exact tR e),eF aB,show s.mem .next+1-1=s.mem .next by omega];rfl
  ·rw[cF e,cF (by show ¬decide (s.mem .next+1<=(C.F:Int))=true;simpa using e)];rfl
 have:=DM (o:=jQ C 0 0 0 0) (M:=M) (by show(1:Int)≠0;decide) e rfl;rw[this];by_cases e:s.mem .next+1<=C.F
 ·rw[aW e,cF (by show ¬(0:Int)>0;decide)]
 ·rw[cF e,cF (by show ¬(0:Int)>0;decide)]
end
section
variable {K:Nat}{C:Am.kT}{p:aM}{s:Am.St}{S:ag}{M M':af}{sz n i f:Nat}{D:aQ}{d:Int}{o':cy}
variable (b:vL C p s S M sz n)(hi:i<C.N)
include b hi
theorem FX(hb:Am.busy (Am.sig (s.pc i))=true) :∃f,s.hold i=some f/\f<s.nf/\f<C.F/\(act S i).ax=f:=by
 obtain⟨f,hh⟩:=Am.uY b.fi hi hb;have h:=(Am.DE b.fi hi hh).2;exact⟨f,hh,h,Nat.lt_of_lt_of_le h b.fi.wD,by rw[show(act S i).ax=fi (s.hold i)from(b.jT.wk i hi).ax,hh];rfl⟩
theorem QH:(⟨S.dH,S.cQ⟩:bg)=⟨1,C.F⟩:=by rw[b.jT.tb,b.jT.tf]
theorem Mt{a:bD}{c v:Int}(h1:de M a.dM=some (o',M'))(h2:iV o'=some (c,v)):eV (gG S i a) M (i:Int)=some (c,v,gG S i {a with dM:=o' },M'):=by
 unfold eV jN an;rw[zM b hi,h1,fh];simp only;rw[h2,fh,dc];show some (_,_,({S with ah:=(S.ah.set i a).set i {a with dM:=o' }}:ag),M')=_;rw[iG];rfl
theorem Tw{x:Int}(hp:s.pc i= .start x):jA C p sz n M (Am.aJ C s i d) (jx S M (i:Int) D):=by
 obtain⟨w1,w2,w3⟩:=b.jT.wk i hi;obtain⟨f,hh,hn,hF,hfr⟩:=FX b hi (by rw[hp];rfl);rw[hp]at w3;obtain⟨a1,a2⟩:=w3;have hs:=VF b.ar b.z b.cN hF (b.L8 rfl);have h:=Mt b hi (a:={act S i with dM:=jQ C 4 f 0 0}) hs (Kh rfl rfl);unfold Am.aJ;rw[hp];simp only[hh,qH];refine .mk (a:={act S i with dM:={jQ C 4 f 0 0 with aA:=0,fm:=14,lU:=s.mem (.mark f)+1},aG:=1}) b hi ?_ w1 w2 rfl rfl (b.Aw (c:=.mark f) rfl (by rw[hp];rfl) hF _ _ _ _ _) (Lg.nt rfl) (by show(1:Nat)≠0;decide);unfold jx v8 jN an;rw[QH b hi,dc,hfr,FW b.ok hF,ay,ay];rw[show({S with ah:=S.ah.set i {J S.ah i with dM:=jQ C 4 f 0 0}}:ag)=gG S i {act S i with dM:=jQ C 4 f 0 0}from rfl,h,gp,aW rfl,aW (by rw[jO];exact b.AA hi),show J (gG S i _).ah i=_ from nC (b.wl hi)];show some ((⟨0,0,1,(act S i).ax,(act S i).from_,s.mem (.mark f)+1⟩:ai),({S with ah:=(S.ah.set i _).set i _}:ag),_)=_;rw[iG];refine qG some (AF ?_ rfl);show(⟨0,0,1,(act S i).ax,(act S i).from_,s.mem (.mark f)+1⟩:ai)=_;rw[hfr,show(act S i).from_=x from a2];rfl
theorem VJ{c:Nat}(hp:s.pc i= .fork c):jA C p sz n M (Am.aJ C s i d) (jR S M (i:Int) D):=by
 obtain⟨w1,w2,w3⟩:=b.jT.wk i hi;obtain⟨f,hh,hn,hF,hfr⟩:=FX b hi (by rw[hp];rfl);rw[hp]at w3;obtain⟨a1,a2⟩:=w3;have hs:=YJ b.ar b.z b.cN hF (b.L8 rfl);have h:=Mt b hi (a:={act S i with dM:=jQ C 1 f 0 0}) hs (Kh rfl rfl);unfold Am.aJ;rw[hp];simp only[hh,qH];refine .mk (a:={act S i with dM:={jQ C 1 f 0 0 with aA:=0,fm:=9,lU:=s.mem (.join f)+1},bl:=DI C 1 1 i c,aG:=3}) b hi ?_ w1 w2 rfl ⟨rfl,a2,⟨rfl,rfl,rfl,rfl⟩,rfl⟩ (b.Aw (c:=.join f) rfl (by rw[hp];rfl) hF _ _ _ _ _) (Lg.nt rfl) trivial;unfold jR xG jN an;rw[QH b hi,dc,hfr,FW b.ok hF,ay,ay];rw[show({S with ah:=S.ah.set i {J S.ah i with dM:=jQ C 1 f 0 0}}:ag)=gG S i {act S i with dM:=jQ C 1 f 0 0}from rfl,h,gp,aW rfl,aW (by rw[jO];exact b.AA hi),show J (gG S i _).ah i=_ from nC (b.wl hi)];unfold mj zy;rw[aW (by show bI (act S i).bp S.dD.length;rw[show(act S i).bp=i from w1];exact⟨aB,by rw[b.jT.dl];omega⟩),ay];rw[show J (gG S i _).dD (Int.toNat _)=Ma C i from(by show J S.dD (act S i).bp.toNat=_;rw[show(act S i).bp=i from w1,dc];exact b.jT.dq i hi)];show eY (eY (n7 1 1 (Ma C i) (act S i).cw) _) _=_;rw[show n7 1 1 (Ma C i) (act S i).cw=some (DI C 1 1 i c) by rw[show(act S i).cw=c from a2];exact Bt b _ _ _ _,ay,ay];show some (_,({S with ah:=((S.ah.set i _).set i _).set i _}:ag),_)=_;rw[iG,iG];rfl
theorem QI{S0:ag}{a:bD}(h0:S0=gG S i a)(ha:a.bp=i)(M':af):jE S0 M' (i:Int)=some (gG S i {a with bl:=DI C 2 1 i 0,aG:=8}):=by
 subst h0;unfold jE mj yS jN an;rw[zM b hi,ha,aW (by show bI (i:Int) S.dD.length;exact⟨aB,by rw[b.jT.dl];omega⟩),ay,dc,show J (gG S i a).dD i=Ma C i from b.jT.dq i hi,Bt b,ay,ay];show some ({S with ah:=((S.ah.set i _).set i _).set i _}:ag)=_;rw[iG,iG,<-ha];rfl
end
def kG(S:ag)(T:List aU):ag:={S with aH:=T}
section
variable {K:Nat}{C:Am.kT}{p:aM}{s:Am.St}{S:ag}{M M':af}{sz n i f:Nat}{D:aQ}{d:Int}{o':cy}{T:List aU}{a:bD}
variable (b:vL C p s S M sz n)(hi:i<C.N)
include b hi
theorem vu:J (gG (kG S T) i a).ah (i:Int).toNat=a:=by rw[dc];exact nC (b.wl hi)
theorem Tx:bI (i:Int) (gG (kG S T) i a).ah.length:=by rw[jO];exact b.AA hi
theorem wY{c v:Int}(h1:de M a.dM=some (o',M'))(h2:iV o'=some (c,v)):eV (gG (kG S T) i a) M (i:Int)=some (c,v,gG (kG S T) i {a with dM:=o' },M'):=by
 unfold eV jN an;rw[vu b hi,h1,fh];simp only;rw[h2,fh,dc];show some (_,_,({S with aH:=T,ah:=(S.ah.set i a).set i {a with dM:=o' }}:ag),M')=_;rw[iG];rfl
theorem VK(ha:a.bp=i)(M':af):jE (gG (kG S T) i a) M' (i:Int)=some (gG (kG S T) i {a with bl:=DI C 2 1 i 0,aG:=8}):=by
 unfold jE mj yS jN an;rw[vu b hi,aW (by rw[ha];show bI (i:Int) S.dD.length;exact⟨aB,by rw[b.jT.dl];omega⟩),ay];rw[show J (gG (kG S T) i a).dD a.bp.toNat=Ma C i from(by rw[ha,dc];exact b.jT.dq i hi),Bt b,ay,ay,dc];show some ({S with aH:=T,ah:=((S.ah.set i _).set i _).set i _}:ag)=_;rw[iG,iG];rfl
theorem Ty(h1:de M a.dM=some (o',M'))(h2:o'.eA=1)(h3:o'.aA>0):di (gG (kG S T) i a) M (i:Int) D=some (B9 none,gG (kG S T) i {a with dM:=o' },M'):=by
 unfold di jN an;rw[wY b hi h1 (Tu h2 h3),gp,aW rfl];rfl
theorem QJ(h1:de M a.dM=some (o',M'))(h2:o'.eA=1)(h3:o'.aA=0)(h4:o'.fm=13)(hf:a.ax=f):di (gG (kG S T) i a) M (i:Int) D=some (B9 (Am.ev 5 f 0 0),gG (kG S T) i {a with dM:=o',aG:=1},M'):=by
 unfold di jN an;rw[wY b hi h1 (Kh h2 h3),gp,h4,cF eL,aW rfl,aW (Tx b hi),vu b hi,vu b hi,dc];show some ((⟨0,0,5,a.ax,0,0⟩:ai),({S with aH:=T,ah:=(S.ah.set i _).set i _}:ag),M')=_;rw[iG];refine qG some (AF ?_ rfl);show(⟨0,0,5,a.ax,0,0⟩:ai)=_;rw[hf];rfl
theorem QK(ha:a.bp=i)(h1:de M a.dM=some (o',M'))(h2:o'.eA=1)(h3:o'.aA=0)(h4:o'.fm=12)(hf:a.ax=f):di (gG (kG S T) i a) M (i:Int) D=some (B9 (Am.ev 4 f 0 0),gG (kG S T) i {a with dM:=o',ax:=-1,bl:=DI C 2 1 i 0,aG:=8},M'):=by
 unfold di jN an;rw[wY b hi h1 (Kh h2 h3),gp,h4,cF eL,cF eL,aW rfl,aW (Tx b hi),vu b hi,vu b hi,dc];have e:({gG (kG S T) i {a with dM:=o' }with ah:=(gG (kG S T) i {a with dM:=o' }).ah.set i {({a with dM:=o' }:bD)with ax:=-1}}:ag)=gG (kG S T) i {a with dM:=o',ax:=-1}:=by
  show({S with aH:=T,ah:=(S.ah.set i _).set i _}:ag)=_;rw[iG];rfl
 rw[e,VK b hi (a:={a with dM:=o',ax:=-1}) ha,ay];refine qG some (AF ?_ rfl);show(⟨0,0,4,a.ax,0,0⟩:ai)=_;rw[hf];rfl
theorem NU:gG (kG S S.aH) i (act S i)=S:=jS b hi
theorem NV(hp:s.pc i= .ta):jA C p sz n M (Am.aJ C s i d) (di S M (i:Int) D):=by
 obtain⟨w1,w2,w3⟩:=b.jT.wk i hi;obtain⟨f,hh,hn,hF,hfr⟩:=FX b hi (by rw[hp];rfl);rw[hp]at w3;obtain⟨a1,t1,t2,t3,t4,t5⟩:=w3;have t3:(act S i).dM.gu=f:=by rw[show(act S i).dM.gu=((act S i).ax.toNat:Int)from t3,hfr];rfl
 have e:=Pk (o:=(act S i).dM) b.ar b.z b.cN hF t1 t3 13;have e2:jf (act S i).dM M=iI (act S i).dM M 13:=by
  unfold jf;rw[dN t4,e,dz]
 have hs:=DM (o:=(act S i).dM) (M:=M) (by rw[t4];decide) (e2.trans e) (by rw[t5];rfl);rw[cF (by show ¬(0:Int)>0;decide)]at hs;have h:=QJ (D:=D) (T:=S.aH) (a:=act S i) b hi hs t1 rfl rfl hfr;rw[NU b hi]at h;unfold Am.aJ;rw[hp];simp only[hh,qH];exact .mk b hi h w1 w2 rfl rfl (b.Aw (c:=.join f) rfl (by rw[hp];rfl) hF _ _ _ _ _) (Lg.nt rfl) (by show(5:Nat)≠0;decide)
theorem Tz(h1:de M (act S i).dM=some (o',M'))(h2:o'.eA=1)(h3:o'.aA=0)(h4:o'.fm=10):eR S M (i:Int) D=some (B9 none,gG S i {act S i with dM:=o',bl:=DI C 2 1 i 0,aG:=8},M'):=by
 have w1:=(b.jT.wk i hi).self;unfold eR jN an;rw[Ka h1 (Kh h2 h3),gp,h4,cF eL,aW rfl,aW (by rw[jO];exact b.AA hi),QI b hi (a:={act S i with dM:=o' }) rfl w1,ay];rfl
theorem TA(h1:de M (act S i).dM=some (o',M'))(h2:o'.eA=1)(h3:o'.aA=0)(h4:o'.fm=11)(hin:bI (act S i).done S.aH.length):eR S M (i:Int) D=some ((⟨0,0,7,(J S.aH (act S i).done.toNat).parent,(act S i).done,0⟩:ai),gG S i {act S i with dM:=o',ax:=(J S.aH (act S i).done.toNat).parent,aG:=1},M'):=by
 unfold eR er jN an;rw[Ka h1 (Kh h2 h3),gp,h4,cF eL,cF eL,aW rfl,aW (by rw[jO];exact b.AA hi),dc,show J (gG S i {act S i with dM:=o' }).ah i={act S i with dM:=o' }from nC (b.wl hi)];rw[aW (by exact hin),jm,aW (by exact hin)];show some ((⟨0,0,7,(J S.aH (act S i).done.toNat).parent,(act S i).done,0⟩:ai),({S with ah:=((S.ah.set i _).set i _).set i _}:ag),_)=_;rw[iG,iG];rfl
theorem YL{pp c:Nat}(hp:s.pc i= .out pp c):jA C p sz n M (Am.aJ C s i d) (eR S M (i:Int) D):=by
 obtain⟨w1,w2,w3⟩:=b.jT.wk i hi;have hg:(Am.view s).g i= .out pp c:=by show Am.sig (s.pc i)=_;rw[hp];rfl
 obtain⟨q1,q2,q3,q4,q5,q6⟩:=b.fi.gT hi hg;have hF:pp<C.F:=Nat.lt_of_lt_of_le q3 b.fi.wD;rw[hp]at w3;obtain⟨a1,a2,t1,t2,t3,t4,t5⟩:=w3;have e:=Tv (o:=(act S i).dM) b.ar b.z b.cN hF t1 t3 (b.L8 rfl) 10;have e2:gl (act S i).dM M=je (act S i).dM M 10:=by
  unfold gl;rw[dN t4,aW t4,e,dz]
 have hs:=DM (o:=(act S i).dM) (M:=M) (by rw[t4];decide) (e2.trans e) (by rw[t5];rfl);unfold Am.aJ;rw[hp];simp only;by_cases h0:s.mem (.join pp)-1=0
 ·rw[aW h0];rw[aW h0,aW (by rw[t4];decide)]at hs;have hst:wi ((act S i).dM.aA+1)=3:=by rw[t4];rfl
  refine .mk (a:={act S i with dM:={(act S i).dM with aA:=wi ((act S i).dM.aA+1)}}) b hi ?_ w1 w2 rfl ⟨a1,a2,t1,t2,t3,hst,t5⟩ (b.Aw (c:=.join pp) rfl (by rw[hp];rfl) hF _ _ _ _ _) (Lg.nt rfl) trivial;unfold eR jN an;rw[Ka hs (Tu t1 (by show wi ((act S i).dM.aA+1)>0;rw[hst];decide)),gp,aW rfl];rfl
 ·rw[cF h0];rw[cF h0,cF (by show ¬(0:Int)>0;decide)]at hs;exact .mk b hi (Tz b hi hs t1 rfl rfl) w1 w2 rfl ⟨rfl,⟨rfl,rfl,rfl,rfl⟩,rfl,rfl⟩ (b.Aw (c:=.join pp) rfl (by rw[hp];rfl) hF _ _ _ _ _) (Lg.nt rfl) trivial
theorem VL{pp c:Nat}(hp:s.pc i= .take pp c):jA C p sz n M (Am.aJ C s i d) (eR S M (i:Int) D):=by
 obtain⟨w1,w2,w3⟩:=b.jT.wk i hi;have hg:(Am.view s).g i= .take pp c:=by show Am.sig (s.pc i)=_;rw[hp];rfl
 obtain⟨q6,q2,q4⟩:=b.fi.tp i pp c hi hg;have q3:pp<s.nf:=q4▸ b.fi.pr c q2;have hF:pp<C.F:=Nat.lt_of_lt_of_le q3 b.fi.wD;rw[hp]at w3;obtain⟨a1,a2,t1,t2,t3,t4,t5⟩:=w3;have e:=Pk (o:=(act S i).dM) b.ar b.z b.cN hF t1 t3 11;have e2:gl (act S i).dM M=iI (act S i).dM M 11:=by
  unfold gl;rw[dN t4,dN t4,e,dz]
 have hs:=DM (o:=(act S i).dM) (M:=M) (by rw[t4];decide) (e2.trans e) (by rw[t5];rfl);rw[cF (by show ¬(0:Int)>0;decide)]at hs;have QL:(J S.aH (act S i).done.toNat).parent=pp:=by
  rw[show(act S i).done=c from a2,dc,(b.jT.tk c q2).par,cF q6];rw[show pp=(s.fr c).par from q4]
 have hin:bI (act S i).done S.aH.length:=by rw[show(act S i).done=c from a2];exact b.task q2
 unfold Am.aJ;rw[hp];simp only;refine .mk b hi ((TA b hi hs t1 rfl rfl hin).trans (qG some (AF ?_ rfl))) w1 (by show(J S.aH (act S i).done.toNat).parent=fi (Am.dW s.hold i (some pp) i);rw[QL,Am.bK];rfl) rfl rfl (b.Aw (c:=.join pp) rfl (by rw[hp];rfl) hF _ _ _ _ _) (Lg.nt rfl) (by show(7:Nat)≠0;decide) (hh:=λj hj=>Am.bA hj);show(⟨0,0,7,(J S.aH (act S i).done.toNat).parent,(act S i).done,0⟩:ai)=_;rw[QL,show(act S i).done=c from a2];rfl
end
end Mo
end
end Go.Proofs.YtaiffafelihaaaaGreatDoor

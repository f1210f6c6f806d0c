/- plunderlaw11.WorkerLone answers true for every input of the bulk that the statement names, and leaves its input alone. Conditions: none. -/
import Derived.Test.YtaiffafelihaaaaGreatDoorZ2
set_option linter.unusedVariables false
set_option linter.unusedSimpArgs false
set_option linter.unusedSectionVars false
set_option maxRecDepth 100000
set_option maxHeartbeats 4000000
set_option autoImplicit true
set_option relaxedAutoImplicit true
namespace Go.Proofs.YtaiffafelihaaaaGreatDoor
open Proofs.Tryz
section
namespace Mo
open Go Go.RowKit SL GX
noncomputable section
variable {z w:World}{L:List bl}
def ru(O:af)(Y:Bool):Option (af):=
 some ({O with watched:=Y})
theorem xu{q0:af}(H:ru O Y=some q0)(h:iJ z (gD B0 O ju jy jA lU L) w) :
 yZ 20 #[pA B0 0,vB Y] w z (.tuple #[]) λx1 x2 x3 x4=>gD B0 q0 x1 x2 x3 x4 L:=by
 unfold ru at H;refine ke func20 10 rfl λj=>aL da<|G<|λ_ r=>fW r (b:=true) rfl<|qq r<|wl<|ko yj<|kS h 5 (fS B0 #[Z O.nl,Z O.fo,aW ju O.cell.length jy,aW jA O.log.length lU,Z O.wB,vB Y] 78) λw h=>kl<|?_;cases H;exact xv4 ju jy jA lU h
def oX(O:ag)(dU:af)(Y:Int):Option (Bool):=
 (if Y>=0 then(if Y<((O.aj.length:Nat):Int)then if bJ Y O.aj.length then some ((J O.aj Y.toNat).aO==13)else none else some false)else some false)
theorem BL(H:oX O dU Y=some r0)(h:iJ z (iK B0 O fO nj nK lC mj ig fF be gf dU ju jy jA lU L) w) :
 nH 21 #[pA B0 0,Z Y] w z (vB r0) (iK B0 O fO nj nK lC mj ig fF be gf dU ju jy jA lU L):=by
 unfold oX at H;refine ke func21 31 rfl λj=>gP<|aL kJ<|cT (rfl:true=true) [8,9] [Z Y,dm (Y>=0)]<|ko [dm (Y>=0),dm (Y>=0)]<|qI H (λyI H=>?_) λyI H=>?_
 ·refine cT (dT yI) [12,13,14,15] [Z Y,pA B0 0,pA B0 0,pA B0 9]<|vz (dT yI) h 9<|cT (dT yI) [17,18] [Z ((O.aj.length:Nat):Int),dm (Y<((O.aj.length:Nat):Int))]<|oJ (dT yI) (dm (Y<((O.aj.length:Nat):Int)))<|ko [dm (Y<((O.aj.length:Nat):Int))]<|qI H (λxF H=>?_) λxF H=>?_
  ·refine cT (dT xF) [21,22,23] [pA B0 0,pA B0 0,pA B0 9]<|vz (dT xF) h 9<|qg H λpT H=>cT (dT xF) [25] [Z Y]<|λ_ r=>CK (nL r (dT xF)) r (mR be Y 188) (uI 117 rfl (h.pick 4) pT)<|?_;refine cT (dT xF) [27] [uQ be Y 188 2]<|λ_ r=>ld (nL r (dT xF)) r (Z (aq O Y).aO) ((h.pick 4).cy (sz:=188) (i:=Y.toNat) (an B0) (f:=2) (bj pT) aZ)<|?_;refine cT (dT xF) [29] [vB ((aq O Y).aO==13)]<|oJ (dT xF) (vB ((aq O Y).aO==13))<|ko [vB ((aq O Y).aO==13)]<|bY<|?_;cases H;exact fU h
  refine cg (dF xF) [21,22,23,24,25,26,27,28,29]<|oz (dF xF) (vB false)<|bS<|bY<|?_;cases H;exact fU h
 refine cg (dF yI) [12,13,14,15,16,17,18]<|oz (dF yI) (vB false)<|bS<|cg (rfl:false=false) [21,22,23,24,25,26,27,28,29]<|ko da<|bY<|?_;cases H;exact fU h
def qW(O:af):Option ((List aU)):=
 if 0<=((O.log.length:Nat):Int)/\((O.log.length:Nat):Int)*48<=140737488355328 then if O.log.length=(List.replicate O.log.length (⟨0,0,0,0,0,false⟩:aU)).length then some O.log else none else none
abbrev BM:aU:=⟨0,0,0,0,0,false⟩
theorem yQ(H:qW O=some r0)(h:iJ z (gD B0 O ju jy jA lU L) w) :
 Calls Tryz.prog 22 #[pA B0 0] w λe w=>∃y1,e=.returned (aW y1 r0.length r0.length)/\Fit z (aD (gD B0 O ju jy jA lU (UP y1 r0.length r0::L))) w:=by
 unfold qW at H;refine ke func22 19 rfl λj=>gP<|wq<|aL da<|G<|λ_ r=>jw r (b:=false) rfl<|qq r<|fT<|aL kJ<|kL h 3<|qg H λc5 H=>ko [Z ((O.log.length:Nat):Int)]<|λ_ r=>tX (i:=((O.log.length:Nat):Int)) (bytes:=48) (zc:=#[Z 0,Z 0,Z 0,Z 0,Z 0,vB false]) BM (wn rfl) rfl rfl r rfl aZ aZ c5 uH (E:=269) aZ aZ rfl rfl h λFH w _ h r=>qq r<|bS<|G<|aL yj<|kL (h.pick 1) 3<|qg H λc7 H=>qh h.m3.m1 λh=>λ_ r=>Nh (wn rfl) rfl rfl r rfl aZ aZ uH (E:=269) aZ aZ c7 h λw _ h r=>qq r<|G<|aL da<|bY<|λ_ r=>rX (aW FH (List.replicate O.log.length BM).length O.log.length) rfl r<|?_;have hn7:(List.replicate O.log.length BM).length=O.log.length:=h.rS;replace h:=Fit.II hn7 (λq_=>rowOf 269 6 gZ (aW FH q_ O.log.length) O.log) h;cases H;exact⟨FH,(by first | rfl | simp only[hn7]),h.se 4 [2,3,1,0]⟩
def jP(K:Nat)(O:bU):Nat->Int->Option (Bool)
 | 0,_=>none
 | k1+1,g2=>(if g2<((O.cP.length:Nat):Int)then if bJ g2 O.cP.length then dX (iD (J O.cP g2.toNat) O.cO) (λr5=>(if r5=0 then some true else(jP K O k1 (wi (g2+1)))))else none else some false)
def s6(K:Nat)(O:bU):Option (Bool):=
 (jP K O K 0)
theorem Cr(H:s6 K O=some r0)(h:iJ z (L) w)(cF:zb L aN cB O.bP)(og:bI L 1 aK dY O.oA)(iU:bI L 1 aK bO O.cP)(jL:bI L 1 aK bX O.eX) :
 nH 23 #[oV #[aW aN O.bP.length bq,aW dY O.oA.length fg,Z O.cO,Z O.de,Z O.eU,Z O.eP,aW bO O.cP.length cA,aW bX O.eX.length cC]] w z (vB r0) (L):=by
 unfold s6 at H;refine ke func23 22 rfl λj=>ks<|kN h (#[aW aN O.bP.length bq,aW dY O.oA.length fg,Z O.cO,Z O.de,Z O.eU,Z O.eP,aW bO O.cP.length cA,aW bX O.eX.length cC]) 32 λb1 w h=>bS<|G<|wq<|gP<|wb<|λ_ r=>dr (β:=Nat) id (λm a w=>∃g2:Int,(jP K O m g2)=some r0/\∃j,jY 22 (lk [(1,pA b1 0),(3,Z g2)] j) a/\Fit z (aD (F4 b1 O aN bq dY fg bO cA bX cC::L)) w) K ⟨0,H,r.fj h⟩<|?_;clear h r H;rintro k1 a w ⟨g2,H,j,r,h⟩;cases k1 with
 | zero=>exact absurd H (by simp[jP])
 | succ k1 =>
  rw[jP]at H;refine qq r<|wq<|aL kJ<|kL h 6<|ko [Z ((O.cP.length:Nat):Int),dm (g2<((O.cP.length:Nat):Int))]<|G<|dK H (λc3 H=>?_) λc3 H=>?_
  ·refine fT<|wq<|wb<|wq<|qg H λc4 H=>fP H λr5 e6 H=>mJ [(b1,6,[aW bO O.cP.length cA]),(dJ bO,jf bO+g2.toNat*1,[Z (J O.cP g2.toNat)]),(b1,2,[Z O.cO])] [0,1,4,6] 10 h (λh=>⟨⟨h.cell 6 rfl,bR⟩,⟨iU.cell c4 (h.dn 1) 0 rfl,bR⟩,⟨h.cell 2 rfl,bR⟩,bR⟩) λw h hd =>lW hd 6 12 [([0,1],pA b1 6),([3],Z g2),([6],pA b1 2)]<|eI hd 0 5 2 rfl<|nr hd 4 4 rfl (pA (dJ bO) (jf bO+g2.toNat*1)) (λw=>Ff 3 cA rfl rfl iU c4)<|eI hd 1 3 5 rfl<|eI hd 2 2 7 rfl<|lB 8 rfl<|eW (DL e6 h :) λw h=>G<|mu<|iF 0 9 rfl (vB (r5==0))<|mM<|tn<|dK H (λc7 H=>?_) λc7 H=>?_
   ·refine gP<|wr<|br<|tr<|tr<|br<|tr<|?_;cases H;exact fU (h.se 1 [])
   refine wk<|bn<|tn<|wl<|ko [U,Z (wi (g2+1)),Z (wi (g2+1))]<|G<|?_;exact λ_ r=>⟨_,⟨(wi (g2+1)),H,r.fj h⟩,ie _⟩
  refine wx<|te<|te<|bh<|tn<|gP<|wr<|?_;cases H;exact fU (h.se 1 [])
end
open Go SL GX
section
variable {K:Nat}
abbrev ar(sz:Int)(c:List Int)(l:List aU)(a:Int)(w:Bool):af:=⟨sz,(c.length:Nat),c,l,a,w⟩
def zh(w:Bool)(l xs:List aU):List aU:=if w then l++xs else l
theorem Cd(w:Bool)(l xs ys:List aU):zh w (zh w l xs) ys=zh w l (xs++ys):=by cases w<;>simp[zh]
theorem Mf(w:Bool)(l:List aU):zh w l []=l:=by cases w<;>simp[zh]
theorem Ac(w:Bool)(l xs:List aU):(zh w l xs).length<=l.length+xs.length:=by cases w<;>simp[zh]
theorem Mg{sz:Int}{m:Int}{c:List Int}{l:List aU}{a:Int}{w:Bool}(hl:l.length<=2000000000)(k d x y:Int)(ok:Bool) :
 fY ⟨sz,m,c,l,a,w⟩ k d x y ok=some ⟨sz,m,c,zh w l [⟨a,k,d,x,y,ok⟩],a,w⟩:=by
 unfold fY zh;cases w
 ·rfl
 ·rw[bg rfl,bg (by show(l.length+1)*48<=_;omega)];rfl
theorem Mh{sz:Int}{c:List Int}{l:List aU}{a:Int}{w:Bool}(hl:l.length<=2000000000)(hs:sz<=2000000000){n:Int}(h1:1<=n)(hn:(c.length:Int)+n<=sz) :
 fN (ar sz c l a w) n=some (((c.length:Nat):Int),0,ar sz (c++List.replicate n.toNat 0) (zh w l [⟨a,4,(c.length:Nat),n,0,true⟩]) a w):=by
 unfold fN nh rh;rw[lO,ez,fh (by show -9223372036854775808<=sz-(c.length:Nat)/\sz-(c.length:Nat)<=9223372036854775807;omega),cQ (by show ¬n>sz-(c.length:Nat);omega),ax,bg rfl,fQ,
  bg ⟨I,by show(c.length+n.toNat)*8<=_;omega⟩,Mg hl,ax,fh (by show -9223372036854775808<=((c.length:Nat):Int)+n/\((c.length:Nat):Int)+n<=9223372036854775807;omega)]
 simp only[ar,jM,od];rw[show((c.length+n.toNat:Nat):Int)=((c.length:Nat):Int)+n by omega]
theorem Mi{sz:Int}{c:List Int}{l:List aU}{a:Int}{w:Bool}(hs:sz<=2000000000)(hs0:0<=sz)(hc:c.length<=2000000000){n:Int}(h1:1<=n)(hn:¬(c.length:Int)+n<=sz) :
 fN (ar sz c l a w) n=some (0,22,ar sz c l a w):=by
 unfold fN nh;rw[lO,ez,fh (by show -9223372036854775808<=sz-(c.length:Nat)/\sz-(c.length:Nat)<=9223372036854775807;omega),bg (by show n>sz-(c.length:Nat);omega),ax,cQ gB]
theorem Vs{sz:Int}{c:List Int}{l:List aU}{a:Int}{w:Bool}{d:Int}(h0:0<=d)(h1:d<(c.length:Nat)):iv (ar sz c l a w) d=some false:=by
 unfold iv su;rw[bg h0,ax];simp[h1]
theorem Pz{sz:Int}{c:List Int}{l:List aU}{a:Int}{w:Bool}(hl:l.length<=2000000000){d v:Int}(h0:0<=d)(h1:d<(c.length:Nat)) :
 dW (ar sz c l a w) d v=some (0,ar sz (c.set d.toNat v) (zh w l [⟨a,1,d,v,0,true⟩]) a w):=by
 unfold dW;rw[Vs h0 h1,ax,cQ gB,bg ⟨h0,h1⟩,Mg hl,ax];simp only[ar,gU]
theorem aaS{sz:Int}{c:List Int}{l:List aU}{a:Int}{w:Bool}(hl:l.length<=2000000000){d v:Int}(h0:0<=d)(h1:d<(c.length:Nat)) :
 iW (ar sz c l a w) d v=some (wi (J c d.toNat+v),0,ar sz (c.set d.toNat (wi (J c d.toNat+v))) (zh w l [⟨a,3,d,v,wi (J c d.toNat+v),true⟩]) a w):=by
 unfold iW;have h2:d.toNat<c.length:=by omega
 rw[Vs h0 h1,ax,cQ gB,bg ⟨h0,h1⟩,bg ⟨h0,by rw[gU];exact h1⟩,Mg hl,ax,bg ⟨h0,by show d<(((c.set d.toNat _).length:Nat):Int);rw[gU];exact h1⟩];simp only[ar,gU];rw[vx h2]
def rI(sz:Int):List aU->List aU
 | []=>[]
 | x::xs=>if x.aG=4/\x.Addr+x.A>sz then []else x::rI sz xs
theorem GW{sz:Int}:∀(xs ys:List aU),(∀x∈xs,x.aG≠4)->rI sz (xs++ys)=xs++rI sz ys
 | [],ys,_=>rfl
 | x::xs,ys,h=>by
  rw[uS,rI,cQ (λe=>h x (by simp) e.1),GW xs ys (λy hy=>h y (MW _ hy))];rfl
theorem Oc{sz:Int}:∀(xs ys:List aU),rI sz xs=xs->rI sz (xs++ys)=xs++rI sz ys
 | [],ys,_=>rfl
 | x::xs,ys,h=>by
  rw[rI]at h;by_cases e:x.aG=4/\x.Addr+x.A>sz
  ·rw[bg e]at h;exact absurd h (by simp)
  ·rw[cQ e]at h;rw[uS,rI,cQ e,Oc xs ys (List.cons.inj h).2];rfl
def Mj(a:Int)(i:Nat):Nat->List aU
 | 0=>[]
 | d+1=>⟨a,1,2+10*(i:Int),1,0,true⟩::Mj a (i+1) d
theorem Od{a:Int}:∀(d i:Nat),∀x∈Mj a i d,x.aG≠4
 | 0,i,x,h=>by simp[Mj]at h
 | d+1,i,x,h=>by
  rcases List.mem_cons.1 h with rfl | h
  ·show(1:Int)≠4;decide
  ·exact Od d (i+1) x h
theorem Ra{a:Int}:∀(d i:Nat),(Mj a i d).length=d
 | 0,i=>rfl
 | d+1,i=>by rw[Mj,Bm,Ra d (i+1)]
def H6(a first:Int):Int->Nat->List aU
 | _,0=>[]
 | J,d+1=>⟨a,4,J,4+first,0,true⟩::⟨a,1,J+2,J+3,0,true⟩::⟨a,1,J+3,first,0,true⟩::H6 a first (J+(4+first)) d
theorem Rb{a first:Int}:∀(d:Nat) (J:Int),(H6 a first J d).length=3*d
 | 0,_=>rfl
 | d+1,_=>by rw[H6,Bm,Bm,Bm,Rb d];omega
structure ZM(F first most:Int):Prop where
 f1:1<=F
 f2:F<=4096
 a1:1<=first
 a2:first<=most
 m2:most<=4096
theorem SM(p:aE)(args:List Int)(n:Int)(l:dZ)(hK:3000<K) :∃e:Int,jo K p args n l=some e/\nX K p args n l=some e/\(e=0∨e=110∨e=111∨e=60∨e=61)/\(e=0->Valid p/\(args.length:Int)=(J p.ah 0).aS/\1<=n/\n<=64/\ZM l.cx l.dP l.jQ):=by
 obtain⟨x,e1,e2,e3⟩:=Vb (K:=K) p hK;unfold jo nX;rw[e1,e2,ax,ax];by_cases hx:x.xd=0
 ·have hv:=e3 hx;have:=hv.n1;have hi:bJ (0:Int) p.ah.length:=⟨gB,I⟩;rw[bg hx,bg hx,bg hi,bg hi];by_cases ha:((args.length:Nat):Int)=(J p.ah 0).aS
  ·rw[bg ha,bg ha];unfold sn kO sq;by_cases h1:n<1
   ·rw[bg h1,cQ (show ¬n>=1 by omega)];exact⟨110,rfl,rfl,by simp,λh=>absurd h gB⟩
   ·rw[cQ h1,bg (show n>=1 by omega)];by_cases h2:n>64
    ·rw[bg h2,Il (show ¬n<=64 by omega)];exact⟨110,rfl,rfl,by simp,λh=>absurd h gB⟩
    ·rw[cQ h2,uT (show n<=64 by omega),ax,bg rfl];by_cases g1:l.cx<1
     ·rw[bg g1,cQ (show ¬l.cx>=1 by omega)];exact⟨111,rfl,rfl,by simp,λh=>absurd h gB⟩
     rw[cQ g1,bg (show l.cx>=1 by omega)];by_cases g2:l.cx>4096
     ·rw[bg g2,cQ (show ¬l.cx<=4096 by omega)];exact⟨111,rfl,rfl,by simp,λh=>absurd h gB⟩
     rw[cQ g2,bg (show l.cx<=4096 by omega)];by_cases g3:l.dP<1
     ·rw[bg g3,cQ (show ¬(1:Int)<=l.dP by omega)];exact⟨111,rfl,rfl,by simp,λh=>absurd h gB⟩
     rw[cQ g3,bg (show(1:Int)<=l.dP by omega)];by_cases g4:l.dP>l.jQ
     ·rw[bg g4,cQ (show ¬l.dP<=l.jQ by omega)];exact⟨111,rfl,rfl,by simp,λh=>absurd h gB⟩
     rw[cQ g4,bg (show l.dP<=l.jQ by omega)];by_cases g5:l.jQ>4096
     ·rw[uT g5,Il (show ¬l.jQ<=4096 by omega)];exact⟨111,rfl,rfl,by simp,λh=>absurd h gB⟩
     ·rw[Il g5,uT (show l.jQ<=4096 by omega)];exact⟨0,rfl,rfl,.inl rfl,λ_=>⟨hv,ha,I,I,⟨I,I,I,I,I⟩⟩⟩
  ·rw[cQ ha,cQ ha];exact⟨61,rfl,rfl,by simp,λh=>absurd h gB⟩
 ·rw[cQ hx,cQ hx];exact⟨60,rfl,rfl,by simp,λh=>absurd h gB⟩
structure Rc(N F agb:Nat)(first:Int)(c:List Int):Prop where
 len:c.length=4+10*F+N+N*agb
 c0:J c 0=0
 c1:J c 1=1
 fr:∀f,f<F->∀r,r<10->J c (2+10*f+r)=if r=0 then 1 else 0
 lot:∀r,r<2+N->J c (2+10*F+r)=0
 dq:∀i,i<N->∀r,r<agb->J c (4+10*F+N+i*agb+r)=if r=2 then((4+10*F+N+i*agb+3:Nat):Int)else if r=3 then first else 0
end
section
variable {K:Nat}
theorem C7{l:List Int}{i k:Nat}{x:Int}(h:i<l.length):J (l.set i x) k=if k=i then x else J l k:=rL h
theorem Vt{sz a:Int}{w:Bool}{F:Nat}(hF:F<=4096):∀(d k i:Nat) (c:List Int) (l:List aU),i+d=F->d<k->2+10*F<=c.length->l.length+d<=1000000000->
 ∃c',jI K (F:Int) 1 k (ar sz c l a w) (i:Int)=some (⟨1,F⟩,0,ar sz c' (zh w l (Mj a i d)) a w)/\c'.length=c.length/\(∀f,i<=f->f<F->J c' (2+10*f)=1)/\(∀x,(∀f,i<=f->f<F->x≠2+10*f)->J c' x=J c x)
 | d,k,i,c,l,hd,hk,hc,hl=>by
  obtain⟨k,rfl⟩ :∃m,k=m+1:=⟨k-1,I⟩;rw[jI];by_cases hi:i<F
  ·obtain⟨d,rfl⟩ :∃m,d=m+1:=⟨d-1,I⟩;unfold gK;rw[rD,fh (x:=(1:Int)+1) I,fh (x:=(i:Int)*10) I,fh I,ax,Pz I I I,fQ,bg rfl,Cl I];have e:((1:Int)+1+(i:Int)*10).toNat=2+10*i:=by omega
   rw[e];have h1:=Ac w l [(⟨a,1,1+1+(i:Int)*10,1,0,true⟩:aU)];simp only[Ip]at h1;obtain⟨c',r1,r2,r3,r4⟩:=Vt hF d k (i+1) (c.set (2+10*i) 1) (zh w l [⟨a,1,1+1+(i:Int)*10,1,0,true⟩]) I I (by rw[gU];exact hc) I;refine⟨c',?_,by rw[r2,gU],λf h1 h2 => ?_,λx hx => ?_⟩
   ·rw[r1,Cd,Mj,show(1:Int)+1+(i:Int)*10=2+10*(i:Int) by omega];rfl
   ·by_cases e:f=i
    ·subst e;rw[r4 _ (λg h3 h4=>I),C7 I,bg rfl]
    ·exact r3 f I h2
   ·rw[r4 x (λf h3 h4=>hx f I h4),C7 I,cQ (hx i (gQ _) hi)]
  ·rw[ez];obtain rfl:d=0:=by omega
   exact⟨c,by rw[Mj,Mf],rfl,λf h1 h2=>I,λ_ _=>rfl⟩
def W3(B agb:Nat)(most:Int)(i:Nat):Nat->List cw
 | 0=>[]
 | d+1=>⟨((B+i*agb:Nat):Int),most⟩::W3 B agb most (i+1) d
theorem Rd{B agb:Nat}{most:Int}:∀(d i:Nat),(W3 B agb most i d).length=d
 | 0,i=>rfl
 | d+1,i=>by rw[W3,Bm,Rd d (i+1)]
theorem Vu{B agb:Nat}{most:Int}:∀(d i j:Nat),j<d->J (W3 B agb most i d) j=⟨((B+(i+j)*agb:Nat):Int),most⟩
 | d+1,i,0,_=>by rw[W3];rfl
 | d+1,i,j+1,h=>by
  have:=Vu (B:=B) (agb:=agb) (most:=most) d (i+1) j I;rw[show i+1+j=i+(j+1) by omega]at this;exact this
theorem aeA{sz a:Int}{w:Bool}{lI:dZ}(hl:ZM lI.cx lI.dP lI.jQ)(hs:sz<=2000000000){c:List Int}{l:List aU}(hc:c.length<=1000000000)(hll:l.length<=1000000000) :
 ((c.length:Int)+(4+lI.dP)<=sz->qQ (ar sz c l a w) lI.dP lI.jQ=some (⟨((c.length:Nat):Int),lI.jQ⟩,0,ar sz (((c++List.replicate (4+lI.dP).toNat 0).set (c.length+2) ((c.length:Nat)+3)).set (c.length+3) lI.dP)
  (zh w l [⟨a,4,(c.length:Nat),4+lI.dP,0,true⟩,⟨a,1,(c.length:Nat)+2,(c.length:Nat)+3,0,true⟩,⟨a,1,(c.length:Nat)+3,lI.dP,0,true⟩]) a w))/\
 (0<=sz->¬(c.length:Int)+(4+lI.dP)<=sz->qQ (ar sz c l a w) lI.dP lI.jQ=some (⟨0,0⟩,22,ar sz c l a w)):=by
 have h1:=hl.a1;have h2:=hl.a2;have h3:=hl.m2;unfold qQ uq;rw[bg h1,bg h2,uT h3,ax,bg rfl,fh (x:=(4:Int)+lI.dP) I];refine⟨λhf => ?_,λh0 hf => ?_⟩
 ·have k1:=Ac w l [(⟨a,4,(c.length:Nat),4+lI.dP,0,true⟩:aU)];simp only[Ip]at k1;rw[Mh I hs I hf,dA,bg rfl,fh (x:=((c.length:Nat):Int)+2) I,fh (x:=((c.length:Nat):Int)+3) I,Pz I I (by rw[jM,od];omega),fQ,bg rfl];have k2:=Ac w (zh w l [(⟨a,4,(c.length:Nat),4+lI.dP,0,true⟩:aU)]) [(⟨a,1,(c.length:Nat)+2,(c.length:Nat)+3,0,true⟩:aU)];simp only[Ip]at k2;rw[Pz I I (by rw[gU,jM,od];omega),fQ,bg rfl,Cd,Cd,show(((c.length:Nat):Int)+2).toNat=c.length+2 by omega,show(((c.length:Nat):Int)+3).toNat=c.length+3 by omega]
  rfl
 ·rw[Mi hs h0 I I hf,dA,cQ gB]
theorem acu{sz a:Int}{w:Bool}{lI:dZ}(hl:ZM lI.cx lI.dP lI.jQ)(hs:sz<=1000000000)(hs0:0<=sz){N B agb:Nat}(hN:N<=64)(hB:B<=100000)(hW:(agb:Int)=4+lI.dP){O:ag}{iS:Int}{rY:bp}{r32:gw}:∀(d k i:Nat) (c:List Int) (l:List aU) (D:List cw),i+d=N->d<k->c.length=B+i*agb->D.length=i->l.length+3*d<=1000000000->
 (((B+N*agb:Nat):Int)<=sz->∃c',jJ K O (N:Int) lI iS rY r32 k (ar sz c l a w) D (i:Int)=some (.inl (ar sz c' (zh w l (H6 a lI.dP (c.length:Nat) d)) a w,D++W3 B agb lI.jQ i d))/\rI sz (H6 a lI.dP (c.length:Nat) d)=H6 a lI.dP (c.length:Nat) d/\c'.length=B+N*agb/\(∀x,x<c.length->J c' x=J c x)/\
   (∀j,i<=j->j<N->∀r,r<agb->J c' (B+j*agb+r)=if r=2 then((B+j*agb+3:Nat):Int)else if r=3 then lI.dP else 0))/\
 (¬((B+N*agb:Nat):Int)<=sz->∃X c',jJ K O (N:Int) lI iS rY r32 k (ar sz c l a w) D (i:Int)=some (.inr (22,X,ar sz c' (zh w l (rI sz (H6 a lI.dP (c.length:Nat) d))) a w))/\(∀ys,rI sz (H6 a lI.dP (c.length:Nat) d++ys)=rI sz (H6 a lI.dP (c.length:Nat) d))∨((B+i*agb:Nat):Int)>sz/\d=0)
 | d,k,i,c,l,D,hd,hk,hc,hD,hll=>by
  obtain⟨k,rfl⟩ :∃m,k=m+1:=⟨k-1,I⟩;have h1:=hl.a1;have h2:=hl.a2;have h3:=hl.m2;have hiW:i*agb<=N*agb:=s9 agb I;have hNW:N*agb<=64*4100:=Nat.mul_le_mul hN I;rw[jJ];by_cases hi:i<N
  ·obtain⟨d,rfl⟩ :∃m,d=m+1:=⟨d-1,I⟩;have hsW:(i+1)*agb=i*agb+agb:=GP i agb;have afQ:(i+1)*agb<=N*agb:=s9 agb I;have W4:(((c++List.replicate (4+lI.dP).toNat (0:Int)).set (c.length+2) ((c.length:Nat)+3)).set (c.length+3) lI.dP).length=B+(i+1)*agb:=by
    rw[gU,gU,jM,od];omega
   rw[rD];obtain⟨n1,n2⟩:=aeA (a:=a) (w:=w) hl (by omega:sz<=2000000000) (c:=c) (l:=l) I I;by_cases hf:(c.length:Int)+(4+lI.dP)<=sz
   ·rw[n1 hf,dA,bg rfl,rD,Cl I];have X4:∀ys,rI sz ((⟨a,4,(c.length:Nat),4+lI.dP,0,true⟩:aU)::(⟨a,1,(c.length:Nat)+2,(c.length:Nat)+3,0,true⟩:aU)::(⟨a,1,(c.length:Nat)+3,lI.dP,0,true⟩:aU)::ys)=(⟨a,4,(c.length:Nat),4+lI.dP,0,true⟩:aU)::(⟨a,1,(c.length:Nat)+2,(c.length:Nat)+3,0,true⟩:aU)::(⟨a,1,(c.length:Nat)+3,lI.dP,0,true⟩:aU)::rI sz ys:=λys=>by
     rw[rI,cQ (λh=>absurd h.2 (by show ¬((c.length:Nat):Int)+(4+lI.dP)>sz;omega)),rI,cQ (λh=>absurd h.1 (by show ¬(1:Int)=4;decide)),rI,cQ (λh=>absurd h.1 (by show ¬(1:Int)=4;decide))]
    have k1:=Ac w l [(⟨a,4,(c.length:Nat),4+lI.dP,0,true⟩:aU),(⟨a,1,(c.length:Nat)+2,(c.length:Nat)+3,0,true⟩:aU),(⟨a,1,(c.length:Nat)+3,lI.dP,0,true⟩:aU)];simp only[Bm,zp]at k1;obtain⟨UI,ih2⟩:=acu hl hs hs0 hN hB hW (O:=O) (iS:=iS) (rY:=rY) (r32:=r32) (a:=a) (w:=w) d k (i+1) _ (zh w l [(⟨a,4,(c.length:Nat),4+lI.dP,0,true⟩:aU),(⟨a,1,(c.length:Nat)+2,(c.length:Nat)+3,0,true⟩:aU),(⟨a,1,(c.length:Nat)+3,lI.dP,0,true⟩:aU)]) (D++[⟨((c.length:Nat):Int),lI.jQ⟩]) I I W4 (by simp[hD]) I;have el:((B+(i+1)*agb:Nat):Int)=((c.length:Nat):Int)+(4+lI.dP):=by omega
    rw[W4,el]at UI ih2;refine⟨λhfit => ?_,λhno => ?_⟩
    ·obtain⟨c',r1,r0,r2,r3,r4⟩:=UI hfit;refine⟨c',?_,?_,r2,λx hx => ?_,λj h5 h6 r h7 => ?_⟩
     ·rw[r1,Cd,H6,W3,rK,hc];rfl
     ·rw[H6,X4,r0]
     ·rw[r3 x I,C7 (by rw[gU,jM,od];omega),ez,C7 (by rw[jM,od];omega),ez,tV hx]
     ·by_cases e:j=i
      ·subst e;rw[r3 _ I,<-hc,C7 (by rw[gU,jM,od];omega),C7 (by rw[jM,od];omega),xJ I,show c.length+r-c.length=r by omega,Fq I];by_cases e2:r=2
       ·subst e2;rw[ez,bg rfl,bg rfl];omega
       ·by_cases e3:r=3
        ·subst e3;rw[bg rfl,ez,bg rfl]
        ·rw[ez,ez,cQ e2,cQ e3]
      ·exact r4 j I h6 r h7
    ·obtain⟨X,c',⟨r1,r2⟩ | r1⟩:=ih2 hno
     ·exact⟨X,c',.inl ⟨by rw[r1,Cd,H6,X4];rfl,λys=>by rw[H6,uS,uS,uS,X4,X4,r2 ys]⟩⟩
     ·exfalso;omega
   ·have e2:=n2 hs0 hf;refine⟨λhfit=>by exfalso;omega,λhno => ?_⟩;rw[e2,dA,cQ gB];have e3:zh w l (rI sz (H6 a lI.dP (c.length:Nat) (d+1)))=l:=by
     rw[H6,rI,bg ⟨rfl,by show((c.length:Nat):Int)+(4+lI.dP)>sz;omega⟩,Mf]
    rw[e3];exact⟨_,c,.inl ⟨rfl,λys=>by rw[H6,uS,rI,rI,bg ⟨rfl,by show((c.length:Nat):Int)+(4+lI.dP)>sz;omega⟩,bg ⟨rfl,by show((c.length:Nat):Int)+(4+lI.dP)>sz;omega⟩]⟩⟩
  ·obtain rfl:d=0:=by omega
   obtain rfl:i=N:=by omega
   rw[ez];refine⟨λhfit=>⟨c,by rw[H6,Mf,W3,B3],rfl,hc,λ_ _=>rfl,λj h5 h6=>I⟩,λhno=>⟨O,c,.inr ⟨I,rfl⟩⟩⟩
def vF(a:Int)(N F:Nat)(first:Int):List aU:=
 [⟨a,4,0,1,0,true⟩,⟨a,4,1,1+10*(F:Int),0,true⟩]++Mj a 0 F++(⟨a,4,2+10*(F:Int),2+(N:Int),0,true⟩::H6 a first (4+10*F+N:Nat) N++[⟨a,3,1,1,1,true⟩])
theorem PA{sz a:Int}{w:Bool}{F:Nat}(h1:1<=F)(h2:F<=4096)(hs:sz<=1000000000)(hs0:0<=sz)(hK:5000<K){l:List aU}(hl:l.length<=100) :
 ((2+10*F:Int)<=sz->∃c,pQ K (ar sz [0] l a w) (F:Int)=some (⟨1,F⟩,0,ar sz c (zh w l (⟨a,4,1,1+10*(F:Int),0,true⟩::Mj a 0 F)) a w)/\c.length=2+10*F/\(∀f,f<F->J c (2+10*f)=1)/\(∀x,x<2+10*F->(∀f,f<F->x≠2+10*f)->J c x=0))/\
 (¬(2+10*F:Int)<=sz->pQ K (ar sz [0] l a w) (F:Int)=some (⟨0,0⟩,22,ar sz [0] l a w)):=by
 unfold pQ sY;rw[cQ (show ¬(F:Int)<1 by omega),cQ (show ¬(F:Int)>4096 by omega),fh (x:=(F:Int)*10) I,fh (x:=1+(F:Int)*10) I,ax,cQ (show ¬1+(F:Int)*10=0 by omega),ax];refine⟨λhf => ?_,λhf => ?_⟩
 ·rw[Mh I I I (by show((1:Nat):Int)+(1+(F:Int)*10)<=sz;omega),dA,bg rfl];have k1:=Ac w l [(⟨a,4,1,1+(F:Int)*10,0,true⟩:aU)];simp only[Ip]at k1;obtain⟨c,r1,r2,r3,r4⟩:=Vt (K:=K) (sz:=sz) (a:=a) (w:=w) h2 F K 0 ([0]++List.replicate (1+(F:Int)*10).toNat 0) (zh w l [⟨a,4,1,1+(F:Int)*10,0,true⟩]) I I (by rw[jM,od];simp;omega) I;rw[qz]at r1;refine⟨c,?_,by rw[r2,jM,od];simp;omega,λf hf=>r3 f (w7 _) hf,λx hx hn => ?_⟩
  ·show jI K (F:Int) ((1:Nat):Int) K (ar sz ([0]++List.replicate (1+(F:Int)*10).toNat 0) (zh w l [⟨a,4,((1:Nat):Int),1+(F:Int)*10,0,true⟩]) a w) 0=_;rw[show((1:Nat):Int)=1 from rfl,r1,Cd,show 1+(F:Int)*10=1+10*(F:Int) by omega];rfl
  ·rw[r4 x (λf _ h=>hn f h)];by_cases e:x=0
   ·subst e;rfl
   ·rw[xJ (by simp;omega),Fq (by simp;omega)]
 ·rw[Mi I hs0 (by simp) I (by show ¬((1:Nat):Int)+(1+(F:Int)*10)<=sz;omega),dA,cQ gB]
theorem Vv{sz a:Int}{w:Bool}{N:Nat}(h1:1<=N)(h2:N<=64)(hs:sz<=1000000000)(hs0:0<=sz){c:List Int}(hc:c.length<=100000){l:List aU}(hl:l.length<=100000) :
 ((c.length+2+N:Int)<=sz->sv (ar sz c l a w) (N:Int)=some (⟨(c.length:Nat),N⟩,0,ar sz (c++List.replicate (2+N) 0) (zh w l [⟨a,4,(c.length:Nat),2+(N:Int),0,true⟩]) a w))/\
 (¬(c.length+2+N:Int)<=sz->sv (ar sz c l a w) (N:Int)=some (⟨0,0⟩,22,ar sz c l a w)):=by
 unfold sv pY;rw[cQ (show ¬(N:Int)<1 by omega),cQ (show ¬(N:Int)>64 by omega),fh (x:=2+(N:Int)) I,ax,cQ (show ¬2+(N:Int)=0 by omega),ax];refine⟨λhf => ?_,λhf => ?_⟩
 ·rw[Mh I I I I,dA,bg rfl,show(2+(N:Int)).toNat=2+N by omega]
 ·rw[Mi I hs0 I I I,dA,cQ gB]
theorem aaT{sz a:Int}{w:Bool}{N F agb:Nat}{lI:dZ}(hl:ZM lI.cx lI.dP lI.jQ)(hF:lI.cx=F)(ZN:1<=N)(hN:N<=64)(hW:(agb:Int)=4+lI.dP)(hs:sz<=1000000000)(hs0:0<=sz)(hK:5000<K){O:ag}(hp:O.ei=[]) :
 (((4+10*F+N+N*agb:Nat):Int)<=sz->∃c,pR K O (ar sz [] [] a w) (N:Int) lI=some (0,⟨O.code,0,1,F,2+10*(F:Int),N,W3 (4+10*F+N) agb lI.jQ 0 N,O.aM,O.aj,O.value,O.left⟩,ar sz c (zh w [] (vF a N F lI.dP)) a w)/\rI sz (vF a N F lI.dP)=vF a N F lI.dP/\Rc N F agb lI.dP c)/\
 (¬((4+10*F+N+N*agb:Nat):Int)<=sz->∃X c,pR K O (ar sz [] [] a w) (N:Int) lI=some (22,X,ar sz c (zh w [] (rI sz (vF a N F lI.dP))) a w)):=by
 have f1:=hl.f1;have f2:=hl.f2;have h1:=hl.a1;have h2:=hl.a2;have h3:=hl.m2;have hNW:N*agb<=64*4100:=Nat.mul_le_mul hN I;unfold pR;rw[hF];by_cases s1:¬(1:Int)<=sz
 ·rw[Mi (c:=[]) I hs0 (by simp) I (by show ¬((0:Nat):Int)+1<=sz;omega),dA,cQ gB];refine⟨λh=>by exfalso;omega,λ_ => ?_⟩;have:zh w [] (rI sz (vF a N F lI.dP))=[]:=by
   rw[vF,uS,uS,rI,bg ⟨rfl,by show(0:Int)+1>sz;omega⟩,Mf]
  rw[this];exact⟨_,[],rfl⟩
 have s1:=Decidable.not_not.1 s1;rw[Mh (c:=[]) (by simp) I I (by show((0:Nat):Int)+1<=sz;omega),dA,bg rfl];have k0:=Ac w [] [(⟨a,4,(([]:List Int).length:Nat),1,0,true⟩:aU)];simp only[Ip,zp]at k0;obtain⟨fr1,fr2⟩:=PA (K:=K) (sz:=sz) (a:=a) (w:=w) (F:=F) I I hs hs0 hK (l:=zh w [] [(⟨a,4,(([]:List Int).length:Nat),1,0,true⟩:aU)]) (by simp only[zp];omega);have Xh:rI sz (vF a N F lI.dP)=⟨a,4,0,1,0,true⟩::rI sz (⟨a,4,1,1+10*(F:Int),0,true⟩::Mj a 0 F++(⟨a,4,2+10*(F:Int),2+(N:Int),0,true⟩::H6 a lI.dP (4+10*F+N:Nat) N++[⟨a,3,1,1,1,true⟩])):=by
  rw[vF,uS,uS,rI,cQ (λh=>absurd h.2 (by show ¬(0:Int)+1>sz;omega))];rfl
 have e0:ar sz ([]++List.replicate (1:Int).toNat 0) (zh w [] [(⟨a,4,(([]:List Int).length:Nat),1,0,true⟩:aU)]) a w=ar sz [0] (zh w [] [(⟨a,4,(([]:List Int).length:Nat),1,0,true⟩:aU)]) a w:=rfl;rw[e0];by_cases s2:¬(2+10*F:Int)<=sz
 ·rw[fr2 s2,dA,cQ gB];refine⟨λh=>by exfalso;omega,λ_ => ?_⟩;rw[Xh,uS,rI,bg ⟨rfl,by show(1:Int)+(1+10*(F:Int))>sz;omega⟩];exact⟨_,_,rfl⟩
 have s2:=Decidable.not_not.1 s2;obtain⟨c1,q1,q2,q3,q4⟩:=fr1 s2;rw[q1,dA,bg rfl];have M9:rI sz (vF a N F lI.dP)=⟨a,4,0,1,0,true⟩::⟨a,4,1,1+10*(F:Int),0,true⟩::(Mj a 0 F++rI sz (⟨a,4,2+10*(F:Int),2+(N:Int),0,true⟩::H6 a lI.dP (4+10*F+N:Nat) N++[⟨a,3,1,1,1,true⟩])):=by
  rw[Xh,uS,rI,cQ (λh=>absurd h.2 (by show ¬(1:Int)+(1+10*(F:Int))>sz;omega)),GW _ _ (Od F 0)]
 have kf:(⟨a,4,1,1+10*(F:Int),0,true⟩::Mj a 0 F:List aU).length=F+1:=by rw[Bm,Ra]
 have k1:=Ac w (zh w [] [(⟨a,4,(([]:List Int).length:Nat),1,0,true⟩:aU)]) (⟨a,4,1,1+10*(F:Int),0,true⟩::Mj a 0 F);rw[kf]at k1;obtain⟨pk1,pk2⟩:=Vv (sz:=sz) (a:=a) (w:=w) (N:=N) ZN hN hs hs0 (c:=c1) I (l:=zh w (zh w [] [(⟨a,4,(([]:List Int).length:Nat),1,0,true⟩:aU)]) (⟨a,4,1,1+10*(F:Int),0,true⟩::Mj a 0 F)) (by simp only[zp];simp only[zp]at k1;omega);by_cases s3:¬(c1.length+2+N:Int)<=sz
 ·rw[pk2 s3,dA,cQ gB];refine⟨λh=>by exfalso;omega,λ_ => ?_⟩;rw[M9,uS,rI,bg ⟨rfl,by show 2+10*(F:Int)+(2+(N:Int))>sz;omega⟩,B3];rw[Cd];exact⟨_,c1,rfl⟩
 have s3:=Decidable.not_not.1 s3;rw[pk1 s3,dA,bg rfl,hp,Cd,Cd];have W4:(c1++List.replicate (2+N) 0).length=4+10*F+N:=by rw[jM,od];omega
 have kl:∀X:List aU,X.length<=100000->(zh w [] X).length<=100000:=λX hX=>ET (Ac w [] X) (by simpa using hX);obtain⟨d1,d2⟩:=acu (K:=K) hl hs hs0 hN (B:=4+10*F+N) I hW (O:=O) (iS:=((([]:List Int).length:Nat):Int)) (rY:=⟨1,F⟩) (r32:=⟨(c1.length:Nat),N⟩) (a:=a) (w:=w) N K 0 (c1++List.replicate (2+N) 0)
  (zh w [] ([(⟨a,4,(([]:List Int).length:Nat),1,0,true⟩:aU)]++(⟨a,4,1,1+10*(F:Int),0,true⟩::Mj a 0 F++[⟨a,4,(c1.length:Nat),2+(N:Int),0,true⟩]))) [] I I (by rw[W4];omega) rfl (by
   have:=kl ([(⟨a,4,(([]:List Int).length:Nat),1,0,true⟩:aU)]++(⟨a,4,1,1+10*(F:Int),0,true⟩::Mj a 0 F++[⟨a,4,(c1.length:Nat),2+(N:Int),0,true⟩])) (by rw[jM,jM,kf];simp;omega);omega)
 rw[W4]at d1 d2;rw[qz]at d1 d2;have hc3:rI sz (vF a N F lI.dP)=⟨a,4,0,1,0,true⟩::⟨a,4,1,1+10*(F:Int),0,true⟩::(Mj a 0 F++(⟨a,4,2+10*(F:Int),2+(N:Int),0,true⟩::rI sz (H6 a lI.dP (4+10*F+N:Nat) N++[⟨a,3,1,1,1,true⟩]))):=by
  rw[M9,uS,rI,cQ (λh=>absurd h.2 (by show ¬2+10*(F:Int)+(2+(N:Int))>sz;omega))]
 by_cases s4:¬((4+10*F+N+N*agb:Nat):Int)<=sz
 ·refine⟨λh=>absurd h s4,λ_ => ?_⟩;obtain⟨X,c',⟨r1,r2⟩ | r1⟩:=d2 s4
  ·rw[r1,Xm,Cd,hc3,r2];refine⟨X,c',?_⟩
   congr 5
   rw[q2];simp only[uS,Bo,rK,zp];rw[show((2+10*F:Nat):Int)=2+10*(F:Int) by omega];rfl
  ·exfalso;omega
 have s4:=Decidable.not_not.1 s4;refine⟨λ_ => ?_,λh=>absurd s4 h⟩;obtain⟨c',r1,r0,r2,r3,r4⟩:=d1 s4;have b0:J c' 1=0:=by
  rw[r3 1 I,tV I,q4 1 I (λf _=>I)]
 have kk:∀X:List aU,X.length<=100000->(zh w [] X).length<=100000:=λX hX=>ET (Ac w [] X) (by simpa using hX);have kd:=Rb (a:=a) (first:=lI.dP) N (4+10*F+N:Nat);have ea:∀l:List aU,l.length<=100000->(dX (nZ (⟨1,F⟩:bp)) λr75=>uE (dg (ar sz c' l a w) r75) λOU WW=>uE (jd OU) λTK K5=>some (TK,WW))=some (4,ar sz (c'.set 1 1) (zh w l [⟨a,3,1,1,1,true⟩]) a w):=λl hl=>by
  unfold nZ kP rj;simp only[bg (show(1:Int)>=0 by decide),bg (show(F:Int)>=1 by omega),bg (show(F:Int)<=4096 by omega),bg (show(0:Int)>=0 by decide),uT (show(0:Int)<F by omega),ax,if_true,cQ (show ¬(0:Int)<0 by decide),cQ (show ¬(0:Int)>=8 by decide)];unfold dg jN pZ
  dsimp only
  rw[cQ gB,bg rfl,ax,aaS I gB I,dA,bg rfl];rw[show(1:Int).toNat=1 from rfl,b0,show wi ((0:Int)+1)=1 from rfl,bg gB,uT (show(1:Int)<=(F:Int) by omega),ax,bg rfl]
  rfl
 have ea2:∀(l:List aU),l.length<=100000->∀(f:Int->af->Option (Int×ag×af)),(dX (nZ (⟨1,F⟩:bp)) λr75=>uE (dg (ar sz c' l a w) r75) λOU WW=>uE (jd OU) λTK K5=>f TK WW)=f 4 (ar sz (c'.set 1 1) (zh w l [⟨a,3,1,1,1,true⟩]) a w):=λl hl f=>by
  have h:=ea l hl;cases e1:nZ (⟨1,F⟩:bp)with
  | none=>rw[e1]at h;simp[dX]at h
  | some x =>
   rw[e1,ax]at h;rw[ax];cases e2:dg (ar sz c' l a w) x with
   | none=>rw[e2]at h;simp[uE]at h
   | some y =>
    obtain⟨y1,y2⟩:=y;rw[e2,fQ]at h;rw[fQ];cases e3:jd y1 with
    | none=>rw[e3]at h;simp[uE]at h
    | some u =>
     obtain⟨u1,u2⟩:=u;rw[e3,fQ]at h;rw[fQ];have:=Prod.mk.inj (Option.some.inj h);rw[this.1,this.2]
 have hlen:∀X:List aU,X.length<=100000->(zh w (zh w [] X) (H6 a lI.dP (4+10*F+N:Nat) N)).length<=200000:=λX hX=>by
  have:=Ac w (zh w [] X) (H6 a lI.dP (4+10*F+N:Nat) N);have:=kk X hX;omega
 rw[r1,Xl,Cd,ea2 _ (kk _ (by rw[jM,jM,jM,kf,kd];simp;omega)) (λTK WW=>if TK=4 then some (0,_,WW)else some (22,_,WW)),bg rfl];have aeB:rI sz (vF a N F lI.dP)=vF a N F lI.dP:=by
  rw[hc3];rw[Oc _ _ r0,show rI sz [(⟨a,3,1,1,1,true⟩:aU)]=[⟨a,3,1,1,1,true⟩] by rw[rI,cQ (λh=>absurd h.1 (by show ¬(3:Int)=4;decide)),rI],vF];simp only[uS,Bo,rK]
 refine⟨c'.set 1 1,?_,aeB,?_⟩
 ·rw[Cd,q2];refine nR some (CB rfl (CB ?_ ?_))
  ·simp only[Bo,zp];rw[show((2+10*F:Nat):Int)=2+10*(F:Int) by omega];rfl
  ·have:(([(⟨a,4,(([]:List Int).length:Nat),1,0,true⟩:aU)]++(⟨a,4,1,1+10*(F:Int),0,true⟩::Mj a 0 F++[⟨a,4,((2+10*F:Nat):Int),2+(N:Int),0,true⟩]))++H6 a lI.dP (4+10*F+N:Nat) N)++[⟨a,3,1,1,1,true⟩]=vF a N F lI.dP:=by
    rw[vF,show((2+10*F:Nat):Int)=2+10*(F:Int) by omega];simp only[uS,Bo,rK,zp];rfl
   rw[this]
 ·have FQ:(c'.set 1 (1:Int)).length=c'.length:=gU;refine⟨by rw[FQ,r2],?_,?_,λf hf r hr => ?_,λr hr => ?_,λi hi r hr => ?_⟩
  ·rw[C7 I,cQ gB,r3 0 I,tV I,q4 0 I (λf _=>I)]
  ·rw[C7 I,bg rfl]
  ·rw[C7 I,ez,r3 _ I,tV I];by_cases e:r=0
   ·subst e;rw[bg rfl];exact q3 f hf
   ·rw[cQ e,q4 _ I (λg _=>I)]
  ·rw[C7 I,ez,r3 _ I,xJ I,Fq I]
  ·have:=s9 agb (show i+1<=N by omega);rw[GP]at this;rw[C7 I,ez];exact r4 i (w7 _) hi r hr
end
section
variable {K:Nat}
theorem zF{α:Type}[Inhabited α]{l:List α}{i:Nat}(h:i<l.length):l.drop i=J l i::l.drop (i+1):=by
 rw[Qm h];unfold J;rw[List.getD_eq_getElem?_getD,List.getElem?_eq_getElem h];rfl
theorem Vw{p:aE}(hv:Valid p):∀(d k i:Nat) (l:List aB),i+d=p.ah.length->d<k->l.length=i->iy K p k l (i:Int)=some (l++p.ah.drop i)
 | d,k,i,l,hd,hk,hl=>by
  obtain⟨k,rfl⟩ :∃m,k=m+1:=⟨k-1,I⟩;have:=hv.n32;rw[iy];by_cases hi:i<p.ah.length
  ·obtain⟨d,rfl⟩ :∃m,d=m+1:=⟨d-1,I⟩;have:=(hv.HZ i hi).J4;rw[rD,bg ⟨I,I⟩,di,bg (by simp;omega),rD,Cl I,Bo,Vw hv d k (i+1) _ I I (by simp[hl]),zF hi,rK];rfl
  ·rw[ez,zn I,B3]
def aeC:cu:=⟨0,0,0,0,0,0,0,0,0,0,0,0,0,false,0,0⟩
def aeD:bM:=⟨0,0,0,0,0,0,0,0,0⟩
def aeE:ct:=⟨0,0,0,0,0,0,0,0,0,List.replicate 64 ⟨0,0⟩,⟨0,0,0,0,0,0,0,0,0,0,0,0,0,false,0,0⟩⟩
def PB(i:Int):bK:=⟨i,9,-1,0,0,0,0,0,aeC,aeD,aeE,false⟩
def Ad(i:Nat):Nat->List bK
 | 0=>[]
 | d+1=>PB i::Ad (i+1) d
theorem BN:∀(d i:Nat),(Ad i d).length=d
 | 0,i=>rfl
 | d+1,i=>by rw[Ad,Bm,BN d (i+1)]
theorem Gw:∀(d i j:Nat),j<d->J (Ad i d) j=PB ((i+j:Nat):Int)
 | d+1,i,0,_=>rfl
 | d+1,i,j+1,h=>by
  have:=Gw d (i+1) j I;rw[show i+1+j=i+(j+1) by omega]at this;exact this
theorem Oe{N:Nat}(hN:N<=64):∀(d k i:Nat) (l:List bK),i+d=N->d<k->l.length=i->iz K (N:Int) k l (i:Int)=some (l++Ad i d)
 | d,k,i,l,hd,hk,hl=>by
  obtain⟨k,rfl⟩ :∃m,k=m+1:=⟨k-1,I⟩;rw[iz];by_cases hi:i<N
  ·obtain⟨d,rfl⟩ :∃m,d=m+1:=⟨d-1,I⟩;rw[rD,rD,Cl I,Oe hN d k (i+1) _ I I (by simp[hl]),Ad,rK];rfl
  ·rw[ez];obtain rfl:d=0:=by omega
   rw[Ad,B3]
def Vx:aX:=⟨0,0,0,0,0,0,List.replicate 16 0⟩
def acv(p:aE)(args:List Int)(N F agb:Nat)(most:Int):ag:=
 { code:=p.ah,result:=0,dB:=1,cL:=F,gE:=2+10*(F:Int),dV:=N,ei:=W3 (4+10*F+N) agb most 0 N,
   aM:=(List.replicate F Vx).set 0 ⟨0,0,-1,0,0,1,E8 16 args (List.replicate 16 0)⟩,
   aj:=(Ad 0 N).set 0 {PB 0 with az:=0,from_:=-1,aO:=0},value:=0,left:=false}
theorem PC{α:Type}{l:List α}{i:Nat}{x y:α}:(l.set i x).set i y=l.set i y:=by rw[nE]
theorem aaU{sz a:Int}{w:Bool}{p:aE}{args:List Int}{N F agb:Nat}{lI:dZ}(hv:Valid p)(ha:(args.length:Int)=(J p.ah 0).aS)(hl:ZM lI.cx lI.dP lI.jQ)(hF:lI.cx=F)(ZN:1<=N)(hN:N<=64)(hW:(agb:Int)=4+lI.dP)(hs:sz<=1000000000)(hs0:0<=sz)(hK:5000<K)(hr:nX K p args (N:Int) lI=some 0) :
 (((4+10*F+N+N*agb:Nat):Int)<=sz->∃c,mA K (ar sz [] [] a w) p args (N:Int) lI=some (some (acv p args N F agb lI.jQ),0,ar sz c (zh w [] (vF a N F lI.dP)) a w)/\rI sz (vF a N F lI.dP)=vF a N F lI.dP/\Rc N F agb lI.dP c)/\
 (¬((4+10*F+N+N*agb:Nat):Int)<=sz->∃c,mA K (ar sz [] [] a w) p args (N:Int) lI=some (none,22,ar sz c (zh w [] (rI sz (vF a N F lI.dP))) a w)):=by
 have f1:=hl.f1;have f2:=hl.f2;have hp8:=(hv.HZ 0 (by have:=hv.n1;omega)).p8;have ZO:=Vw (K:=K) hv p.ah.length K 0 [] I (by have:=hv.n32;omega) rfl;rw[qz,Bo,nS]at ZO;unfold mA;rw[hr,ax,bg rfl,bg ⟨I,I⟩,ZO,ax];obtain⟨l1,l2⟩:=aaT (K:=K) (a:=a) (w:=w) hl hF ZN hN hW hs hs0 hK (O:=(⟨p.ah,0,0,0,0,0,([]:List cw),List.replicate lI.cx.toNat (⟨0,0,0,0,0,0,List.replicate 16 (0:Int)⟩:aX),([]:List bK),0,false⟩:ag)) rfl;refine⟨λhf => ?_,λhf => ?_⟩
 ·obtain⟨c,e1,e2,e3⟩:=l1 hf;have hFt:lI.cx.toNat=F:=by omega
  have hact:=Oe (K:=K) hN N K 0 [] I I rfl;rw[qz,Bo]at hact;refine⟨c,?_,e2,e3⟩;rw[e1,dA,bg rfl]
  dsimp only
  rw[hFt,bg ⟨gB,by rw[od];omega⟩,bg ⟨gB,by rw[gU,od];omega⟩,rD,hact,ax,bg ⟨gB,by rw[BN];omega⟩];rw[PC,PC,PC,Gw N 0 0 I]
  rfl
 ·obtain⟨X,c,e1⟩:=l2 hf;rw[e1,dA,cQ gB];exact⟨c,rfl⟩
end
end Mo
end
section
namespace Am
def ck{α β:Type}[DecidableEq α](f:α->β)(a:α)(v:β):α->β:=λx=>if x=a then v else f x
@[simp] theorem aC{α β:Type}[DecidableEq α](f:α->β)(a:α)(v:β):ck f a v a=v:=by simp[ck]
theorem aA{α β:Type}[DecidableEq α]{f:α->β}{a x:α}{v:β}(h:x≠a):ck f a v x=f x:=by simp[ck,h]
theorem cG{α β:Type}[DecidableEq α](f:α->β)(a x:α)(v:β):ck f a v x=if x=a then v else f x:=rfl
inductive Ins
 | const (a:Nat) (k:Int) | move (a b:Nat) | arith (op:Int) (a b c:Nat) | jump (a:Nat) | branch (a b:Nat)
 | spawn (s f c:Nat) | sync | load (a s:Nat) | mN (a:Nat) | ret (a:Nat)
deriving DecidableEq,Inhabited
structure jv where
 N:Nat
 F:Nat
 first:Nat
 most:Nat
 Re:Nat
 len:Nat->Nat
 params:Nat->Nat
 bu:Nat->Nat
 code:Nat->Nat->Ins
 ap:Int->Int->Int->Int
 pd:Int->Nat->Int
inductive uF
 | result | next | join (f:Nat) | mark (f:Nat) | slot (f s:Nat) | An | HG | flag (i:Nat)
 | top (i:Nat) | bot (i:Nat) | buf (i:Nat) | cap (i g:Nat) | el (i g n:Nat)
deriving DecidableEq
structure Fr where
 fn:Nat
 J:Nat
 par:Nat
 slot:Nat
 bD:Nat
 mN:Int
 bu:Nat->Int
structure Ev where
 kind:Nat
 az:Int
 x:Int
 v:Int
structure Acc where
 kind:Nat
 a:uF
 x:Int
 y:Int
 ok:Bool
inductive Pc
 | halted | full | start (x:Int) | run | fork (c:Nat) | nB | out (p c:Nat) | take (p c:Nat)
 | done | tell (j:Nat) | BO (j:Nat)
 | ya (c:Nat) | wG (c:Nat) (b:Int) | oF (c:Nat) (b t:Int) | oG (c:Nat) (b t:Int)
 | grow (c:Nat) (b t cc:Int) | lY (c:Nat) (b t cc:Int) | js (c:Nat) (b t cc n:Int)
 | iZ (c:Nat) (b t cc n x:Int) | lD (c:Nat) (b t cc:Int) | ja (c:Nat) (b cc:Int) | nC (c:Nat) (b:Int)
 | Cs | vk (j:Nat) | yq (j:Nat)
 | Ae | uL (b:Int) | oh (b:Int) | zi (b:Int) | sC (t:Int) | sD (b t:Int)
 | nD (b t cc:Int) | qH (b t x:Int) | oP (t x:Int) (Bi:Bool)
 | lS | yR (v:Nat) (t:Int) | ud (v:Nat) (t:Int) | tu (v:Nat) (t:Int) (g:Nat)
 | qX (v:Nat) (t:Int) (g:Nat) (cc:Int) | qm (v:Nat) (t x:Int)
 | HH | flag | sleep | yS | GY (j:Nat) | GZ (j:Nat) (t:Int) | parked | back (h:Bool) | zG (h:Bool)
deriving DecidableEq
inductive Loc
 | free | bW (i:Nat) | Of (i:Nat) | pop (i:Nat) | held (i:Nat) | uy (i:Nat) | waiting | qJ (i:Nat) | fin (i:Nat) | gone
deriving DecidableEq
structure St where
 mem:uF->Int
 pc:Nat->Pc
 hold:Nat->Option Nat
 iE:Nat->Nat
 fr:Nat->Fr
 nf:Nat
 cur:Nat->Nat
 base:Nat->Nat->Int
 size:Int
 val:Option Int
 Mk:Bool
 loc:Nat->Loc
 q:Nat->List Nat
 pop:Nat->Option Nat
 bD:Nat->List Nat
structure Out where
 s:St
 ev:Option Ev
 acc:Option Acc
def ix(n c:Int):Nat:=(n%c).toNat
def jb(C:jv)(cc:Int):Int:=if 2*cc<=C.most then 2*cc else C.most
def Kp(C:jv)(i:Nat):Nat:=(i+1)%C.N
namespace St
def wr(s:St)(a:uF)(v:Int):St:={s with mem:=ck s.mem a v}
def to(s:St)(i:Nat)(p:Pc):St:={s with pc:=ck s.pc i p}
def holds(s:St)(i:Nat)(f:Option Nat):St:={s with hold:=ck s.hold i f}
def put(s:St)(f:Nat)(l:Loc):St:={s with loc:=ck s.loc f l}
def uM(s:St)(i n:Nat):St:={s with iE:=ck s.iE i n}
def lay(s:St)(f:Nat)(x:Fr):St:={s with fr:=ck s.fr f x}
def sS(s:St)(j:Nat)(l:List Nat):St:={s with q:=ck s.q j l}
def oq(s:St)(i:Nat)(x:Option Nat):St:={s with pop:=ck s.pop i x}
def HI(s:St)(f:Nat)(l:List Nat):St:={s with bD:=ck s.bD f l}
end St
def rM(a:uF)(v:Int):Option Acc:=some ⟨0,a,v,0,true⟩
def tL(a:uF)(v:Int):Option Acc:=some ⟨1,a,v,0,true⟩
def Kq(a:uF)(o n:Int)(ok:Bool):Option Acc:=some ⟨2,a,o,n,ok⟩
def DS(a:uF)(d v:Int):Option Acc:=some ⟨3,a,d,v,true⟩
def aaV(a:uF)(n:Int):Option Acc:=some ⟨4,a,n,0,true⟩
def ev(k:Nat)(f x v:Int):Option Ev:=some ⟨k,f,x,v⟩
def n8(s:St)(C:jv)(i j:Nat)(acc:Option Acc):Out:=
 if j=i then⟨s.to i .halted,ev 10 0 0 0,acc⟩else⟨s.to i (.tell j),none,acc⟩
def looking(s:St)(C:jv)(i j:Nat)(acc:Option Acc):Out:=
 if j=i then⟨s.to i .parked,ev 9 0 0 0,acc⟩else⟨s.to i (.GY j),none,acc⟩
def AW(s:St)(C:jv)(i:Nat):St:=s.to i (if C.N=1 then .flag else .lS)
def C8(s:St)(C:jv)(i:Nat)(h:Bool)(acc:Option Acc):Out:=
 if h then⟨s.to i .halted,ev 10 0 0 0,acc⟩else⟨AW (s.uM i 0) C i,none,acc⟩
def got(s:St)(i:Nat)(x:Int)(v:Int):St:=
 ((s.holds i (some x.toNat)).to i (.start v)).put x.toNat (.held i)
def kR(C:jv)(p:Fr)(f:Nat)(sl g c:Nat):Fr:=
 { fn:=g,J:=0,par:=f,slot:=sl,bD:=0,mN:=C.pd p.mN p.bD,bu:=λr=>if r<C.params g then p.bu (c+r)else 0}
def instr(C:jv)(s:St)(i:Nat):Out:=
 let f:=(s.hold i).getD 0
 let x:=s.fr f
 let y:Fr:={x with J:=x.J+1}
 match C.code x.fn x.J with
 | .const a k=>⟨s.lay f {y with bu:=ck x.bu a k},none,none⟩
 | .move a b=>⟨s.lay f {y with bu:=ck x.bu a (x.bu b)},none,none⟩
 | .arith op a b c=>⟨s.lay f {y with bu:=ck x.bu a (C.ap op (x.bu b) (x.bu c))},none,none⟩
 | .jump a=>⟨s.lay f {y with J:=a},none,none⟩
 | .branch a b=>⟨s.lay f (if x.bu a≠0 then {y with J:=b}else y),none,none⟩
 | .mN a=>⟨s.lay f {y with bu:=ck x.bu a x.mN},none,none⟩
 | .load a sl=>⟨s.lay f {y with bu:=ck x.bu a (s.mem (.slot f sl))},none,rM (.slot f sl) (s.mem (.slot f sl))⟩
 | .spawn sl g c =>
  let n:=s.mem .next+1
  let s:=(s.wr .next n).lay f y
  if (C.F:Int)<=n-1 then⟨{s with Mk:=true}.to i .full,ev 11 (-1) 0 0,DS .next 1 n⟩
  else ⟨{((s.lay f {y with bD:=x.bD+1}).lay s.nf (kR C x f sl g c))with nf:=s.nf+1}.put s.nf (.bW i) |>.to i (.fork s.nf),none,DS .next 1 n⟩
 | .sync =>
  let n:=s.mem (.join f)-1
  let s:=(s.wr (.join f) n).lay f y
  if 0<n then⟨((s.holds i none).to i .Ae).put f .waiting,ev 4 f 0 0,DS (.join f) (-1) n⟩
  else ⟨(s.to i .nB).put f (.uy i),none,DS (.join f) (-1) n⟩
 | .ret a =>
  let v:=x.bu a
  let s:=s.lay f y
  if f=0 then⟨{(((s.wr .result v).holds i none).to i .done).put 0 (.fin i)with val:=some v},ev 6 0 (-1) v,tL .result v⟩
  else ⟨(((s.wr (.slot x.par x.slot) v).holds i none).to i (.out x.par f)).put f (.fin i),ev 6 f x.par v,tL (.slot x.par x.slot) v⟩
def aH(C:jv)(s:St)(i:Nat)(d:Int):Out:=
 let f:=(s.hold i).getD 0
 match s.pc i with
 | .halted | .full=>⟨s,none,none⟩
 | .start x=>let v:=s.mem (.mark f)+1;⟨(s.wr (.mark f) v).to i .run,ev 1 f x v,DS (.mark f) 1 v⟩
 | .run=>instr C s i
 | .fork c=>let v:=s.mem (.join f)+1;⟨((s.wr (.join f) v).HI f (c::s.bD f)).to i (.ya c),none,DS (.join f) 1 v⟩
 | .nB=>⟨((s.wr (.join f) 1).to i .run).put f (.held i),ev 5 f 0 0,tL (.join f) 1⟩
 | .out p c =>
  let n:=s.mem (.join p)-1
  let s:=((s.wr (.join p) n).HI p ((s.bD p).erase c)).put c .gone
  if n=0 then⟨(s.to i (.take p c)).put p (.qJ i),none,DS (.join p) (-1) n⟩else⟨s.to i .Ae,none,DS (.join p) (-1) n⟩
 | .take p c=>⟨(((s.wr (.join p) 1).holds i (some p)).to i .run).put p (.held i),ev 7 p c 0,tL (.join p) 1⟩
 | .done=>n8 (s.wr .HG 1) C i (Kp C i) (tL .HG 1)
 | .tell j=>if s.mem (.flag j)=1 then⟨(s.wr (.flag j) 0).to i (.BO j),none,Kq (.flag j) 1 0 true⟩
  else n8 s C i (Kp C j) (Kq (.flag j) 1 0 false)
 | .BO j=>let v:=s.mem .An-1;n8 (s.wr .An v) C i (Kp C j) (DS .An (-1) v)
 | .ya c=>⟨s.to i (.wG c (s.mem (.bot i))),none,rM (.bot i) (s.mem (.bot i))⟩
 | .wG c b=>⟨s.to i (.oF c b (s.mem (.top i))),none,rM (.top i) (s.mem (.top i))⟩
 | .oF c b t=>⟨s.to i (.oG c b t),none,rM (.buf i) (s.mem (.buf i))⟩
 | .oG c b t =>
  let cc:=s.mem (.cap i (s.cur i))
  let a:=rM (.cap i (s.cur i)) cc
  if b-t<cc then⟨s.to i (.ja c b cc),none,a⟩
  else if(C.most:Int)<=cc then⟨{s with Mk:=true}.to i .full,ev 11 c 1 0,a⟩
  else ⟨s.to i (.grow c b t cc),none,a⟩
 | .grow c b t cc =>
  let g:=s.cur i+1
  ⟨{s with base:=ck s.base i (ck (s.base i) g s.size),size:=s.size+1+jb C cc,
            mem:=λa=>match a with | .cap i' g'=>if i'=i/\g'=g then 0 else s.mem a | .el i' g' _=>if i'=i/\g'=g then 0 else s.mem a | _=>s.mem a}.to i (.lY c b t cc),
   none,aaV (.cap i g) (1+jb C cc)⟩
 | .lY c b t cc=>⟨(s.wr (.cap i (s.cur i+1)) (jb C cc)).to i (.js c b t cc t),none,tL (.cap i (s.cur i+1)) (jb C cc)⟩
 | .js c b t cc n=>let x:=s.mem (.el i (s.cur i) (ix n cc));⟨s.to i (.iZ c b t cc n x),none,rM (.el i (s.cur i) (ix n cc)) x⟩
 | .iZ c b t cc n x =>
  ⟨(s.wr (.el i (s.cur i+1) (ix n (jb C cc))) x).to i (if n+1<b then .js c b t cc (n+1)else .lD c b t cc),none,tL (.el i (s.cur i+1) (ix n (jb C cc))) x⟩
 | .lD c b t cc =>
  let a:=s.base i (s.cur i+1)
  ⟨{s.wr (.buf i) a with cur:=ck s.cur i (s.cur i+1)}.to i (.ja c b (jb C cc)),none,tL (.buf i) a⟩
 | .ja c b cc=>⟨(s.wr (.el i (s.cur i) (ix b cc)) c).to i (.nC c b),none,tL (.el i (s.cur i) (ix b cc)) c⟩
 | .nC c b=>⟨(((s.wr (.bot i) (b+1)).sS i (s.q i++[c])).put c (.Of i)).to i .Cs,ev 2 c f (s.fr c).mN,tL (.bot i) (b+1)⟩
 | .Cs=>let n:=s.mem .An;⟨s.to i (if 0<n/\1<C.N then .vk (Kp C i)else .run),none,rM .An n⟩
 | .vk j =>
  if s.mem (.flag j)=1 then⟨(s.wr (.flag j) 0).to i (.yq j),none,Kq (.flag j) 1 0 true⟩
  else ⟨s.to i (if Kp C j=i then .run else .vk (Kp C j)),none,Kq (.flag j) 1 0 false⟩
 | .yq j=>let v:=s.mem .An-1;⟨(s.wr .An v).to i .run,ev 3 f j 0,DS .An (-1) v⟩
 | .Ae=>⟨s.to i (.uL (s.mem (.bot i)-1)),none,rM (.bot i) (s.mem (.bot i))⟩
 | .uL b=>⟨s.to i (.oh b),none,rM (.buf i) (s.mem (.buf i))⟩
 | .oh b=>⟨(s.wr (.bot i) b).to i (.zi b),none,tL (.bot i) b⟩
 | .zi b =>
  let t:=s.mem (.top i)
  let a:=rM (.top i) t
  if t<b then
   let x:=(s.q i).getLastD 0
   ⟨(((s.to i (.sD b t)).sS i (s.q i).dropLast).put x (.pop i)).oq i (some x),none,a⟩
  else if t=b then⟨s.to i (.sD b t),none,a⟩else⟨s.to i (.sC t),none,a⟩
 | .sC t=>⟨AW ((s.wr (.bot i) t).uM i 0) C i,none,tL (.bot i) t⟩
 | .sD b t=>let cc:=s.mem (.cap i (s.cur i));⟨s.to i (.nD b t cc),none,rM (.cap i (s.cur i)) cc⟩
 | .nD b t cc =>
  let x:=s.mem (.el i (s.cur i) (ix b cc))
  let a:=rM (.el i (s.cur i) (ix b cc)) x
  if t<b then⟨(got s i x (-1)).oq i none,none,a⟩else⟨s.to i (.qH b t x),none,a⟩
 | .qH b t x =>
  if s.mem (.top i)=t then⟨((((s.wr (.top i) (t+1)).to i (.oP t x true)).sS i []).put x.toNat (.pop i)).oq i (some x.toNat),none,Kq (.top i) t (t+1) true⟩
  else ⟨s.to i (.oP t x false),none,Kq (.top i) t (t+1) false⟩
 | .oP t x Bi =>
  let s:=(s.wr (.bot i) (t+1)).uM i 0
  ⟨if Bi then(got s i x (-1)).oq i none else AW s C i,none,tL (.bot i) (t+1)⟩
 | .lS =>
  let v:=((i+1+(d%((C.N:Int)-1)).toNat)%C.N)
  ⟨s.to i (.yR v (s.mem (.top v))),none,rM (.top v) (s.mem (.top v))⟩
 | .yR v t =>
  let b:=s.mem (.bot v)
  if b<=t then⟨(s.uM i (s.iE i+1)).to i .HH,none,rM (.bot v) b⟩else⟨s.to i (.ud v t),none,rM (.bot v) b⟩
 | .ud v t=>⟨s.to i (.tu v t (s.cur v)),none,rM (.buf v) (s.mem (.buf v))⟩
 | .tu v t g=>let cc:=s.mem (.cap v g);⟨s.to i (.qX v t g cc),none,rM (.cap v g) cc⟩
 | .qX v t g cc=>let x:=s.mem (.el v g (ix t cc));⟨s.to i (.qm v t x),none,rM (.el v g (ix t cc)) x⟩
 | .qm v t x =>
  if s.mem (.top v)=t then⟨got ((s.wr (.top v) (t+1)).sS v (s.q v).tail) i x v,ev 8 x v 0,Kq (.top v) t (t+1) true⟩
  else ⟨(s.uM i (s.iE i+1)).to i .HH,none,Kq (.top v) t (t+1) false⟩
 | .HH =>
  let d:=s.mem .HG
  if d=1 then⟨s.to i .halted,ev 10 0 0 0,rM .HG d⟩
  else ⟨s.to i (if s.iE i<3 then .lS else .flag),none,rM .HG d⟩
 | .flag=>⟨(s.wr (.flag i) 1).to i .sleep,none,tL (.flag i) 1⟩
 | .sleep=>let v:=s.mem .An+1;⟨(s.wr .An v).to i .yS,none,DS .An 1 v⟩
 | .yS=>let d:=s.mem .HG;if d=1 then⟨s.to i (.back true),none,rM .HG d⟩else looking s C i (Kp C i) (rM .HG d)
 | .GY j=>⟨s.to i (.GZ j (s.mem (.top j))),none,rM (.top j) (s.mem (.top j))⟩
 | .GZ j t=>let b:=s.mem (.bot j);if t<b then⟨s.to i (.back false),none,rM (.bot j) b⟩else looking s C i (Kp C j) (rM (.bot j) b)
 | .parked=>let v:=s.mem (.flag i);if v=1 then⟨s,none,rM (.flag i) v⟩else⟨AW (s.uM i 0) C i,none,rM (.flag i) v⟩
 | .back h=>if s.mem (.flag i)=1 then⟨(s.wr (.flag i) 0).to i (.zG h),none,Kq (.flag i) 1 0 true⟩else C8 s C i h (Kq (.flag i) 1 0 false)
 | .zG h=>let v:=s.mem .An-1;C8 (s.wr .An v) C i h (DS .An (-1) v)
theorem aaW{m n c:Int}(hc:0<c)(h:ix m c=ix n c)(h1:m-n<c)(h2:n-m<c):m=n:=by
 have a1:=EW m (b:=c) I;have a2:=EW n (b:=c) I;have b1:=GQ m hc;have b2:=GQ n hc;have h':m%c=n%c:=by unfold ix at h;omega
 have e1:=MX m c;have e2:=MX n c;have h3:m-n=c*(m/c-n/c):=by rw[Int.mul_sub];omega
 have:m/c-n/c=0:=by
  rcases Int.lt_trichotomy (m/c-n/c) 0 with h | h | h
  ·have:c*(m/c-n/c)<=c*(-1):=Int.mul_le_mul_of_nonneg_left I I;omega
  ·exact h
  ·have:c*1<=c*(m/c-n/c):=Int.mul_le_mul_of_nonneg_left I I;omega
 rw[this]at h3;omega
theorem Vy{m n c:Int}(hc:0<c)(h1:m-n<c)(h2:n-m<c)(h:m≠n):ix m c≠ix n c:=λe=>h (aaW hc e h1 h2)
namespace St
abbrev T(s:St)(j:Nat):Int:=s.mem (.top j)
abbrev B(s:St)(j:Nat):Int:=s.mem (.bot j)
abbrev cc(s:St)(j:Nat):Int:=s.mem (.cap j (s.cur j))
abbrev L(s:St)(j:Nat):Int:=((s.q j).length:Int)
end St
def EB(C:jv)(s:St)(j:Nat)(b t cc:Int):Prop:=s.B j=b/\s.T j+s.L j=b/\s.L j<=s.cc j/\t<=s.T j/\cc=s.cc j/\b-t=cc/\cc<C.most
def C9(C:jv)(s:St)(j:Nat)(n:Int):Prop:=
 s.mem (.cap j (s.cur j+1))=jb C (s.cc j)/\∀m,s.T j<=m->m<n->s.mem (.el j (s.cur j+1) (ix m (jb C (s.cc j))))=s.mem (.el j (s.cur j) (ix m (s.cc j)))
def yt(s:St)(j:Nat)(b t:Int):Prop:=
 s.B j=b/\t<=b/\0<=b/\(t<b->s.T j+s.L j=b/\s.L j+1<=s.cc j/\∃x:Nat,s.pop j=some x/\s.mem (.el j (s.cur j) (ix b (s.cc j)))=x)
  /\(t=b->s.T j+s.L j=b+1/\t<=s.T j/\s.L j<=s.cc j)
def rJ(C:jv)(s:St)(j:Nat):Prop:=
 match s.pc j with
 | .wG c b=>s.B j=b/\s.T j+s.L j=b/\s.L j<=s.cc j
 | .oF c b t=>s.B j=b/\s.T j+s.L j=b/\s.L j<=s.cc j/\t<=s.T j/\b-t<=s.cc j
 | .oG c b t=>s.B j=b/\s.T j+s.L j=b/\s.L j<=s.cc j/\t<=s.T j/\b-t<=s.cc j
 | .grow c b t cc=>EB C s j b t cc
 | .lY c b t cc=>EB C s j b t cc
 | .js c b t cc n=>EB C s j b t cc/\C9 C s j n/\t<=n/\n<b
 | .iZ c b t cc n x=>EB C s j b t cc/\C9 C s j n/\t<=n/\n<b/\x=s.mem (.el j (s.cur j) (ix n (s.cc j)))
 | .lD c b t cc=>EB C s j b t cc/\C9 C s j b
 | .ja c b cc=>s.B j=b/\s.T j+s.L j=b/\s.L j+1<=s.cc j/\cc=s.cc j
 | .nC c b=>s.B j=b/\s.T j+s.L j=b/\s.L j+1<=s.cc j/\s.mem (.el j (s.cur j) (ix b (s.cc j)))=c
 | .uL b=>s.B j=b+1/\s.T j+s.L j=b+1/\s.L j<=s.cc j
 | .oh b=>s.B j=b+1/\s.T j+s.L j=b+1/\s.L j<=s.cc j
 | .zi b=>s.B j=b/\s.T j+s.L j=b+1/\s.L j<=s.cc j
 | .sC t=>s.T j=t/\s.L j=0/\s.B j=t-1
 | .sD b t=>yt s j b t
 | .nD b t cc=>yt s j b t/\cc=s.cc j
 | .qH b t x=>s.B j=b/\t=b/\s.T j+s.L j=b+1/\t<=s.T j/\(s.T j=t->s.q j=[x.toNat]/\0<=x)/\s.L j<=s.cc j
 | .oP t x Bi=>s.B j=t/\s.T j=t+1/\s.L j=0/\(Bi=true->s.pop j=some x.toNat/\0<=x)
 | _=>s.B j=s.T j+s.L j/\s.L j<=s.cc j
structure D(C:jv)(s:St)(j:Nat):Prop where
 t0:0<=s.T j
 Ct:∀g,g<=s.cur j->1<=s.mem (.cap j g)
 Ee:s.cc j<=C.most
 HJ:s.mem (.buf j)=s.base j (s.cur j)
 els:∀n,n<(s.q j).length->s.mem (.el j (s.cur j) (ix (s.T j+n) (s.cc j)))=(((s.q j).getD n 0:Nat):Int)
 ph:rJ C s j
def Th(C:jv)(s:St)(i:Nat):Prop:=
 match s.pc i with
 | .lS=>C.N≠1
 | .HH=>C.N≠1
 | .yR v t=>v<C.N/\v≠i/\t<=s.T v
 | .ud v t=>v<C.N/\v≠i/\t<=s.T v/\(t=s.T v->s.q v≠[])
 | .tu v t g=>v<C.N/\v≠i/\t<=s.T v/\g<=s.cur v/\(t=s.T v->∃x l,s.q v=x::l/\s.mem (.el v g (ix t (s.mem (.cap v g))))=(x:Nat))
 | .qX v t g cc=>v<C.N/\v≠i/\t<=s.T v/\g<=s.cur v/\cc=s.mem (.cap v g)/\(t=s.T v->∃x l,s.q v=x::l/\s.mem (.el v g (ix t (s.mem (.cap v g))))=(x:Nat))
 | .qm v t x=>v<C.N/\v≠i/\t<=s.T v/\(t=s.T v->∃y l,s.q v=y::l/\x=(y:Nat))
 | _=>True
structure Da(s s':St)(j:Nat):Prop where
 top:s'.mem (.top j)=s.mem (.top j)
 bot:s'.mem (.bot j)=s.mem (.bot j)
 buf:s'.mem (.buf j)=s.mem (.buf j)
 cap:∀g,s'.mem (.cap j g)=s.mem (.cap j g)
 el:∀g n,s'.mem (.el j g n)=s.mem (.el j g n)
 cur:s'.cur j=s.cur j
 base:s'.base j=s.base j
 q:s'.q j=s.q j
 pop:s'.pop j=s.pop j
theorem D.same{C:jv}{s s':St}{j:Nat}(h:D C s j)(e:Da s s' j)(hp:rJ C s' j):D C s' j:=by
 obtain⟨h1,h2,h3,h4,h5,h6⟩:=h;obtain⟨e1,e2,e3,e4,e5,e6,e7,e8,e9⟩:=e;refine⟨?_,?_,?_,?_,?_,hp⟩
 ·rw[St.T,e1];exact h1
 ·intro g hg;rw[e4];rw[e6]at hg;exact h2 g hg
 ·rw[St.cc,e6,e4];exact h3
 ·rw[e3,e7,e6];exact h4
 ·intro n hn;simp only[St.T,St.cc,e1,e4,e5,e6,e8];exact h5 n (by rw[e8]at hn;exact hn)
theorem rJ.same{C:jv}{s s':St}{j:Nat}(h:rJ C s j)(e:Da s s' j)(hp:s'.pc j=s.pc j):rJ C s' j:=by
 obtain⟨e1,e2,e3,e4,e5,e6,e7,e8,e9⟩:=e;unfold rJ at h⊢;simp only[hp,EB,C9,yt,St.T,St.B,St.L,St.cc,e1,e2,e3,e4,e5,e6,e7,e8,e9]at h⊢;exact h
theorem D.ZP{C:jv}{s s':St}{j:Nat}(h:D C s j)(e:Da s s' j)(hp:s'.pc j=s.pc j):D C s' j:=h.same e (h.ph.same e hp)
structure Calm(s s':St)(v:Nat):Prop where
 top:s.T v<=s'.T v
 cur:s.cur v<=s'.cur v
 cap:∀g,g<=s.cur v->s'.mem (.cap v g)=s.mem (.cap v g)
 q:s.T v=s'.T v->∀x l,s.q v=x::l->(∃l',s'.q v=x::l')/\∀g,g<=s.cur v->s.mem (.el v g (ix (s.T v) (s.mem (.cap v g))))=(x:Nat)->s'.mem (.el v g (ix (s.T v) (s.mem (.cap v g))))=(x:Nat)
theorem Th.calm{C:jv}{s s':St}{i:Nat}(h:Th C s i)(e:∀v,v≠i->Calm s s' v)(hp:s'.pc i=s.pc i):Th C s' i:=by
 unfold Th at h⊢;rw[hp];split
 ·rename_i hh;rw[hh]at h;exact h
 ·rename_i hh;rw[hh]at h;exact h
 ·rename_i v t hh;rw[hh]at h;simp only at h;exact⟨h.1,h.2.1,Int.le_trans h.2.2 (e v h.2.1).top⟩
 ·rename_i v t hh;rw[hh]at h;simp only at h;have E:=e v h.2.1;refine⟨h.1,h.2.1,Int.le_trans h.2.2.1 E.top,λht => ?_⟩;have e1:t=s.T v:=Int.le_antisymm h.2.2.1 (ht▸ E.top);obtain⟨x,l,hq⟩:=List.exists_cons_of_ne_nil (h.2.2.2 e1);obtain⟨⟨l',h'⟩,_⟩:=E.q (e1.symm.trans ht) x l hq;rw[h'];exact List.cons_ne_nil _ _
 ·rename_i v t g hh;rw[hh]at h;simp only at h;have E:=e v h.2.1;obtain⟨h1,h2,h3,h4,h5⟩:=h;refine⟨h1,h2,Int.le_trans h3 E.top,ET h4 E.cur,λht => ?_⟩;have e1:t=s.T v:=Int.le_antisymm h3 (ht▸ E.top);obtain⟨x,l,hq,hx⟩:=h5 e1;obtain⟨⟨l',h'⟩,h''⟩:=E.q (e1.symm.trans ht) x l hq;refine⟨x,l',h',?_⟩;rw[E.cap g h4,e1];exact h'' g h4 (by rw[<-e1];exact hx)
 ·rename_i v t g cc hh;rw[hh]at h;simp only at h;have E:=e v h.2.1;obtain⟨h1,h2,h3,h4,h0,h5⟩:=h;refine⟨h1,h2,Int.le_trans h3 E.top,ET h4 E.cur,by rw[E.cap g h4];exact h0,λht => ?_⟩;have e1:t=s.T v:=Int.le_antisymm h3 (ht▸ E.top);obtain⟨x,l,hq,hx⟩:=h5 e1;obtain⟨⟨l',h'⟩,h''⟩:=E.q (e1.symm.trans ht) x l hq;refine⟨x,l',h',?_⟩;rw[E.cap g h4,e1];exact h'' g h4 (by rw[<-e1];exact hx)
 ·rename_i v t x hh;rw[hh]at h;simp only at h;have E:=e v h.2.1;obtain⟨h1,h2,h3,h5⟩:=h;refine⟨h1,h2,Int.le_trans h3 E.top,λht => ?_⟩;have e1:t=s.T v:=Int.le_antisymm h3 (ht▸ E.top);obtain⟨y,l,hq,hx⟩:=h5 e1;obtain⟨⟨l',h'⟩,h''⟩:=E.q (e1.symm.trans ht) y l hq;exact⟨y,l',h',hx⟩
 ·trivial
theorem Da.calm{s s':St}{v:Nat}(e:Da s s' v):Calm s s' v:=by
 obtain⟨e1,e2,e3,e4,e5,e6,e7,e8,e9⟩:=e;exact⟨by simp only[St.T,e1];exact yB _,by rw[e6];exact gQ _,λg _=>e4 g,λ_ x l hq=>⟨⟨l,e8▸ hq⟩,λg _ h=>by rw[e5];exact h⟩⟩
def DT(C:jv)(s:St):Prop:=(∀j,j<C.N->D C s j)/\∀i,i<C.N->Th C s i
theorem DT.own{C:jv}{s s':St}{i:Nat}(h:DT C s)(hs:∀j,j≠i->Da s s' j)(hp:∀j,j≠i->s'.pc j=s.pc j)(hd:D C s' i)(hc:Calm s s' i)(ht:Th C s' i):DT C s':=by
 refine⟨λj hj => ?_,λk hk => ?_⟩
 ·by_cases e:j=i
  ·subst e;exact hd
  ·exact(h.1 j hj).ZP (hs j e) (hp j e)
 ·by_cases e:k=i
  ·subst e;exact ht
  ·exact(h.2 k hk).calm (λv hv=>by
    by_cases e':v=i
    ·subst e';exact hc
    ·exact(hs v e').calm) (hp k e)
def uF.own:uF->Option Nat
 | .top i | .bot i | .buf i | .cap i _ | .el i _ _=>some i
 | _=>none
theorem Da.of{s s':St}{j:Nat}(hm:∀a,a.own=some j->s'.mem a=s.mem a)(h1:s'.cur j=s.cur j)(h2:s'.base j=s.base j)(h3:s'.q j=s.q j)(h4:s'.pop j=s.pop j):Da s s' j:=
 ⟨hm _ rfl,hm _ rfl,hm _ rfl,λ_=>hm _ rfl,λ_ _=>hm _ rfl,h1,h2,h3,h4⟩
def Idle:Pc->Prop
 | .wG .. | .oF .. | .oG .. | .grow .. | .lY .. | .js .. | .iZ .. | .lD .. | .ja .. | .nC ..
 | .uL .. | .oh .. | .zi .. | .sC .. | .sD .. | .nD .. | .qH .. | .oP .. => False
 | _=>True
theorem rJ.idle{C:jv}{s:St}{j:Nat}(hi:Idle (s.pc j)):rJ C s j↔s.B j=s.T j+s.L j/\s.L j<=s.cc j:=by
 unfold rJ;split<;>rename_i hh<;>first | (rw[hh]at hi;exact hi.elim) | exact Iff.rfl
theorem D.idle{C:jv}{s s':St}{j:Nat}(h:D C s j)(e:Da s s' j)(hi:Idle (s.pc j))(hi':Idle (s'.pc j)):D C s' j:=by
 refine h.same e ((rJ.idle hi').2 ?_);have:=(rJ.idle hi).1 h.ph;obtain⟨e1,e2,e3,e4,e5,e6,e7,e8,e9⟩:=e
 simpa only [St.T,St.B,St.L,St.cc,e1,e2,e4,e6,e8]using this
theorem DT.gL{C:jv}{s s':St}{i:Nat}(h:DT C s)(hi:i<C.N)(hm:∀a,a.own≠none->s'.mem a=s.mem a)(h1:s'.cur=s.cur)(h2:s'.base=s.base)(h3:s'.q=s.q)(h4:s'.pop=s.pop)
 (hp:∀j,j≠i->s'.pc j=s.pc j) (hid:Idle (s.pc i)) (aaX:Idle (s'.pc i)) (ht:Th C s' i):DT C s':=by
 have e:∀j,Da s s' j:=λj=>Da.of (λa ha=>hm a (by rw[ha];exact Option.some_ne_none _)) (by rw[h1]) (by rw[h2]) (by rw[h3]) (by rw[h4]);exact h.own (i:=i) (λj _=>e j) hp ((h.1 i hi).idle (e i) hid aaX) (e i).calm ht
theorem Th.plain{C:jv}{s:St}{i:Nat}(h:match s.pc i with | .lS | .HH | .yR .. | .ud .. | .tu .. | .qX .. | .qm .. => False | _=>True):Th C s i:=by
 unfold Th;split<;>rename_i hh<;>first | (rw[hh]at h;exact h.elim) | trivial
theorem DT.mine{C:jv}{s s':St}{i:Nat}(h:DT C s)(hi:i<C.N)(hm:∀a,a.own≠some i->s'.mem a=s.mem a)(h1:∀j,j≠i->s'.cur j=s.cur j)(h2:∀j,j≠i->s'.base j=s.base j)(h3:∀j,j≠i->s'.q j=s.q j)(h4:∀j,j≠i->s'.pop j=s.pop j)
 (hp:∀j,j≠i->s'.pc j=s.pc j) (hd:D C s' i) (hc:Calm s s' i) (ht:Th C s' i):DT C s':=
 h.own (i:=i) (λj hj=>Da.of (λa ha=>hm a (by rw[ha];intro e;exact hj (Option.some.inj e))) (h1 j hj) (h2 j hj) (h3 j hj) (h4 j hj)) hp hd hc ht
section
variable {C:jv}{s:St}{i:Nat}
theorem DT.reads{s':St}(h:DT C s)(hi:i<C.N)(hm:s'.mem=s.mem)(h1:s'.cur=s.cur)(h2:s'.base=s.base)(h3:s'.q=s.q)(h4:s'.pop=s.pop)
 (hp:∀j,j≠i->s'.pc j=s.pc j) (hd:rJ C s' i) (ht:Th C s' i):DT C s':=by
 have e:∀j,Da s s' j:=λj=>Da.of (λa _=>by rw[hm]) (by rw[h1]) (by rw[h2]) (by rw[h3]) (by rw[h4]);exact h.own (i:=i) (λj _=>e j) hp ((h.1 i hi).same (e i) hd) (e i).calm ht
theorem qt{s:St}{i j:Nat}{p:Pc}(h:j≠i):(s.to i p).pc j=s.pc j:=aA h
theorem kr{s:St}{i:Nat}{p:Pc}:(s.to i p).pc i=p:=aC _ _ _
theorem jX{s:St}{a x:uF}{v:Int}(h:x≠a):(s.wr a v).mem x=s.mem x:=aA h
end
section
variable {C:jv}{s:St}{i:Nat}
theorem K6{cc:Int}(h:cc<C.most)(h1:1<=cc):cc<jb C cc/\jb C cc<=C.most:=by unfold jb;split<;>omega
theorem SN(h:DT C s)(hi:i<C.N){c b t cc d}(hp:s.pc i= .grow c b t cc):DT C (aH C s i d).s:=by
 have H:=h.1 i hi;have P:=H.ph;unfold rJ at P;rw[hp]at P;simp only at P;unfold aH;rw[hp];simp only;have e1:∀g n,g<=s.cur i->(if True/\g=s.cur i+1 then(0:Int)else n)=n:=λg n hg=>cQ I;refine h.mine hi ?_ (λj hj=>rfl) (λj hj=>aA hj) (λj hj=>rfl) (λj hj=>rfl) (λj hj=>qt hj) ⟨H.t0,?_,?_,?_,?_,?_⟩ ⟨yB _,gQ _,?_,?_⟩ (Th.plain (by rw[kr];trivial))
 ·intro a ha;simp only[St.to];cases a<;>simp only[uF.own,ne_eq,Option.some.injEq]at ha⊢<;> simp[ha]
 ·intro g hg;simp only[St.to]at hg⊢;rw[e1 g _ hg];exact H.Ct g hg
 ·simp only[St.cc,St.to];rw[e1 _ _ (gQ _)];exact H.Ee
 ·simp only[St.to,aC];rw[aA I];exact H.HJ
 ·intro n hn;simp only[St.to,St.T,St.cc]at hn⊢;rw[e1 _ _ (gQ _),e1 _ _ (gQ _)];exact H.els n hn
 ·unfold rJ;rw[kr];simp only[EB,St.B,St.T,St.L,St.cc,St.to]at P⊢;rw[e1 _ _ (gQ _)];exact P
 ·intro g hg;simp only[St.to];exact e1 g _ hg
 ·intro _ x l hq;refine⟨⟨l,hq⟩,λg hg hx => ?_⟩;simp only[St.to];rw[e1 g _ hg];exact hx
theorem Ml(h:DT C s)(hi:i<C.N){c b t cc d}(hp:s.pc i= .lY c b t cc):DT C (aH C s i d).s:=by
 have H:=h.1 i hi;have P:=H.ph;unfold rJ at P;rw[hp]at P;simp only at P;unfold aH;rw[hp];simp only;have e1:∀g,g<=s.cur i->uF.cap i g≠.cap i (s.cur i+1):=λg hg e=>by injection e;omega
 refine h.mine hi (λa ha => ?_) (λj hj=>rfl) (λj hj=>rfl) (λj hj=>rfl) (λj hj=>rfl) (λj hj=>qt hj) ⟨?_,?_,?_,?_,?_,?_⟩ ⟨?_,gQ _,?_,?_⟩ (Th.plain (by rw[kr];trivial))
 ·exact jX (λe=>ha (by rw[e];rfl))
 ·simp only[St.T,St.cc,St.to,St.wr,St.put,St.sS];rw[aA qv];exact H.t0
 ·intro g hg;simp only[St.T,St.cc,St.to,St.wr,St.put,St.sS];rw[aA (e1 g hg)];exact H.Ct g hg
 ·simp only[St.T,St.cc,St.to,St.wr,St.put,St.sS];rw[aA (e1 _ (gQ _))];exact H.Ee
 ·simp only[St.T,St.cc,St.to,St.wr,St.put,St.sS];rw[aA qv];exact H.HJ
 ·intro n hn;simp only[St.T,St.cc,St.to,St.wr,St.put,St.sS]at hn⊢;rw[aA qv,aA qv,aA (e1 _ (gQ _))];exact H.els n hn
 ·unfold rJ;rw[kr];simp only[EB,C9,St.B,St.T,St.L,St.cc,St.to,St.wr,aC]at P⊢;rw[aA (e1 _ (gQ _)),aA qv,aA qv];have:=H.Ct _ (gQ (s.cur i));refine⟨P,⟨by rw[P.2.2.2.2.1],λm h1 h2=>I⟩,yB _,I⟩
 ·simp only[St.T,St.cc,St.to,St.wr,St.put,St.sS];rw[aA qv];exact yB _
 ·intro g hg;exact jX (e1 g hg)
 ·intro _ x l hq;refine⟨⟨l,hq⟩,λg hg hx => ?_⟩;simp only[St.T,St.cc,St.to,St.wr,St.put,St.sS];rw[aA qv];exact hx
theorem Kr(h:DT C s)(hi:i<C.N){c b t cc n d}(hp:s.pc i= .js c b t cc n):DT C (aH C s i d).s:=by
 have H:=h.1 i hi;have P:=H.ph;unfold rJ at P;rw[hp]at P;simp only at P;unfold aH;rw[hp];simp only;refine h.reads hi rfl rfl rfl rfl rfl (λj hj=>qt hj) ?_ (Th.plain (by rw[kr];trivial));unfold rJ;rw[kr];simp only;exact⟨P.1,P.2.1,P.2.2.1,P.2.2.2,by rw[P.1.2.2.2.2.1];rfl⟩
theorem Jq(h:DT C s)(hi:i<C.N){c b t cc n x d}(hp:s.pc i= .iZ c b t cc n x):DT C (aH C s i d).s:=by
 have H:=h.1 i hi;have P:=H.ph;unfold rJ at P;rw[hp]at P;simp only at P;obtain⟨⟨g1,g2,g3,g4,g5,g6,g7⟩,⟨k1,k2⟩,p3,p4,p5⟩:=P;have c1:=H.Ct _ (gQ (s.cur i));obtain⟨b1,b2⟩:=K6 (C:=C) g7 (by rw[g5];exact c1);unfold aH;rw[hp];simp only;have e1:∀g k,g<=s.cur i->uF.el i g k≠.el i (s.cur i+1) (ix n (jb C cc)):=λg k hg e=>by injection e;omega
 refine h.mine hi (λa ha=>jX (λe=>ha (by rw[e];rfl))) (λj hj=>rfl) (λj hj=>rfl) (λj hj=>rfl) (λj hj=>rfl) (λj hj=>qt hj) ⟨?_,?_,?_,?_,?_,?_⟩ ⟨?_,gQ _,?_,?_⟩ (Th.plain (by rw[kr];by_cases hb:n+1<b<;>simp[hb]))
 ·simp only[St.T,St.cc,St.to,St.wr,St.put,St.sS];rw[aA qv];exact H.t0
 ·intro g hg;simp only[St.T,St.cc,St.to,St.wr,St.put,St.sS];rw[aA qv];exact H.Ct g hg
 ·simp only[St.T,St.cc,St.to,St.wr,St.put,St.sS];rw[aA qv];exact H.Ee
 ·simp only[St.T,St.cc,St.to,St.wr,St.put,St.sS];rw[aA qv];exact H.HJ
 ·intro n hn;simp only[St.T,St.cc,St.to,St.wr,St.put,St.sS]at hn⊢;rw[aA (e1 _ _ (gQ _)),aA qv,aA qv];exact H.els n hn
 ·have hG:EB C ((s.wr (.el i (s.cur i+1) (ix n (jb C cc))) x).to i (if n+1<b then .js c b t cc (n+1)else .lD c b t cc)) i b t cc:=by
   simp only[EB,St.B,St.T,St.L,St.cc,St.to,St.wr]at *;rw[aA qv,aA qv,aA qv];exact⟨g1,g2,g3,g4,g5,g6,g7⟩
  have hC:C9 C ((s.wr (.el i (s.cur i+1) (ix n (jb C cc))) x).to i (if n+1<b then .js c b t cc (n+1)else .lD c b t cc)) i (n+1):=by
   simp only[C9,St.T,St.cc,St.to,St.wr]at *;rw[aA qv,aA qv,aA qv];refine⟨k1,λm h1 h2 => ?_⟩;rw[aA (e1 _ _ (gQ _)),<-g5];by_cases hm:m=n
   ·subst hm;rw[aC,p5,<-g5]
   ·rw[aA (λe=>Vy (m:=m) (n:=n) (c:=jb C cc) I I I hm (by injection e)),g5];exact k2 m h1 I
  unfold rJ;rw[kr];by_cases hb:n+1<b
  ·simp only[bg hb]at hG hC⊢;exact⟨hG,hC,I,hb⟩
  ·simp only[cQ hb]at hG hC⊢;exact⟨hG,by rw[show b=n+1 by omega];rw[show b=n+1 by omega]at hC;exact hC⟩
 ·simp only[St.T,St.cc,St.to,St.wr,St.put,St.sS];rw[aA qv];exact yB _
 ·intro g hg;simp only[St.to,St.wr,St.put,St.sS];rw[aA qv]
 ·intro _ x l hq;refine⟨⟨l,hq⟩,λg hg hx => ?_⟩;simp only[St.T,St.cc,St.to,St.wr,St.put,St.sS];rw[aA (e1 _ _ hg)];exact hx
theorem Mm(h:DT C s)(hi:i<C.N){c b t cc d}(hp:s.pc i= .lD c b t cc):DT C (aH C s i d).s:=by
 have H:=h.1 i hi;have P:=H.ph;unfold rJ at P;rw[hp]at P;simp only at P;obtain⟨⟨g1,g2,g3,g4,g5,g6,g7⟩,⟨k1,k2⟩⟩:=P;have c1:=H.Ct _ (gQ (s.cur i));obtain⟨b1,b2⟩:=K6 (C:=C) g7 (by rw[g5];exact c1);unfold aH;rw[hp];simp only;rw[g5]at b1 b2;simp only[St.B,St.T,St.L,St.cc]at *;refine h.mine hi (λa ha=>jX (λe=>ha (by rw[e];rfl))) (λj hj=>aA hj) (λj hj=>rfl) (λj hj=>rfl) (λj hj=>rfl) (λj hj=>qt hj) ⟨?_,?_,?_,?_,?_,?_⟩ ⟨?_,?_,?_,?_⟩ (Th.plain (by rw[kr];trivial))
 ·simp only[St.T,St.cc,St.to,St.wr,St.put,St.sS];rw[aA qv];exact H.t0
 ·intro g hg;simp only[St.T,St.cc,St.to,St.wr,St.put,St.sS];rw[aA qv];simp only[St.to,aC]at hg;by_cases e:g=s.cur i+1
  ·rw[e,k1];omega
  ·exact H.Ct g I
 ·simp only[St.cc,St.to,aC];rw[jX qv,k1];exact b2
 ·simp only[St.to,aC];simp only[St.T,St.cc,St.to,St.wr,St.put,St.sS];exact aC _ _ _
 ·intro n hn;simp only[St.T,St.cc,St.to,aC]at hn⊢;rw[jX qv,jX qv,jX qv,k1,k2 _ I (by simp only[St.L,St.wr]at *;omega)];exact H.els n hn
 ·unfold rJ;rw[kr];simp only[St.B,St.T,St.L,St.cc,St.to,St.wr,aC]at *;rw[aA qv,aA qv,aA qv,k1,g5];exact⟨g1,g2,I,rfl⟩
 ·simp only[St.T,St.cc,St.to,St.wr,St.put,St.sS];rw[aA qv];exact yB _
 ·simp only[St.to,aC];omega
 ·intro g hg;simp only[St.to,St.wr,St.put,St.sS];rw[aA qv]
 ·intro _ x l hq;refine⟨⟨l,hq⟩,λg hg hx => ?_⟩;simp only[St.T,St.cc,St.to,St.wr,St.put,St.sS];rw[aA qv];exact hx
theorem Ks(h:DT C s)(hi:i<C.N){c b cc d}(hp:s.pc i= .ja c b cc):DT C (aH C s i d).s:=by
 have H:=h.1 i hi;have P:=H.ph;unfold rJ at P;rw[hp]at P;simp only at P;obtain⟨g1,g2,g3,g4⟩:=P;have c1:=H.Ct _ (gQ (s.cur i));have E:=H.els;have t0:=H.t0;unfold aH;rw[hp];simp only;simp only[St.B,St.T,St.L,St.cc]at *;refine h.mine hi (λa ha=>jX (λe=>ha (by rw[e];rfl))) (λj hj=>rfl) (λj hj=>rfl) (λj hj=>rfl) (λj hj=>rfl) (λj hj=>qt hj) ⟨?_,?_,?_,?_,?_,?_⟩ ⟨?_,gQ _,?_,?_⟩ (Th.plain (by rw[kr];trivial))
 ·simp only[St.T,St.cc,St.to,St.wr,St.put,St.sS];rw[aA qv];exact H.t0
 ·intro g hg;simp only[St.T,St.cc,St.to,St.wr,St.put,St.sS];rw[aA qv];exact H.Ct g hg
 ·simp only[St.T,St.cc,St.to,St.wr,St.put,St.sS];rw[aA qv];exact H.Ee
 ·simp only[St.T,St.cc,St.to,St.wr,St.put,St.sS];rw[aA qv];exact H.HJ
 ·intro n hn;simp only[St.T,St.cc,St.to,St.wr,St.put,St.sS]at hn⊢;rw[aA (a:=uF.el i (s.cur i) (ix b cc)) (x:=uF.top i) qv,aA (x:=uF.cap i (s.cur i)) qv,g4];have hn':n<(s.q i).length:=hn;rw[aA (λe=>Vy (m:=s.mem (.top i)+n) (n:=b) (c:=s.mem (.cap i (s.cur i))) I I I I (by injection e))];exact E n hn
 ·unfold rJ;rw[kr];simp only[St.B,St.T,St.L,St.cc,St.to,St.wr,aC]at *;rw[aA qv,aA qv,aA qv,g4,aC];exact⟨g1,g2,I,rfl⟩
 ·simp only[St.T,St.cc,St.to,St.wr,St.put,St.sS];rw[aA qv];exact yB _
 ·intro g hg;simp only[St.to,St.wr,St.put,St.sS];rw[aA qv]
 ·intro ht x l hq;refine⟨⟨l,hq⟩,λg hg hx => ?_⟩;simp only[St.T,St.cc,St.to,St.wr,St.put,St.sS];have hl:1<=(s.q i).length:=by rw[hq];simp
  by_cases eg:g=s.cur i
  ·subst eg;rw[aA (λe=>Vy (m:=s.mem (.top i)) (n:=b) (c:=s.mem (.cap i (s.cur i))) I I I I (by rw[g4]at e;injection e))];exact hx
  ·rw[aA (λe=>eg (by injection e))];exact hx
theorem Mn(h:DT C s)(hi:i<C.N){c b d}(hp:s.pc i= .nC c b):DT C (aH C s i d).s:=by
 have H:=h.1 i hi;have P:=H.ph;unfold rJ at P;rw[hp]at P;simp only at P;obtain⟨g1,g2,g3,g4⟩:=P;have E:=H.els;have t0:=H.t0;unfold aH;rw[hp];simp only;simp only[St.B,St.T,St.L,St.cc]at *;refine h.mine hi (λa ha=>jX (λe=>ha (by rw[e];rfl))) (λj hj=>rfl) (λj hj=>rfl) (λj hj=>aA hj) (λj hj=>rfl) (λj hj=>qt hj) ⟨?_,?_,?_,?_,?_,?_⟩ ⟨?_,gQ _,?_,?_⟩ (Th.plain (by rw[kr];trivial))
 ·simp only[St.T,St.cc,St.to,St.wr,St.put,St.sS];rw[aA qv];exact H.t0
 ·intro g hg;simp only[St.T,St.cc,St.to,St.wr,St.put,St.sS];rw[aA qv];exact H.Ct g hg
 ·simp only[St.T,St.cc,St.to,St.wr,St.put,St.sS];rw[aA qv];exact H.Ee
 ·simp only[St.T,St.cc,St.to,St.wr,St.put,St.sS];rw[aA qv];exact H.HJ
 ·intro n hn;simp only[St.T,St.cc,St.to,St.put,St.sS,St.wr,aC]at hn⊢;rw[aA qv,aA qv,aA qv];rw[jM,Ip]at hn;by_cases e:n<(s.q i).length
  ·rw[List.getD_eq_getElem?_getD,List.getElem?_append_left e,<-List.getD_eq_getElem?_getD];exact E n e
  ·have:n=(s.q i).length:=by omega
   subst this;rw[List.getD_eq_getElem?_getD,List.getElem?_append_right (gQ _)];simp only[Io,List.getElem?_cons_zero,pG];rw[g2];exact g4
 ·refine(rJ.idle (by rw[kr];trivial)).2 ?_;simp only[St.B,St.T,St.L,St.cc,St.to,St.put,St.sS,St.wr,aC,jM,Ip]at *;rw[aA qv,aA qv];constructor<;>omega
 ·simp only[St.T,St.cc,St.to,St.wr,St.put,St.sS];rw[aA qv];exact yB _
 ·intro g hg;simp only[St.to,St.wr,St.put,St.sS];rw[aA qv]
 ·intro ht x l hq;simp only[St.to,St.put,St.sS,aC];refine⟨⟨l++[c],by rw[hq];rfl⟩,λg hg hx => ?_⟩;simp only[St.T,St.cc,St.to,St.wr,St.put,St.sS];rw[aA qv];exact hx
end
section
variable {C:jv}{s:St}{i:Nat}
theorem DT.Mp{s':St}(h:DT C s)(hi:i<C.N){v:Int}(hm:s'.mem=ck s.mem (.bot i) v)(h1:s'.cur=s.cur)(h2:s'.base=s.base)(h3:s'.q=s.q)(h4:∀j,j≠i->s'.pop j=s.pop j)
 (hp:∀j,j≠i->s'.pc j=s.pc j) (hd:rJ C s' i) (ht:Th C s' i):DT C s':=by
 have H:=h.1 i hi;have e:∀a,a≠.bot i->s'.mem a=s.mem a:=λa ha=>by rw[hm];exact aA ha
 refine h.mine hi (λa ha=>e a (λe=>ha (by rw[e];rfl))) (λj _=>by rw[h1]) (λj _=>by rw[h2]) (λj _=>by rw[h3]) h4 hp ⟨?_,?_,?_,?_,?_,hd⟩ ⟨?_,by rw[h1];exact gQ _,?_,?_⟩ ht
 ·simp only[St.T];rw[e _ qv];exact H.t0
 ·intro g hg;rw[e _ qv];rw[h1]at hg;exact H.Ct g hg
 ·simp only[St.cc,h1];rw[e _ qv];exact H.Ee
 ·rw[e _ qv,h1,h2];exact H.HJ
 ·intro n hn;simp only[St.T,St.cc,h1,h3]at hn⊢;rw[e _ qv,e _ qv,e _ qv];exact H.els n hn
 ·simp only[St.T];rw[e _ qv];exact yB _
 ·intro g hg;rw[e _ qv]
 ·intro _ x l hq;refine⟨⟨l,by rw[h3];exact hq⟩,λg hg hx => ?_⟩;rw[e _ qv];exact hx
theorem PD:∀(l:List Nat) (n:Nat),n+1=l.length->l.getD n 0=l.getLastD 0
 | [],n,h=>by simp at h
 | a::l,n,h=>by
  simp only[Bm]at h;have:n=l.length:=by omega
  subst this;rw[List.getLastD_cons,List.getD_eq_getElem?_getD,List.getElem?_eq_getElem (by simp),pG,MY,List.getLast?_eq_getElem?];cases l with
  | nil=>rfl
  | cons b l=>simp
theorem Kt(l:List Nat)(n:Nat)(h:n+1<l.length):l.dropLast.getD n 0=l.getD n 0:=by
 simp only[List.getD_eq_getElem?_getD];rw[List.getElem?_dropLast,rD]
theorem SP(h:DT C s)(hi:i<C.N){b d}(hp:s.pc i= .zi b):DT C (aH C s i d).s:=by
 have H:=h.1 i hi;have P:=H.ph;unfold rJ at P;rw[hp]at P;simp only at P;obtain⟨g1,g2,g3⟩:=P;have E:=H.els;have t0:=H.t0;unfold aH;rw[hp];simp only;simp only[St.B,St.T,St.L,St.cc]at *;split
 ·rename_i hb;have hl:((s.q i).length-1)+1=(s.q i).length:=by omega
  have hdl:(s.q i).dropLast.length=(s.q i).length-1:=by simp
  refine h.mine hi (λa ha=>rfl) (λj hj=>rfl) (λj hj=>rfl) (λj hj=>aA hj) (λj hj=>aA hj) (λj hj=>qt hj) ⟨H.t0,H.Ct,H.Ee,H.HJ,?_,?_⟩ ⟨yB _,gQ _,λ_ _=>rfl,?_⟩ (Th.plain (by simp[St.oq,St.put,St.sS,St.to]))
  ·intro n hn;simp only[St.T,St.cc,St.to,St.put,St.sS,St.oq,aC]at hn⊢;rw[hdl]at hn;rw[Kt _ _ I];exact E n I
  ·unfold rJ;simp only[St.oq,St.put,St.sS,St.to,aC,yt,St.B,St.T,St.L,St.cc,hdl];refine⟨g1,I,I,λ_=>⟨I,I,_,rfl,?_⟩,λe=>I⟩;rw[<-PD _ _ hl,<-E _ I];rw[show s.mem (.top i)+(((s.q i).length-1:Nat):Int)=b by omega]
  ·intro _ x l hq;simp only[St.oq,St.put,St.sS,St.to,aC];refine⟨?_,λg hg hx=>hx⟩;rw[hq]at hl g2⊢;cases l with
   | nil=>simp at g2;omega
   | cons y l=>exact⟨_,rfl⟩
 ·split
  ·rename_i hn ht;refine h.reads hi rfl rfl rfl rfl rfl (λj hj=>qt hj) ?_ (Th.plain (by rw[kr];trivial));unfold rJ;simp only[St.to,aC,yt,St.B,St.T,St.L,St.cc];exact⟨g1,I,I,λe=>I,λ_=>⟨g2,I,g3⟩⟩
  ·rename_i hn ht;refine h.reads hi rfl rfl rfl rfl rfl (λj hj=>qt hj) ?_ (Th.plain (by rw[kr];trivial));unfold rJ;simp only[St.to,aC,St.B,St.T,St.L,St.cc];exact⟨trivial,I,I⟩
theorem Ku(h:DT C s)(hi:i<C.N){b d}(hp:s.pc i= .oh b):DT C (aH C s i d).s:=by
 have H:=h.1 i hi;have P:=H.ph;unfold rJ at P;rw[hp]at P;simp only at P;obtain⟨g1,g2,g3⟩:=P;unfold aH;rw[hp];simp only;refine h.Mp hi rfl rfl rfl rfl (λ_ _=>rfl) (λj hj=>qt hj) ?_ (Th.plain (by rw[kr];trivial));unfold rJ;simp only[St.to,St.wr,aC,St.B,St.T,St.L,St.cc]at *;rw[aA qv,aA qv];exact⟨trivial,g2,g3⟩
theorem Rf{s:St}:(AW s C i).pc i=if C.N=1 then .flag else .lS:=aC _ _ _
theorem Gx{s:St}:Idle ((AW s C i).pc i):=by rw[Rf];split<;>trivial
theorem Mq{s:St}:Th C (AW s C i) i:=by
 unfold Th;rw[Rf];by_cases h:C.N=1
 ·rw[bg h];trivial
 ·rw[cQ h];exact h
theorem Kv(h:DT C s)(hi:i<C.N){t d}(hp:s.pc i= .sC t):DT C (aH C s i d).s:=by
 have H:=h.1 i hi;have P:=H.ph;unfold rJ at P;rw[hp]at P;simp only at P;obtain⟨g1,g2,g3⟩:=P;have c1:=H.Ct _ (gQ (s.cur i));unfold aH;rw[hp];simp only;refine h.Mp hi rfl rfl rfl rfl (λ_ _=>rfl) (λj hj=>aA hj) ((rJ.idle Gx).2 ?_) Mq;simp only[AW,St.to,St.wr,St.uM,aC,St.B,St.T,St.L,St.cc]at *;rw[aA qv,aA qv];exact⟨I,I⟩
theorem Mr(h:DT C s)(hi:i<C.N){b t cc d}(hp:s.pc i= .nD b t cc):DT C (aH C s i d).s:=by
 have H:=h.1 i hi;have P:=H.ph;unfold rJ at P;rw[hp]at P;simp only[yt]at P;obtain⟨⟨g1,g2,g3,g4,g5⟩,g6⟩:=P;unfold aH;rw[hp];simp only;have E:=H.els;split
 ·rename_i hb;obtain⟨k1,k2,k3⟩:=g4 hb;refine h.mine hi (λa ha=>rfl) (λj hj=>rfl) (λj hj=>rfl) (λj hj=>rfl) (λj hj=>aA hj) (λj hj=>aA hj) ⟨H.t0,H.Ct,H.Ee,H.HJ,E,?_⟩ ⟨yB _,gQ _,λ_ _=>rfl,?_⟩ (Th.plain (by simp[got,St.oq,St.put,St.holds,St.to]))
  ·refine(rJ.idle (by simp[got,St.oq,St.put,St.holds,St.to,Idle])).2 ?_;simp only[got,St.oq,St.put,St.holds,St.to,St.B,St.T,St.L,St.cc]at *;exact⟨I,I⟩
  ·intro _ x l hq;exact⟨⟨l,hq⟩,λg hg hx=>hx⟩
 ·rename_i hb;have e:t=b:=by omega
  obtain⟨k1,k2,k3⟩:=g5 e;refine h.reads hi rfl rfl rfl rfl rfl (λj hj=>qt hj) ?_ (Th.plain (by rw[kr];trivial));unfold rJ;simp only[St.to,aC,St.B,St.T,St.L,St.cc]at *;refine⟨g1,e,k1,k2,λht => ?_,k3⟩;have hl:(s.q i).length=1:=by omega
  obtain⟨x,hx⟩:=List.length_eq_one_iff.1 hl;have:=E 0 I;rw[hx]at this;simp only[List.getD_cons_zero]at this;rw[show s.mem (.top i)+((0:Nat):Int)=b by omega,<-g6]at this;rw[this,hx];exact⟨rfl,I⟩
theorem Og(h:DT C s)(hi:i<C.N){b t x d}(hp:s.pc i= .qH b t x):DT C (aH C s i d).s:=by
 have H:=h.1 i hi;have P:=H.ph;unfold rJ at P;rw[hp]at P;simp only at P;obtain⟨g1,g2,g3,g4,g5,g6⟩:=P;have t0:=H.t0;have c1:=H.Ct _ (gQ (s.cur i));unfold aH;rw[hp];simp only;simp only[St.B,St.T,St.L,St.cc]at *;split
 ·rename_i ht;obtain⟨k1,k2⟩:=g5 ht;refine h.mine hi (λa ha=>jX (λe=>ha (by rw[e];rfl))) (λj hj=>rfl) (λj hj=>rfl) (λj hj=>aA hj) (λj hj=>aA hj) (λj hj=>aA hj) ⟨?_,?_,?_,?_,?_,?_⟩ ⟨?_,gQ _,?_,?_⟩ (Th.plain (by simp[St.oq,St.put,St.sS,St.to]))
  ·simp only[St.T,St.oq,St.put,St.sS,St.to,St.wr,aC];omega
  ·intro g hg;simp only[St.oq,St.put,St.sS,St.to,St.wr];rw[aA qv];exact H.Ct g hg
  ·simp only[St.cc,St.oq,St.put,St.sS,St.to,St.wr];rw[aA qv];exact H.Ee
  ·simp only[St.oq,St.put,St.sS,St.to,St.wr];rw[aA qv];exact H.HJ
  ·intro n hn;simp[St.oq,St.put,St.sS,St.to]at hn
  ·unfold rJ;simp only[St.oq,St.put,St.sS,St.to,aC,St.B,St.T,St.L,St.cc,St.wr];rw[aA qv];exact⟨I,trivial,by simp,λ_=>⟨trivial,k2⟩⟩
  ·simp only[St.T,St.oq,St.put,St.sS,St.to,St.wr,aC];omega
  ·intro g hg;simp only[St.oq,St.put,St.sS,St.to,St.wr];rw[aA qv]
  ·intro ht' ;simp only[St.T,St.oq,St.put,St.sS,St.to,St.wr,aC]at ht';omega
 ·rename_i ht;refine h.reads hi rfl rfl rfl rfl rfl (λj hj=>qt hj) ?_ (Th.plain (by rw[kr];trivial));unfold rJ;simp only[St.to,aC,St.B,St.T,St.L,St.cc]at *;exact⟨I,I,I,λe=>Bool.noConfusion e⟩
theorem Oh(h:DT C s)(hi:i<C.N){t x Bi d}(hp:s.pc i= .oP t x Bi):DT C (aH C s i d).s:=by
 have H:=h.1 i hi;have P:=H.ph;unfold rJ at P;rw[hp]at P;simp only at P;obtain⟨g1,g2,g3,g4⟩:=P;have c1:=H.Ct _ (gQ (s.cur i));unfold aH;rw[hp];simp only;cases Bi
 ·refine h.Mp hi rfl rfl rfl rfl (λ_ _=>rfl) (λj hj=>aA hj) ((rJ.idle Gx).2 ?_) Mq;simp only[AW,St.to,St.wr,St.uM,aC,St.B,St.T,St.L,St.cc,Ik,if_false]at *;rw[aA qv,aA qv];exact⟨I,I⟩
 ·refine h.Mp hi rfl rfl rfl rfl (λj hj=>aA hj) (λj hj=>aA hj) ((rJ.idle (by simp[got,St.oq,St.put,St.holds,St.to,Idle])).2 ?_) (Th.plain (by simp[got,St.oq,St.put,St.holds,St.to]));simp only[got,St.to,St.wr,St.uM,St.oq,St.put,St.holds,aC,St.B,St.T,St.L,St.cc,if_true]at *;rw[aA qv,aA qv];exact⟨I,I⟩
theorem D.aaY{s':St}{v:Nat}{x:Nat}{l:List Nat}(H:D C s v)(hq:s.q v=x::l)(hm:s'.mem=ck s.mem (.top v) (s.T v+1))(h1:s'.cur=s.cur)(h2:s'.base=s.base)(h3:s'.q v=l)(h4:s'.pop v=s.pop v)(hp:s'.pc v=s.pc v):D C s' v:=by
 have e:∀a,a≠.top v->s'.mem a=s.mem a:=λa ha=>by rw[hm];exact aA ha
 have et:s'.mem (.top v)=s.mem (.top v)+1:=by rw[hm];exact aC _ _ _
 have E:=H.els;have t0:=H.t0;have eb:=e (.bot v) qv;have ec:=λg=>e (.cap v g) qv;have ee:=λg n=>e (.el v g n) qv;have hl:(s.q v).length=l.length+1:=by rw[hq];rfl
 have P:=H.ph;refine⟨?_,?_,?_,?_,?_,?_⟩
 ·simp only[St.T]at *;rw[et];omega
 ·intro g hg;rw[ec];rw[h1]at hg;exact H.Ct g hg
 ·simp only[St.cc,h1];rw[ec];exact H.Ee
 ·rw[e _ qv,h1,h2];exact H.HJ
 ·intro n hn;rw[h3]at hn;simp only[St.T,St.cc,h1,h3]at *;rw[ee,ec,et];have:=E (n+1) I;rw[hq]at this;simp only[List.getD_cons_succ]at this;rw[<-this,show s.mem (.top v)+1+(n:Int)=s.mem (.top v)+((n+1:Nat):Int) by omega]
 ·unfold rJ at P⊢;rw[hp];simp only[EB,C9,yt,St.B,St.T,St.L,St.cc,h1,h3,h4,et,eb,ec,ee]at P⊢;rw[hl]at P;split<;>rename_i hh<;>simp only[hh]at P<;>try omega
  ·refine⟨I,⟨P.2.1.1,λm a b=>P.2.1.2 m I b⟩,I⟩
  ·refine⟨I,⟨P.2.1.1,λm a b=>P.2.1.2 m I b⟩,P.2.2.1,P.2.2.2.1,P.2.2.2.2⟩
  ·refine⟨I,⟨P.2.1,λm a b=>P.2.2 m I b⟩⟩
  ·refine⟨P.1,P.2.1,P.2.2.1,λhb => ?_,λhb => ?_⟩
   ·obtain⟨a1,a2,a3⟩:=P.2.2.2.1 hb;exact⟨I,I,a3⟩
   ·obtain⟨a1,a2,a3⟩:=P.2.2.2.2 hb;exact⟨I,I,I⟩
  ·refine⟨⟨P.1.1,P.1.2.1,P.1.2.2.1,λhb => ?_,λhb => ?_⟩,P.2⟩
   ·obtain⟨a1,a2,a3⟩:=P.1.2.2.2.1 hb;exact⟨I,I,a3⟩
   ·obtain⟨a1,a2,a3⟩:=P.1.2.2.2.2 hb;exact⟨I,I,I⟩
end
section
variable {C:jv}{s:St}{i:Nat}
theorem ne1{v:Nat}(hi:i<C.N)(hv:v<C.N)(h:v≠i):C.N≠1:=by omega
theorem Kw(h:DT C s)(hi:i<C.N){v t x d}(hp:s.pc i= .qm v t x):DT C (aH C s i d).s:=by
 have P:=h.2 i hi;unfold Th at P;rw[hp]at P;simp only at P;obtain⟨g1,g2,g3,g4⟩:=P;have Hv:=h.1 v g1;have Hi:=h.1 i hi;unfold aH;rw[hp];simp only;split
 ·rename_i ht;obtain⟨y,l,hq,hx⟩:=g4 ht.symm;have ep:∀j,j≠i->(got ((s.wr (.top v) (t+1)).sS v (s.q v).tail) i x v).pc j=s.pc j:=λj hj=>aA hj;have em:∀a,a≠.top v->(got ((s.wr (.top v) (t+1)).sS v (s.q v).tail) i x v).mem a=s.mem a:=λa ha=>aA ha;have eS:∀j,j≠v->Da s (got ((s.wr (.top v) (t+1)).sS v (s.q v).tail) i x v) j:=λj hj=>Da.of (λa ha=>em a (λe=>hj (by rw[e]at ha;exact(Option.some.inj ha).symm))) rfl rfl (aA hj) rfl;refine⟨λj hj => ?_,λk hk => ?_⟩
  ·by_cases e:j=v
   ·subst e;exact Hv.aaY hq (by rw[St.T,ht];rfl) rfl rfl (by show(ck s.q j (s.q j).tail) j=l;rw[aC,hq];rfl) rfl (aA g2)
   ·by_cases e':j=i
    ·subst e';have hI:Idle (s.pc j):=by rw[hp];trivial
     refine Hi.idle (s':=got ((s.wr (.top v) (t+1)).sS v (s.q v).tail) j x v) ?_ hI (by simp[got,St.put,St.holds,St.to,Idle])
     ·exact Da.of (λa ha=>em a (λe=>by rw[e]at ha;exact g2 (Option.some.inj ha))) rfl rfl (aA e) rfl
    ·exact(h.1 j hj).ZP (eS j e) (ep j e')
  ·by_cases e:k=i
   ·subst e;exact Th.plain (by simp[got,St.oq,St.put,St.holds,St.to])
   ·refine(h.2 k hk).calm (λj hj => ?_) (ep k e);by_cases e':j=v
    ·subst e';refine⟨?_,gQ _,λg hg=>em _ qv,λhT => ?_⟩
     ·show s.mem (.top j)<=ck s.mem (.top j) (t+1) (.top j);rw[aC];omega
     ·have:s.mem (.top j)=ck s.mem (.top j) (t+1) (.top j):=hT;rw[aC]at this;omega
    ·exact(eS j e').calm
 ·refine h.gL hi (λ_ _=>rfl) rfl rfl rfl rfl (λj hj=>qt hj) (by rw[hp];trivial) (by rw[kr];trivial) (by unfold Th;rw[kr];exact ne1 hi g1 g2)
theorem SQ(hi:i<C.N)(hN:C.N≠1)(d:Int):(i+1+(d%((C.N:Int)-1)).toNat)%C.N<C.N/\(i+1+(d%((C.N:Int)-1)).toNat)%C.N≠i:=by
 have h1:=EW d (b:=(C.N:Int)-1) I;have h2:=GQ d (b:=(C.N:Int)-1) I;generalize hr:(d%((C.N:Int)-1)).toNat=r;have hr2:r<C.N-1:=by omega
 refine⟨Nat.mod_lt _ I,?_⟩;by_cases h:i+1+r<C.N
 ·rw[xR h];omega
 ·rw[Nat.mod_eq_sub_mod I,xR I];omega
theorem D.bot_le{j:Nat}(h:D C s j):s.B j<=s.T j+s.L j:=by
 have P:=h.ph;unfold rJ at P;split at P<;>simp only[EB,yt,St.B,St.T,St.L,St.cc]at * <;> first
  | omega
  | (rcases Int.lt_or_eq_of_le P.2.1 with e | e
     ·have:=P.2.2.2.1 e;omega
     ·have:=P.2.2.2.2 e;omega)
  | (rcases Int.lt_or_eq_of_le P.1.2.1 with e | e
     ·have:=P.1.2.2.2.1 e;omega
     ·have:=P.1.2.2.2.2 e;omega)
def Far:Pc->Prop
 | .lS | .HH | .yR .. | .ud .. | .tu .. | .qX .. | .qm .. => False
 | _=>True
theorem DT.qB{s':St}{p:Pc}(h:DT C s)(hi:i<C.N)(hm:∀a,a.own≠none->s'.mem a=s.mem a)(h1:s'.cur=s.cur)(h2:s'.base=s.base)(h3:s'.q=s.q)(h4:s'.pop=s.pop)
 (hp:s'.pc=ck s.pc i p) (hid:Idle (s.pc i)) (aaX:Idle p) (hf:Far p):DT C s':=by
 have e:s'.pc i=p:=by rw[hp];exact aC _ _ _
 refine h.gL hi hm h1 h2 h3 h4 (λj hj=>by rw[hp];exact aA hj) hid (by rw[e];exact aaX) (Th.plain ?_);rw[e];cases p<;>first | exact hf | trivial
theorem DT.PE{s':St}(h:DT C s)(hi:i<C.N)(hm:∀a,a.own≠none->s'.mem a=s.mem a)(h1:s'.cur=s.cur)(h2:s'.base=s.base)(h3:s'.q=s.q)(h4:s'.pop=s.pop)
 (hp:s'.pc=s.pc) (hid:Idle (s.pc i)):DT C (AW s' C i):=
 h.gL hi hm h1 h2 h3 h4 (λj hj=>by show ck s'.pc i _ j=s.pc j;rw[aA hj,hp]) hid Gx Mq
theorem DT.same{s':St}(h:DT C s)(hi:i<C.N)(hm:∀a,a.own≠none->s'.mem a=s.mem a)(h1:s'.cur=s.cur)(h2:s'.base=s.base)(h3:s'.q=s.q)(h4:s'.pop=s.pop)(hp:s'.pc=s.pc)(hr:s.pc i= .run):DT C s':=
 h.gL hi hm h1 h2 h3 h4 (λj hj=>by rw[hp]) (by rw[hr];trivial) (by rw[hp,hr];trivial) (Th.plain (by rw[hp,hr];trivial))
theorem PF(h:DT C s)(hi:i<C.N)(hp:s.pc i= .run):DT C (instr C s i).s:=by
 unfold instr;simp only;split
 ·exact h.same hi (λ_ _=>rfl) rfl rfl rfl rfl rfl hp
 ·exact h.same hi (λ_ _=>rfl) rfl rfl rfl rfl rfl hp
 ·exact h.same hi (λ_ _=>rfl) rfl rfl rfl rfl rfl hp
 ·exact h.same hi (λ_ _=>rfl) rfl rfl rfl rfl rfl hp
 ·exact h.same hi (λ_ _=>rfl) rfl rfl rfl rfl rfl hp
 ·exact h.same hi (λ_ _=>rfl) rfl rfl rfl rfl rfl hp
 ·exact h.same hi (λ_ _=>rfl) rfl rfl rfl rfl rfl hp
 ·split
  ·exact DT.qB h hi (by intro a ha;exact jX (by intro e;rw[e]at ha;exact ha rfl)) rfl rfl rfl rfl rfl (by rw[hp];trivial) trivial trivial
  ·exact DT.qB h hi (by intro a ha;exact jX (by intro e;rw[e]at ha;exact ha rfl)) rfl rfl rfl rfl rfl (by rw[hp];trivial) trivial trivial
 ·split
  ·exact DT.qB h hi (by intro a ha;exact jX (by intro e;rw[e]at ha;exact ha rfl)) rfl rfl rfl rfl rfl (by rw[hp];trivial) trivial trivial
  ·exact DT.qB h hi (by intro a ha;exact jX (by intro e;rw[e]at ha;exact ha rfl)) rfl rfl rfl rfl rfl (by rw[hp];trivial) trivial trivial
 ·split
  ·exact DT.qB h hi (by intro a ha;exact jX (by intro e;rw[e]at ha;exact ha rfl)) rfl rfl rfl rfl rfl (by rw[hp];trivial) trivial trivial
  ·exact DT.qB h hi (by intro a ha;exact jX (by intro e;rw[e]at ha;exact ha rfl)) rfl rfl rfl rfl rfl (by rw[hp];trivial) trivial trivial
theorem DT.aH(h:DT C s)(hi:i<C.N)(d:Int):DT C (aH C s i d).s:=by
 have H:=h.1 i hi;have HT:=h.2 i hi;have P:=H.ph;cases hp:s.pc i with
 | grow=>exact SN h hi hp
 | lY=>exact Ml h hi hp
 | js=>exact Kr h hi hp
 | iZ=>exact Jq h hi hp
 | lD=>exact Mm h hi hp
 | ja=>exact Ks h hi hp
 | nC=>exact Mn h hi hp
 | zi=>exact SP h hi hp
 | oh=>exact Ku h hi hp
 | sC=>exact Kv h hi hp
 | nD=>exact Mr h hi hp
 | qH=>exact Og h hi hp
 | oP=>exact Oh h hi hp
 | qm=>exact Kw h hi hp
 | halted=>unfold Am.aH;rw[hp];exact h
 | full=>unfold Am.aH;rw[hp];exact h
 | ya c =>
  unfold Am.aH;rw[hp];refine h.reads hi rfl rfl rfl rfl rfl (λj hj=>qt hj) ?_ (Th.plain (by rw[kr];trivial));have:=(rJ.idle (by rw[hp];trivial)).1 P;unfold rJ;simp only[St.to,aC,St.B,St.T,St.L,St.cc]at *;exact⟨trivial,this.1.symm,this.2⟩
 | wG c b =>
  unfold Am.aH;rw[hp];refine h.reads hi rfl rfl rfl rfl rfl (λj hj=>qt hj) ?_ (Th.plain (by rw[kr];trivial));unfold rJ at P⊢;rw[hp]at P;simp only[St.to,aC,St.B,St.T,St.L,St.cc]at *;exact⟨P.1,P.2.1,P.2.2,yB _,I⟩
 | oF c b t =>
  unfold Am.aH;rw[hp];refine h.reads hi rfl rfl rfl rfl rfl (λj hj=>qt hj) ?_ (Th.plain (by rw[kr];trivial));unfold rJ at P⊢;rw[hp]at P;simp only[St.to,aC,St.B,St.T,St.L,St.cc]at *;exact P
 | oG c b t =>
  unfold Am.aH;rw[hp];simp only;unfold rJ at P;rw[hp]at P;simp only at P;split
  ·refine h.reads hi rfl rfl rfl rfl rfl (λj hj=>qt hj) ?_ (Th.plain (by rw[kr];trivial));unfold rJ;simp only[St.to,aC,St.B,St.T,St.L,St.cc]at *;exact⟨P.1,P.2.1,I,bR⟩
  ·split
   ·refine h.reads hi rfl rfl rfl rfl rfl (λj hj=>qt hj) ?_ (Th.plain (by rw[kr];trivial));refine(rJ.idle (by rw[kr];trivial)).2 ?_;simp only[St.to,aC,St.B,St.T,St.L,St.cc]at *;exact⟨I,P.2.2.1⟩
   ·refine h.reads hi rfl rfl rfl rfl rfl (λj hj=>qt hj) ?_ (Th.plain (by rw[kr];trivial));unfold rJ;simp only[EB,St.to,aC,St.B,St.T,St.L,St.cc]at *;exact⟨P.1,P.2.1,P.2.2.1,P.2.2.2.1,trivial,I,I⟩
 | Ae =>
  unfold Am.aH;rw[hp];refine h.reads hi rfl rfl rfl rfl rfl (λj hj=>qt hj) ?_ (Th.plain (by rw[kr];trivial));have:=(rJ.idle (by rw[hp];trivial)).1 P;unfold rJ;simp only[St.to,aC,St.B,St.T,St.L,St.cc]at *;exact⟨I,I,this.2⟩
 | uL b =>
  unfold Am.aH;rw[hp];refine h.reads hi rfl rfl rfl rfl rfl (λj hj=>qt hj) ?_ (Th.plain (by rw[kr];trivial));unfold rJ at P⊢;rw[hp]at P;simp only[St.to,aC,St.B,St.T,St.L,St.cc]at *;exact P
 | sD b t =>
  unfold Am.aH;rw[hp];refine h.reads hi rfl rfl rfl rfl rfl (λj hj=>qt hj) ?_ (Th.plain (by rw[kr];trivial));unfold rJ at P⊢;rw[hp]at P;simp only[yt,St.to,aC,St.B,St.T,St.L,St.cc]at *;exact⟨P,bR⟩
 | lS =>
  have hN:C.N≠1:=by unfold Th at HT;rw[hp]at HT;exact HT
  unfold Am.aH;rw[hp];simp only;have hv:=SQ hi hN d;refine h.gL hi (λ_ _=>rfl) rfl rfl rfl rfl (λj hj=>qt hj) (by rw[hp];trivial) (by rw[kr];trivial) ?_;unfold Th;rw[kr];exact⟨hv.1,hv.2,yB _⟩
 | yR v t =>
  unfold Th at HT;rw[hp]at HT;simp only at HT;unfold Am.aH;rw[hp];simp only;split
  ·refine h.gL hi (λ_ _=>rfl) rfl rfl rfl rfl (λj hj=>qt hj) (by rw[hp];trivial) (by rw[kr];trivial) ?_;unfold Th;rw[kr];exact ne1 hi HT.1 HT.2.1
  ·rename_i hb;refine h.gL hi (λ_ _=>rfl) rfl rfl rfl rfl (λj hj=>qt hj) (by rw[hp];trivial) (by rw[kr];trivial) ?_;unfold Th;rw[kr];refine⟨HT.1,HT.2.1,HT.2.2,λht => ?_⟩;have hB:=(h.1 v HT.1).bot_le;intro hq;have hB:s.B v<=s.T v+s.L v:=hB;have:s.L v=0:=by show((s.q v).length:Int)=0;rw[show s.q v=[]from hq];rfl
   have ht':t=s.T v:=ht;simp only[St.B]at hB;omega
 | ud v t =>
  unfold Th at HT;rw[hp]at HT;simp only at HT;unfold Am.aH;rw[hp];simp only;refine h.gL hi (λ_ _=>rfl) rfl rfl rfl rfl (λj hj=>qt hj) (by rw[hp];trivial) (by rw[kr];trivial) ?_;unfold Th;rw[kr];refine⟨HT.1,HT.2.1,HT.2.2.1,gQ _,λht => ?_⟩;obtain⟨x,l,hq⟩:=List.exists_cons_of_ne_nil (HT.2.2.2 ht);refine⟨x,l,hq,?_⟩;have:=(h.1 v HT.1).els 0 (by rw[hq];simp);rw[hq]at this;have ht':t=s.T v:=ht;simp only[St.T,St.cc,List.getD_cons_zero]at this ht';rw[ht']
  simpa [St.to]using this
 | tu v t g =>
  unfold Th at HT;rw[hp]at HT;simp only at HT;unfold Am.aH;rw[hp];simp only;refine h.gL hi (λ_ _=>rfl) rfl rfl rfl rfl (λj hj=>qt hj) (by rw[hp];trivial) (by rw[kr];trivial) ?_;unfold Th;rw[kr];exact⟨HT.1,HT.2.1,HT.2.2.1,HT.2.2.2.1,rfl,HT.2.2.2.2⟩
 | qX v t g cc =>
  unfold Th at HT;rw[hp]at HT;simp only at HT;unfold Am.aH;rw[hp];simp only;refine h.gL hi (λ_ _=>rfl) rfl rfl rfl rfl (λj hj=>qt hj) (by rw[hp];trivial) (by rw[kr];trivial) ?_;unfold Th;rw[kr];refine⟨HT.1,HT.2.1,HT.2.2.1,λht => ?_⟩;obtain⟨x,l,hq,hx⟩:=HT.2.2.2.2.2 ht;exact⟨x,l,hq,by rw[HT.2.2.2.2.1];exact hx⟩
 | HH =>
  have hN:C.N≠1:=by unfold Th at HT;rw[hp]at HT;exact HT
  unfold Am.aH;rw[hp];simp only;split
  ·exact h.gL hi (λ_ _=>rfl) rfl rfl rfl rfl (λj hj=>qt hj) (by rw[hp];trivial) (by rw[kr];trivial) (Th.plain (by rw[kr];trivial))
  ·refine h.gL hi (λ_ _=>rfl) rfl rfl rfl rfl (λj hj=>qt hj) (by rw[hp];trivial) (by rw[kr];split<;>trivial) ?_;unfold Th;rw[kr];by_cases h3:s.iE i<3
   ·simp only[bg h3];exact hN
   ·simp only[cQ h3]
 | run =>
  unfold Am.aH;rw[hp];simp only;exact PF h hi hp
 | tell j =>
  unfold Am.aH;rw[hp];simp only[n8];split
  ·exact DT.qB h hi (by intro a ha;exact jX (by intro e;rw[e]at ha;exact ha rfl)) rfl rfl rfl rfl rfl (by rw[hp];trivial) trivial trivial
  ·split
   ·exact DT.qB h hi (λ_ _=>rfl) rfl rfl rfl rfl rfl (by rw[hp];trivial) trivial trivial
   ·exact DT.qB h hi (λ_ _=>rfl) rfl rfl rfl rfl rfl (by rw[hp];trivial) trivial trivial
 | BO j =>
  unfold Am.aH;rw[hp];simp only[n8];split<;>exact DT.qB h hi (by intro a ha;exact jX (by intro e;rw[e]at ha;exact ha rfl)) rfl rfl rfl rfl rfl (by rw[hp];trivial) trivial trivial
 | done =>
  unfold Am.aH;rw[hp];simp only[n8];split<;>exact DT.qB h hi (by intro a ha;exact jX (by intro e;rw[e]at ha;exact ha rfl)) rfl rfl rfl rfl rfl (by rw[hp];trivial) trivial trivial
 | out p c =>
  unfold Am.aH;rw[hp];simp only;split<;>exact DT.qB h hi (by intro a ha;exact jX (by intro e;rw[e]at ha;exact ha rfl)) rfl rfl rfl rfl rfl (by rw[hp];trivial) trivial trivial
 | Cs =>
  unfold Am.aH;rw[hp];simp only;refine DT.qB h hi (λ_ _=>rfl) rfl rfl rfl rfl rfl (by rw[hp];trivial) ?_ ?_<;>split<;>trivial
 | vk j =>
  unfold Am.aH;rw[hp];simp only;split
  ·exact DT.qB h hi (by intro a ha;exact jX (by intro e;rw[e]at ha;exact ha rfl)) rfl rfl rfl rfl rfl (by rw[hp];trivial) trivial trivial
  ·refine DT.qB h hi (λ_ _=>rfl) rfl rfl rfl rfl rfl (by rw[hp];trivial) ?_ ?_<;>split<;>trivial
 | yS =>
  unfold Am.aH;rw[hp];simp only[looking];split
  ·exact DT.qB h hi (λ_ _=>rfl) rfl rfl rfl rfl rfl (by rw[hp];trivial) trivial trivial
  ·split<;>exact DT.qB h hi (λ_ _=>rfl) rfl rfl rfl rfl rfl (by rw[hp];trivial) trivial trivial
 | GZ j t =>
  unfold Am.aH;rw[hp];simp only[looking];split
  ·exact DT.qB h hi (λ_ _=>rfl) rfl rfl rfl rfl rfl (by rw[hp];trivial) trivial trivial
  ·split<;>exact DT.qB h hi (λ_ _=>rfl) rfl rfl rfl rfl rfl (by rw[hp];trivial) trivial trivial
 | parked =>
  unfold Am.aH;rw[hp];simp only;split
  ·exact h
  ·exact DT.PE h hi (s':=s.uM i 0) (λ_ _=>rfl) rfl rfl rfl rfl rfl (by rw[hp];trivial)
 | back b =>
  unfold Am.aH;rw[hp];simp only[C8];split
  ·exact DT.qB h hi (by intro a ha;exact jX (by intro e;rw[e]at ha;exact ha rfl)) rfl rfl rfl rfl rfl (by rw[hp];trivial) trivial trivial
  ·split
   ·exact DT.qB h hi (λ_ _=>rfl) rfl rfl rfl rfl rfl (by rw[hp];trivial) trivial trivial
   ·exact DT.PE h hi (s':=s.uM i 0) (λ_ _=>rfl) rfl rfl rfl rfl rfl (by rw[hp];trivial)
 | zG b =>
  unfold Am.aH;rw[hp];simp only[C8];split
  ·exact DT.qB h hi (by intro a ha;exact jX (by intro e;rw[e]at ha;exact ha rfl)) rfl rfl rfl rfl rfl (by rw[hp];trivial) trivial trivial
  ·exact DT.PE h hi (s':=(s.wr .An (s.mem .An-1)).uM i 0) (by intro a ha;exact jX (by intro e;rw[e]at ha;exact ha rfl)) rfl rfl rfl rfl rfl (by rw[hp];trivial)
 | start x=>unfold Am.aH;rw[hp];exact DT.qB h hi (by intro a ha;exact jX (by intro e;rw[e]at ha;exact ha rfl)) rfl rfl rfl rfl rfl (by rw[hp];trivial) trivial trivial
 | fork c=>unfold Am.aH;rw[hp];exact DT.qB h hi (by intro a ha;exact jX (by intro e;rw[e]at ha;exact ha rfl)) rfl rfl rfl rfl rfl (by rw[hp];trivial) trivial trivial
 | nB=>unfold Am.aH;rw[hp];exact DT.qB h hi (by intro a ha;exact jX (by intro e;rw[e]at ha;exact ha rfl)) rfl rfl rfl rfl rfl (by rw[hp];trivial) trivial trivial
 | take p c=>unfold Am.aH;rw[hp];exact DT.qB h hi (by intro a ha;exact jX (by intro e;rw[e]at ha;exact ha rfl)) rfl rfl rfl rfl rfl (by rw[hp];trivial) trivial trivial
 | yq j=>unfold Am.aH;rw[hp];exact DT.qB h hi (by intro a ha;exact jX (by intro e;rw[e]at ha;exact ha rfl)) rfl rfl rfl rfl rfl (by rw[hp];trivial) trivial trivial
 | flag=>unfold Am.aH;rw[hp];exact DT.qB h hi (by intro a ha;exact jX (by intro e;rw[e]at ha;exact ha rfl)) rfl rfl rfl rfl rfl (by rw[hp];trivial) trivial trivial
 | sleep=>unfold Am.aH;rw[hp];exact DT.qB h hi (by intro a ha;exact jX (by intro e;rw[e]at ha;exact ha rfl)) rfl rfl rfl rfl rfl (by rw[hp];trivial) trivial trivial
 | GY j=>unfold Am.aH;rw[hp];exact DT.qB h hi (λ_ _=>rfl) rfl rfl rfl rfl rfl (by rw[hp];trivial) trivial trivial
end
inductive Vz | none | full | start | run | fork (c:Nat) | push (c:Nat) | one | out (p c:Nat) | take (p c:Nat)
deriving DecidableEq
def sig:Pc->Vz
 | .start _=>.start
 | .run | .Cs | .vk _ | .yq _=>.run
 | .fork c=>.fork c
 | .ya c | .wG c _ | .oF c _ _ | .oG c _ _ | .grow c _ _ _ | .lY c _ _ _ | .js c _ _ _ _
 | .iZ c _ _ _ _ _ | .lD c _ _ _ | .ja c _ _ | .nC c _=>.push c
 | .nB=>.one
 | .out p c=>.out p c
 | .take p c=>.take p c
 | .full=>.full
 | _=>.none
structure V where
 g:Nat->Vz
 hold:Nat->Option Nat
 loc:Nat->Loc
 par:Nat->Nat
 nf:Nat
 bD:Nat->List Nat
 q:Nat->List Nat
 pop:Nat->Option Nat
 join:Nat->Int
 mark:Nat->Int
 next:Int
def af9(l:Loc)(n:Int)(k:List Nat):Prop:=
 match l with
 | .waiting=>n=k.length/\k≠[]
 | .uy _ | .qJ _=>n=0/\k=[]
 | _=>n=1+k.length
def early:Loc->Bool
 | .free | .bW _ | .Of _ | .pop _=>true
 | _=>false
def busy:Vz->Bool
 | .start | .run | .fork _ | .push _ | .one=>true
 | _=>false
def rest:Vz->Bool
 | .none | .out _ _ | .take _ _=>true
 | _=>false
def PG(N:Nat)(g:Nat->Vz)(c:Nat):Loc->Prop
 | .bW j=>j<N/\g j= .fork c
 | _=>False
structure V.FI(N F:Nat)(v:V):Prop where
 Ao:1<=v.nf
 zj:v.nf<=F
 nx:v.next=v.nf∨(v.nf=F/\(F:Int)<=v.next)
 free:∀f,v.nf<=f->v.loc f= .free
 used:∀f,f<v.nf->v.loc f≠.free
 new:∀f,v.nf<=f->v.bD f=[]/\v.join f=1
 hold:∀i f,i<N->v.hold i=some f->(v.g i= .one/\v.loc f= .uy i)∨(v.g i≠.one/\v.loc f= .held i)
 hs:∀i,i<N->busy (v.g i)=true->v.hold i≠.none
 hr:∀i,i<N->rest (v.g i)=true->v.hold i= .none
 fk:∀i c,i<N->v.g i= .fork c->c≠0/\v.loc c= .bW i/\v.hold i=some (v.par c)/\∀p,c∉v.bD p
 ps:∀i c,i<N->v.g i= .push c->c≠0/\v.loc c= .bW i/\v.hold i=some (v.par c)/\c∈v.bD (v.par c)
 q:∀j x,j<N->x∈v.q j->x≠0/\v.loc x= .Of j
 qn:∀j,j<N->(v.q j).Nodup
 pop:∀i x,i<N->v.pop i=some x->x≠0/\v.loc x= .pop i
 tk:∀i p c,i<N->v.g i= .take p c->v.loc p= .qJ i
 tp:∀i p c,i<N->v.g i= .take p c->c≠0/\c<v.nf/\p=v.par c
 out:∀i p c,i<N->v.g i= .out p c->c≠0/\v.loc c= .fin i/\p=v.par c
 G:∀p,(v.bD p).Nodup
 kd:∀p c,c∈v.bD p->c≠0/\v.par c=p/\v.loc c≠.gone/\v.loc c≠.free
 un:∀c,c≠0->c<v.nf->v.loc c≠.gone->c∈v.bD (v.par c)∨PG N v.g c (v.loc c)
 pr:∀c,c<v.nf->v.par c<v.nf
 jn:∀f,f<v.nf->af9 (v.loc f) (v.join f) (v.bD f)
 BP:∀f,early (v.loc f)=true->v.mark f=0
 Bl:∀i f,i<N->v.g i= .start->v.hold i=some f->v.mark f=0
attribute [grind =] cG
attribute [grind] early busy rest
theorem Jr{N g c l}:PG N g c l=match (l:Loc)with | .bW j=>j<N/\g j= .fork c | _=>False:=by cases l<;>rfl
theorem J_d{l n k}:af9 l n k=match (l:Loc)with | .waiting=>n=k.length/\k≠[] | .uy _ | .qJ _=>n=0/\k=[] | _=>n=1+(k.length:Int):=by cases l<;>rfl
attribute [grind =] Jr J_d
namespace V
variable {N F:Nat}{v:V}{i:Nat}
theorem FI.full(h:v.FI N F)(hi:i<N)(hg:busy (v.g i)=true)(h1:v.g i≠.one)(hn:∀c,v.g i≠.fork c) :
 FI N F {v with g:=ck v.g i .full} where
 Ao:=h.Ao
 zj:=h.zj
 nx:=h.nx
 free:=h.free
 used:=h.used
 new:=h.new
 hold:=by have:=h.hold;grind
 hs:=by have:=h.hs;grind
 hr:=by have:=h.hr;grind
 fk:=by have:=h.fk;grind
 ps:=by have:=h.ps;grind
 q:=h.q
 qn:=h.qn
 pop:=h.pop
 tk:=by have:=h.tk;grind
 out:=by have:=h.out;grind
 tp:=by have:=h.tp;grind
 G:=h.G
 kd:=h.kd
 un:=by have:=h.un;grind
 pr:=h.pr
 jn:=h.jn
 BP:=h.BP
 Bl:=by have:=h.Bl;grind
theorem FI.start(h:v.FI N F)(hi:i<N)(hg:v.g i= .start){f:Nat}(hf:v.hold i=some f){m:Int} :
 FI N F {v with g:=ck v.g i .run,mark:=ck v.mark f m} where
 Ao:=h.Ao
 zj:=h.zj
 nx:=h.nx
 free:=h.free
 used:=h.used
 new:=h.new
 hold:=by have:=h.hold;grind
 hs:=by have:=h.hs;grind
 hr:=by have:=h.hr;grind
 fk:=by have:=h.fk;grind
 ps:=by have:=h.ps;grind
 q:=h.q
 qn:=h.qn
 pop:=h.pop
 tk:=by have:=h.tk;grind
 out:=by have:=h.out;grind
 tp:=by have:=h.tp;grind
 G:=h.G
 kd:=h.kd
 un:=by have:=h.un;grind
 pr:=h.pr
 jn:=h.jn
 BP:=by have:=h.BP;have:=h.hold;grind
 Bl:=by have:=h.Bl;have:=h.hold;grind
theorem FI.spawn(h:v.FI N F)(hi:i<N)(hg:v.g i= .run){f:Nat}(hf:v.hold i=some f)(hn:v.next<F) :
 FI N F {v with g:=ck v.g i (.fork v.nf),next:=v.next+1,nf:=v.nf+1,par:=ck v.par v.nf f,loc:=ck v.loc v.nf (.bW i)} where
 Ao:=by have:=h.Ao;have:=h.free;have:=h.used;grind
 zj:=by have:=h.zj;have:=h.free;have:=h.used;have:=h.nx;grind
 nx:=by have:=h.nx;have:=h.free;have:=h.used;have:=h.zj;grind
 free:=by have:=h.free;have:=h.used;grind
 used:=by have:=h.used;have:=h.free;grind
 new:=by have:=h.new;have:=h.free;have:=h.used;grind
 hold:=by have:=h.hold;have:=h.free;have:=h.used;grind
 hs:=by have:=h.hs;have:=h.free;have:=h.used;grind
 hr:=by have:=h.hr;have:=h.free;have:=h.used;grind
 fk:=by have:=h.fk;have:=h.free;have:=h.used;have:=h.kd;have:=h.new;have:=h.hold;grind
 ps:=by have:=h.ps;have:=h.free;have:=h.used;have:=h.kd;grind
 q:=by have:=h.q;have:=h.free;have:=h.used;grind
 qn:=h.qn
 pop:=by have:=h.pop;have:=h.free;have:=h.used;grind
 tk:=by have:=h.tk;have:=h.free;have:=h.used;grind
 out:=by have:=h.out;have:=h.free;have:=h.used;have:=h.pr;grind
 tp:=by have:=h.tp;have:=h.free;have:=h.used;grind
 G:=h.G
 kd:=by have:=h.kd;have:=h.free;have:=h.used;have:=h.new;grind
 un:=by have:=h.un;have:=h.free;have:=h.used;grind
 pr:=by have:=h.pr;have:=h.free;have:=h.used;have:=h.hold;grind
 jn:=by have:=h.jn;have:=h.free;have:=h.used;have:=h.new;grind
 BP:=by have:=h.BP;have:=h.free;have:=h.used;grind
 Bl:=by have:=h.Bl;have:=h.free;have:=h.used;grind
theorem FI.EC(h:v.FI N F)(hi:i<N)(hg:v.g i= .run)(hn:(F:Int)<=v.next) :
 FI N F {v with g:=ck v.g i .full,next:=v.next+1} where
 Ao:=h.Ao
 zj:=h.zj
 nx:=by have:=h.nx;have:=h.zj;grind
 free:=h.free
 used:=h.used
 new:=h.new
 hold:=by have:=h.hold;grind
 hs:=by have:=h.hs;grind
 hr:=by have:=h.hr;grind
 fk:=by have:=h.fk;grind
 ps:=by have:=h.ps;grind
 q:=h.q
 qn:=h.qn
 pop:=h.pop
 tk:=by have:=h.tk;grind
 out:=by have:=h.out;grind
 tp:=by have:=h.tp;grind
 G:=h.G
 kd:=h.kd
 un:=by have:=h.un;grind
 pr:=h.pr
 jn:=h.jn
 BP:=h.BP
 Bl:=by have:=h.Bl;grind
theorem FI.fork(h:v.FI N F)(hi:i<N){c f:Nat}(hg:v.g i= .fork c)(hf:v.hold i=some f) :
 FI N F {v with g:=ck v.g i (.push c),join:=ck v.join f (v.join f+1),bD:=ck v.bD f (c::v.bD f)} where
 Ao:=h.Ao
 zj:=h.zj
 nx:=h.nx
 free:=h.free
 used:=h.used
 new:=by have:=h.new;have:=h.fk;have:=h.hold;have:=h.free;grind
 hold:=by have:=h.hold;have:=h.fk;grind
 hs:=by have:=h.hs;have:=h.fk;have:=h.hold;grind
 hr:=by have:=h.hr;have:=h.fk;have:=h.hold;grind
 fk:=by have:=h.fk;have:=h.hold;grind
 ps:=by have:=h.ps;have:=h.fk;have:=h.hold;grind
 q:=h.q
 qn:=h.qn
 pop:=h.pop
 tk:=by have:=h.tk;have:=h.fk;have:=h.hold;grind
 out:=by have:=h.out;have:=h.fk;have:=h.hold;grind
 tp:=by have:=h.tp;have:=h.fk;have:=h.hold;grind
 G:=by have:=h.G;have:=h.fk;have:=h.hold;grind
 kd:=by have:=h.kd;have:=h.fk;have:=h.hold;grind
 un:=by have:=h.un;have:=h.fk;have:=h.hold;grind
 pr:=h.pr
 jn:=by have:=h.jn;have:=h.fk;have:=h.hold;grind
 BP:=h.BP
 Bl:=by have:=h.Bl;have:=h.fk;have:=h.hold;grind
theorem FI.push(h:v.FI N F)(hi:i<N){c:Nat}(hg:v.g i= .push c) :
 FI N F {v with g:=ck v.g i .run,q:=ck v.q i (v.q i++[c]),loc:=ck v.loc c (.Of i)} where
 Ao:=h.Ao
 zj:=h.zj
 nx:=h.nx
 free:=by have:=h.free;have:=h.ps;grind
 used:=by have:=h.used;have:=h.ps;grind
 new:=h.new
 hold:=by have:=h.hold;have:=h.ps;grind
 hs:=by have:=h.hs;have:=h.ps;grind
 hr:=by have:=h.hr;have:=h.ps;grind
 fk:=by have:=h.fk;have:=h.ps;grind
 ps:=by have:=h.ps;grind
 q:=by have:=h.q;have:=h.ps;grind
 qn:=by have:=h.qn;have:=h.ps;have:=h.q;grind
 pop:=by have:=h.pop;have:=h.ps;grind
 tk:=by have:=h.tk;have:=h.ps;grind
 out:=by have:=h.out;have:=h.ps;grind
 tp:=by have:=h.tp;have:=h.ps;grind
 G:=h.G
 kd:=by have:=h.kd;have:=h.ps;grind
 un:=by have:=h.un;have:=h.ps;have:=h.hold;grind
 pr:=h.pr
 jn:=by have:=h.jn;have:=h.ps;grind
 BP:=by have:=h.BP;have:=h.ps;grind
 Bl:=by have:=h.Bl;have:=h.ps;have:=h.hold;grind
theorem FI.wait(h:v.FI N F)(hi:i<N){f:Nat}(hg:v.g i= .run)(hf:v.hold i=some f)(hk:0<v.join f-1) :
 FI N F {v with g:=ck v.g i .none,hold:=ck v.hold i none,join:=ck v.join f (v.join f-1),loc:=ck v.loc f .waiting} where
 Ao:=h.Ao
 zj:=h.zj
 nx:=h.nx
 free:=by have:=h.free;have:=h.hold;grind
 used:=by have:=h.used;have:=h.hold;grind
 new:=by have:=h.new;have:=h.hold;have:=h.free;grind
 hold:=by have:=h.hold;grind
 hs:=by have:=h.hs;have:=h.hold;grind
 hr:=by have:=h.hr;have:=h.hold;grind
 fk:=by have:=h.fk;have:=h.hold;grind
 ps:=by have:=h.ps;have:=h.hold;grind
 q:=by have:=h.q;have:=h.hold;grind
 qn:=h.qn
 pop:=by have:=h.pop;have:=h.hold;grind
 tk:=by have:=h.tk;have:=h.hold;grind
 out:=by have:=h.out;have:=h.hold;grind
 tp:=by have:=h.tp;have:=h.hold;grind
 G:=h.G
 kd:=by have:=h.kd;have:=h.hold;grind
 un:=by have:=h.un;have:=h.hold;grind
 pr:=h.pr
 jn:=by have:=h.jn;have:=h.hold;grind
 BP:=by have:=h.BP;have:=h.hold;grind
 Bl:=by have:=h.Bl;have:=h.hold;grind
theorem FI.pass(h:v.FI N F)(hi:i<N){f:Nat}(hg:v.g i= .run)(hf:v.hold i=some f)(hk:¬0<v.join f-1) :
 FI N F {v with g:=ck v.g i .one,join:=ck v.join f (v.join f-1),loc:=ck v.loc f (.uy i)} where
 Ao:=h.Ao
 zj:=h.zj
 nx:=h.nx
 free:=by have:=h.free;have:=h.hold;grind
 used:=by have:=h.used;have:=h.hold;grind
 new:=by have:=h.new;have:=h.hold;have:=h.free;grind
 hold:=by have:=h.hold;grind
 hs:=by have:=h.hs;have:=h.hold;grind
 hr:=by have:=h.hr;have:=h.hold;grind
 fk:=by have:=h.fk;have:=h.hold;grind
 ps:=by have:=h.ps;have:=h.hold;grind
 q:=by have:=h.q;have:=h.hold;grind
 qn:=h.qn
 pop:=by have:=h.pop;have:=h.hold;grind
 tk:=by have:=h.tk;have:=h.hold;grind
 out:=by have:=h.out;have:=h.hold;grind
 tp:=by have:=h.tp;have:=h.hold;grind
 G:=h.G
 kd:=by have:=h.kd;have:=h.hold;grind
 un:=by have:=h.un;have:=h.hold;grind
 pr:=h.pr
 jn:=by have:=h.jn;have:=h.hold;grind [List.length_eq_zero_iff]
 BP:=by have:=h.BP;have:=h.hold;grind
 Bl:=by have:=h.Bl;have:=h.hold;grind
theorem FI.one(h:v.FI N F)(hi:i<N){f:Nat}(hg:v.g i= .one)(hf:v.hold i=some f) :
 FI N F {v with g:=ck v.g i .run,join:=ck v.join f 1,loc:=ck v.loc f (.held i)} where
 Ao:=h.Ao
 zj:=h.zj
 nx:=h.nx
 free:=by have:=h.free;have:=h.hold;grind
 used:=by have:=h.used;have:=h.hold;grind
 new:=by have:=h.new;have:=h.hold;have:=h.free;grind
 hold:=by have:=h.hold;grind
 hs:=by have:=h.hs;have:=h.hold;grind
 hr:=by have:=h.hr;have:=h.hold;grind
 fk:=by have:=h.fk;have:=h.hold;grind
 ps:=by have:=h.ps;have:=h.hold;grind
 q:=by have:=h.q;have:=h.hold;grind
 qn:=h.qn
 pop:=by have:=h.pop;have:=h.hold;grind
 tk:=by have:=h.tk;have:=h.hold;grind
 out:=by have:=h.out;have:=h.hold;grind
 tp:=by have:=h.tp;have:=h.hold;grind
 G:=h.G
 kd:=by have:=h.kd;have:=h.hold;grind
 un:=by have:=h.un;have:=h.hold;grind
 pr:=h.pr
 jn:=by have:=h.jn;have:=h.hold;grind
 BP:=by have:=h.BP;have:=h.hold;grind
 Bl:=by have:=h.Bl;have:=h.hold;grind
theorem FI.Ms(h:v.FI N F)(hi:i<N)(hg:v.g i= .run)(hf:v.hold i=some 0) :
 FI N F {v with g:=ck v.g i .none,hold:=ck v.hold i none,loc:=ck v.loc 0 (.fin i)} where
 Ao:=h.Ao
 zj:=h.zj
 nx:=h.nx
 free:=by have:=h.free;have:=h.hold;grind
 used:=by have:=h.used;have:=h.hold;grind
 new:=h.new
 hold:=by have:=h.hold;grind
 hs:=by have:=h.hs;have:=h.hold;grind
 hr:=by have:=h.hr;have:=h.hold;grind
 fk:=by have:=h.fk;have:=h.hold;grind
 ps:=by have:=h.ps;have:=h.hold;grind
 q:=by have:=h.q;have:=h.hold;grind
 qn:=h.qn
 pop:=by have:=h.pop;have:=h.hold;grind
 tk:=by have:=h.tk;have:=h.hold;grind
 out:=by have:=h.out;have:=h.hold;grind
 tp:=by have:=h.tp;have:=h.hold;grind
 G:=h.G
 kd:=by have:=h.kd;have:=h.hold;grind
 un:=by have:=h.un;have:=h.hold;grind
 pr:=h.pr
 jn:=by have:=h.jn;have:=h.hold;grind
 BP:=by have:=h.BP;have:=h.hold;grind
 Bl:=by have:=h.Bl;have:=h.hold;grind
theorem FI.ret(h:v.FI N F)(hi:i<N)(hg:v.g i= .run){f:Nat}(hf:v.hold i=some f)(h0:f≠0) :
 FI N F {v with g:=ck v.g i (.out (v.par f) f),hold:=ck v.hold i none,loc:=ck v.loc f (.fin i)} where
 Ao:=h.Ao
 zj:=h.zj
 nx:=h.nx
 free:=by have:=h.free;have:=h.hold;grind
 used:=by have:=h.used;have:=h.hold;grind
 new:=h.new
 hold:=by have:=h.hold;grind
 hs:=by have:=h.hs;have:=h.hold;grind
 hr:=by have:=h.hr;have:=h.hold;grind
 fk:=by have:=h.fk;have:=h.hold;grind
 ps:=by have:=h.ps;have:=h.hold;grind
 q:=by have:=h.q;have:=h.hold;grind
 qn:=h.qn
 pop:=by have:=h.pop;have:=h.hold;grind
 tk:=by have:=h.tk;have:=h.hold;grind
 out:=by have:=h.out;have:=h.hold;grind
 tp:=by have:=h.tp;have:=h.hold;grind
 G:=h.G
 kd:=by have:=h.kd;have:=h.hold;grind
 un:=by have:=h.un;have:=h.hold;grind
 pr:=h.pr
 jn:=by have:=h.jn;have:=h.hold;grind
 BP:=by have:=h.BP;have:=h.hold;grind
 Bl:=by have:=h.Bl;have:=h.hold;grind
theorem FI.gS(h:v.FI N F)(hi:i<N){p c:Nat}(hg:v.g i= .out p c):c∈v.bD p/\c<v.nf/\p<v.nf/\p=v.par c/\v.loc c= .fin i/\c≠0:=by
 have z0:=h.out i p c hi hg;have z1:=h.free c;have z2:=h.un c;have z3:=h.pr c;grind
theorem FI.jt(h:v.FI N F)(hi:i<N){p c:Nat}(hg:v.g i= .out p c)(hn:v.join p-1=0):v.loc p= .waiting/\v.bD p=[c]/\p≠c:=by
 obtain⟨a1,a2,a3,a4,a5,a6⟩:=h.gS hi hg;have z:=h.jn p a3;rw[J_d]at z;have hl:0<(v.bD p).length:=List.length_pos_of_mem a1;split at z
 ·rename_i hw;refine⟨hw,?_,?_⟩
  ·have:(v.bD p).length=1:=by omega
   obtain⟨y,hy⟩:=List.length_eq_one_iff.1 this;rw[hy]at a1⊢;rw[List.mem_singleton.1 a1]
  ·rintro rfl;rw[hw]at a5;cases a5
 ·rw[z.2]at a1;cases a1
 ·rw[z.2]at a1;cases a1
 ·omega
theorem FI.PJ(h:v.FI N F)(hi:i<N){p c:Nat}(hg:v.g i= .out p c)(hn:v.join p-1≠0) :
 FI N F {v with g:=ck v.g i .none,join:=ck v.join p (v.join p-1),bD:=ck v.bD p ((v.bD p).erase c),loc:=ck v.loc c .gone} where
 Ao:=h.Ao
 zj:=h.zj
 nx:=h.nx
 free:=by have y1:=h.gS hi hg;have:=h.free;have:=h.out;grind [List.length_erase_of_mem,List.Nodup.mem_erase_iff,List.Nodup.erase,List.length_eq_zero_iff]
 used:=by have y1:=h.gS hi hg;have:=h.used;have:=h.out;grind [List.length_erase_of_mem,List.Nodup.mem_erase_iff,List.Nodup.erase,List.length_eq_zero_iff]
 new:=by have y1:=h.gS hi hg;have:=h.new;have:=h.out;have:=h.free;grind [List.length_erase_of_mem,List.Nodup.mem_erase_iff,List.Nodup.erase,List.length_eq_zero_iff]
 hold:=by have y1:=h.gS hi hg;have:=h.hold;have:=h.out;grind [List.length_erase_of_mem,List.Nodup.mem_erase_iff,List.Nodup.erase,List.length_eq_zero_iff]
 hs:=by have y1:=h.gS hi hg;have:=h.hs;have:=h.out;grind [List.length_erase_of_mem,List.Nodup.mem_erase_iff,List.Nodup.erase,List.length_eq_zero_iff]
 hr:=by have y1:=h.gS hi hg;have:=h.hr;have:=h.out;grind [List.length_erase_of_mem,List.Nodup.mem_erase_iff,List.Nodup.erase,List.length_eq_zero_iff]
 fk:=by have y1:=h.gS hi hg;have:=h.fk;have:=h.out;grind [List.length_erase_of_mem,List.Nodup.mem_erase_iff,List.Nodup.erase,List.length_eq_zero_iff]
 ps:=by have y1:=h.gS hi hg;have:=h.ps;have:=h.out;grind [List.length_erase_of_mem,List.Nodup.mem_erase_iff,List.Nodup.erase,List.length_eq_zero_iff]
 q:=by have y1:=h.gS hi hg;have:=h.q;have:=h.out;grind [List.length_erase_of_mem,List.Nodup.mem_erase_iff,List.Nodup.erase,List.length_eq_zero_iff]
 qn:=h.qn
 pop:=by have y1:=h.gS hi hg;have:=h.pop;have:=h.out;grind [List.length_erase_of_mem,List.Nodup.mem_erase_iff,List.Nodup.erase,List.length_eq_zero_iff]
 tk:=by have y1:=h.gS hi hg;have:=h.tk;have:=h.out;grind [List.length_erase_of_mem,List.Nodup.mem_erase_iff,List.Nodup.erase,List.length_eq_zero_iff]
 out:=by have y1:=h.gS hi hg;have:=h.out;grind [List.length_erase_of_mem,List.Nodup.mem_erase_iff,List.Nodup.erase,List.length_eq_zero_iff]
 tp:=by have y1:=h.gS hi hg;have:=h.tp;have:=h.out;grind [List.length_erase_of_mem,List.Nodup.mem_erase_iff,List.Nodup.erase,List.length_eq_zero_iff]
 G:=by have y1:=h.gS hi hg;have:=h.G;have:=h.out;grind [List.length_erase_of_mem,List.Nodup.mem_erase_iff,List.Nodup.erase,List.length_eq_zero_iff]
 kd:=by have y1:=h.gS hi hg;have:=h.kd;have:=h.out;have:=h.G;grind [List.length_erase_of_mem,List.Nodup.mem_erase_iff,List.Nodup.erase,List.length_eq_zero_iff]
 un:=λx h0 hxn hl=>by
  have hne:x≠c:=by rintro rfl;exact hl (aC _ _ _)
  have hl':ck v.loc c .gone x=v.loc x:=aA hne;show x∈ck v.bD p ((v.bD p).erase c) (v.par x)∨PG N (ck v.g i .none) x (ck v.loc c .gone x);change ck v.loc c .gone x≠.gone at hl;rw[hl']at hl⊢;rcases h.un x h0 hxn hl with a | a
  ·left;rw[cG];split
   ·next e=>exact(List.mem_erase_of_ne hne).2 (e▸ a)
   ·exact a
  ·right;clear hl';revert a;cases v.loc x<;>grind
 pr:=h.pr
 jn:=by have y1:=h.gS hi hg;have:=h.jn;have:=h.out;have:=h.G;grind [List.length_erase_of_mem,List.Nodup.mem_erase_iff,List.Nodup.erase,List.length_eq_zero_iff]
 BP:=by have y1:=h.gS hi hg;have:=h.BP;have:=h.out;grind [List.length_erase_of_mem,List.Nodup.mem_erase_iff,List.Nodup.erase,List.length_eq_zero_iff]
 Bl:=by have y1:=h.gS hi hg;have:=h.Bl;have:=h.out;grind [List.length_erase_of_mem,List.Nodup.mem_erase_iff,List.Nodup.erase,List.length_eq_zero_iff]
theorem FI.Oi(h:v.FI N F)(hi:i<N){p c:Nat}(hg:v.g i= .out p c)(hn:v.join p-1=0) :
 FI N F {v with g:=ck v.g i (.take p c),join:=ck v.join p (v.join p-1),bD:=ck v.bD p ((v.bD p).erase c),loc:=ck (ck v.loc c .gone) p (.qJ i)} where
 Ao:=h.Ao
 zj:=h.zj
 nx:=h.nx
 free:=by have y1:=h.gS hi hg;have y2:=h.jt hi hg hn;have:=h.free;grind [List.erase_cons_head]
 used:=by have y1:=h.gS hi hg;have y2:=h.jt hi hg hn;have:=h.used;grind [List.erase_cons_head]
 new:=by have y1:=h.gS hi hg;have y2:=h.jt hi hg hn;have:=h.new;have:=h.free;grind [List.erase_cons_head]
 hold:=by have y1:=h.gS hi hg;have y2:=h.jt hi hg hn;have:=h.hold;grind [List.erase_cons_head]
 hs:=by have y1:=h.gS hi hg;have y2:=h.jt hi hg hn;have:=h.hs;grind [List.erase_cons_head]
 hr:=by have y1:=h.gS hi hg;have y2:=h.jt hi hg hn;have:=h.hr;grind [List.erase_cons_head]
 fk:=by have y1:=h.gS hi hg;have y2:=h.jt hi hg hn;have:=h.fk;grind [List.erase_cons_head]
 ps:=by have y1:=h.gS hi hg;have y2:=h.jt hi hg hn;have:=h.ps;grind [List.erase_cons_head]
 q:=by have y1:=h.gS hi hg;have y2:=h.jt hi hg hn;have:=h.q;grind [List.erase_cons_head]
 qn:=h.qn
 pop:=by have y1:=h.gS hi hg;have y2:=h.jt hi hg hn;have:=h.pop;grind [List.erase_cons_head]
 tk:=by have y1:=h.gS hi hg;have y2:=h.jt hi hg hn;have:=h.tk;grind [List.erase_cons_head]
 out:=by have y1:=h.gS hi hg;have y2:=h.jt hi hg hn;have:=h.out;grind [List.erase_cons_head]
 tp:=by have y1:=h.gS hi hg;have y2:=h.jt hi hg hn;have:=h.tp;grind [List.erase_cons_head]
 G:=by have y1:=h.gS hi hg;have y2:=h.jt hi hg hn;have:=h.G;grind [List.erase_cons_head]
 kd:=by have y1:=h.gS hi hg;have y2:=h.jt hi hg hn;have:=h.kd;grind [List.erase_cons_head]
 un:=by have y1:=h.gS hi hg;have y2:=h.jt hi hg hn;have:=h.un;have:=h.kd;grind [List.erase_cons_head]
 pr:=h.pr
 jn:=by have y1:=h.gS hi hg;have y2:=h.jt hi hg hn;have:=h.jn;grind [List.erase_cons_head]
 BP:=by have y1:=h.gS hi hg;have y2:=h.jt hi hg hn;have:=h.BP;grind [List.erase_cons_head]
 Bl:=by have y1:=h.gS hi hg;have y2:=h.jt hi hg hn;have:=h.Bl;grind [List.erase_cons_head]
theorem FI.take(h:v.FI N F)(hi:i<N){p c:Nat}(hg:v.g i= .take p c) :
 FI N F {v with g:=ck v.g i .run,hold:=ck v.hold i (some p),join:=ck v.join p 1,loc:=ck v.loc p (.held i)} where
 Ao:=h.Ao
 zj:=h.zj
 nx:=h.nx
 free:=by have:=h.free;have:=h.tk;have:=h.hold;grind
 used:=by have:=h.used;have:=h.tk;have:=h.hold;grind
 new:=by have:=h.new;have:=h.tk;have:=h.hold;have:=h.free;grind
 hold:=by have:=h.hold;have:=h.tk;grind
 hs:=by have:=h.hs;have:=h.tk;have:=h.hold;grind
 hr:=by have:=h.hr;have:=h.tk;have:=h.hold;grind
 fk:=by have:=h.fk;have:=h.tk;have:=h.hold;grind
 ps:=by have:=h.ps;have:=h.tk;have:=h.hold;grind
 q:=by have:=h.q;have:=h.tk;have:=h.hold;grind
 qn:=h.qn
 pop:=by have:=h.pop;have:=h.tk;have:=h.hold;grind
 tk:=by have:=h.tk;have:=h.hold;grind
 out:=by have:=h.out;have:=h.tk;have:=h.hold;grind
 tp:=by have:=h.tp;have:=h.tk;have:=h.hold;grind
 G:=h.G
 kd:=by have:=h.kd;have:=h.tk;have:=h.hold;grind
 un:=by have:=h.un;have:=h.tk;have:=h.hold;grind
 pr:=h.pr
 jn:=by have:=h.jn;have:=h.tk;have:=h.hold;grind
 BP:=by have:=h.BP;have:=h.tk;have:=h.hold;grind
 Bl:=by have:=h.Bl;have:=h.tk;have:=h.hold;grind
theorem FI.oq(h:v.FI N F)(hi:i<N){x:Nat}{l:List Nat}(hg:v.g i= .none)(hq:v.q i=l++[x]) :
 FI N F {v with q:=ck v.q i l,loc:=ck v.loc x (.pop i),pop:=ck v.pop i (some x)} where
 Ao:=h.Ao
 zj:=h.zj
 nx:=h.nx
 free:=by have:=h.free;have:=h.q;grind [List.nodup_append]
 used:=by have:=h.used;have:=h.q;grind [List.nodup_append]
 new:=h.new
 hold:=by have:=h.hold;have:=h.q;grind [List.nodup_append]
 hs:=h.hs
 hr:=h.hr
 fk:=by have:=h.fk;have:=h.q;grind [List.nodup_append]
 ps:=by have:=h.ps;have:=h.q;grind [List.nodup_append]
 q:=by have:=h.q;have:=h.qn;grind [List.nodup_append]
 qn:=by have:=h.qn;have:=h.q;grind [List.nodup_append]
 pop:=by have:=h.pop;have:=h.q;grind [List.nodup_append]
 tk:=by have:=h.tk;have:=h.q;grind [List.nodup_append]
 out:=by have:=h.out;have:=h.q;grind [List.nodup_append]
 tp:=h.tp
 G:=h.G
 kd:=by have:=h.kd;have:=h.q;grind [List.nodup_append]
 un:=by have:=h.un;have:=h.q;grind [List.nodup_append]
 pr:=h.pr
 jn:=by have:=h.jn;have:=h.q;grind [List.nodup_append]
 BP:=by have:=h.BP;have:=h.q;grind [List.nodup_append]
 Bl:=h.Bl
theorem FI.SR(h:v.FI N F)(hi:i<N){x:Nat}(hg:v.g i= .none)(hq:v.q i=[x]) :
 FI N F {v with q:=ck v.q i [],loc:=ck v.loc x (.pop i),pop:=ck v.pop i (some x)} where
 Ao:=h.Ao
 zj:=h.zj
 nx:=h.nx
 free:=by have:=h.free;have:=h.q;grind
 used:=by have:=h.used;have:=h.q;grind
 new:=h.new
 hold:=by have:=h.hold;have:=h.q;grind
 hs:=h.hs
 hr:=h.hr
 fk:=by have:=h.fk;have:=h.q;grind
 ps:=by have:=h.ps;have:=h.q;grind
 q:=by have:=h.q;have:=h.qn;grind
 qn:=by have:=h.qn;have:=h.q;grind
 pop:=by have:=h.pop;have:=h.q;grind
 tk:=by have:=h.tk;have:=h.q;grind
 out:=by have:=h.out;have:=h.q;grind
 tp:=h.tp
 G:=h.G
 kd:=by have:=h.kd;have:=h.q;grind
 un:=by have:=h.un;have:=h.q;grind
 pr:=h.pr
 jn:=by have:=h.jn;have:=h.q;grind
 BP:=by have:=h.BP;have:=h.q;grind
 Bl:=h.Bl
theorem FI.got(h:v.FI N F)(hi:i<N){x:Nat}(hg:v.g i= .none)(hx:v.pop i=some x) :
 FI N F {v with g:=ck v.g i .start,hold:=ck v.hold i (some x),loc:=ck v.loc x (.held i),pop:=ck v.pop i none} where
 Ao:=h.Ao
 zj:=h.zj
 nx:=h.nx
 free:=by have:=h.free;have:=h.pop;grind
 used:=by have:=h.used;have:=h.pop;grind
 new:=h.new
 hold:=by have:=h.hold;have:=h.pop;grind
 hs:=by have:=h.hs;have:=h.pop;grind
 hr:=by have:=h.hr;have:=h.pop;grind
 fk:=by have:=h.fk;have:=h.pop;grind
 ps:=by have:=h.ps;have:=h.pop;grind
 q:=by have:=h.q;have:=h.pop;grind
 qn:=h.qn
 pop:=by have:=h.pop;grind
 tk:=by have:=h.tk;have:=h.pop;grind
 out:=by have:=h.out;have:=h.pop;grind
 tp:=by have:=h.tp;have:=h.pop;grind
 G:=h.G
 kd:=by have:=h.kd;have:=h.pop;grind
 un:=by have:=h.un;have:=h.pop;grind
 pr:=h.pr
 jn:=by have:=h.jn;have:=h.pop;grind
 BP:=by have:=h.BP;have:=h.pop;grind
 Bl:=by have:=h.Bl;have:=h.pop;have:=h.BP;have:=h.hold;grind
theorem FI.Js(h:v.FI N F)(hi:i<N){x w:Nat}{l:List Nat}(hw:w<N)(hg:v.g i= .none)(hx:v.q w=x::l) :
 FI N F {v with g:=ck v.g i .start,hold:=ck v.hold i (some x),loc:=ck v.loc x (.held i),q:=ck v.q w l} where
 Ao:=h.Ao
 zj:=h.zj
 nx:=h.nx
 free:=by have:=h.free;have:=h.q;grind [List.nodup_cons]
 used:=by have:=h.used;have:=h.q;grind [List.nodup_cons]
 new:=h.new
 hold:=by have:=h.hold;have:=h.q;grind [List.nodup_cons]
 hs:=by have:=h.hs;have:=h.q;grind [List.nodup_cons]
 hr:=by have:=h.hr;have:=h.q;grind [List.nodup_cons]
 fk:=by have:=h.fk;have:=h.q;grind [List.nodup_cons]
 ps:=by have:=h.ps;have:=h.q;grind [List.nodup_cons]
 q:=by have:=h.q;have:=h.qn;grind [List.nodup_cons]
 qn:=by have:=h.qn;have:=h.q;grind [List.nodup_cons]
 pop:=by have:=h.pop;have:=h.q;grind [List.nodup_cons]
 tk:=by have:=h.tk;have:=h.q;grind [List.nodup_cons]
 out:=by have:=h.out;have:=h.q;grind [List.nodup_cons]
 tp:=by have:=h.tp;have:=h.q;grind [List.nodup_cons]
 G:=h.G
 kd:=by have:=h.kd;have:=h.q;grind [List.nodup_cons]
 un:=by have:=h.un;have:=h.q;grind [List.nodup_cons]
 pr:=h.pr
 jn:=by have:=h.jn;have:=h.q;grind [List.nodup_cons]
 BP:=by have:=h.BP;have:=h.q;grind [List.nodup_cons]
 Bl:=by have:=h.Bl;have:=h.q;have:=h.BP;have:=h.hold;grind [List.nodup_cons]
end V
def view(s:St):V:=⟨λi=>sig (s.pc i),s.hold,s.loc,λf=>(s.fr f).par,s.nf,s.bD,s.q,s.pop,λf=>s.mem (.join f),λf=>s.mem (.mark f),s.mem .next⟩
theorem tv{α β:Type}[DecidableEq α](f:α->β)(a:α):ck f a (f a)=f:=by
 funext x;simp only[cG];split
 ·next e=>rw[e]
 ·rfl
def uF.fra:uF->Bool
 | .join _ | .mark _ | .next=>true
 | _=>false
structure agb where
 v:V
 mN:Nat->Int
 kc:Nat->Nat
 fx:Nat->Int
def xw:Pc->Int
 | .start x=>x
 | _=>0
def wv(s:St):agb:=⟨view s,λf=>(s.fr f).mN,λf=>(s.fr f).bD,λi=>xw (s.pc i)⟩
def quiet:Option Ev->Bool
 | none=>true
 | some x=>x.kind==3||x.kind==9||x.kind==10
inductive Tr(C:jv)(i:Nat)(w:agb):Option Ev->agb->Prop
 | gL (e:Option Ev) (he:quiet e=true):Tr C i w e w
 | full (c:Nat) (hg:w.v.g i= .push c):Tr C i w (ev 11 c 1 0) {w with v:={w.v with g:=ck w.v.g i .full}}
 | start (f:Nat) (hg:w.v.g i= .start) (hf:w.v.hold i=some f):Tr C i w (ev 1 f (w.fx i) (w.v.mark f+1))
  { w with v:={w.v with g:=ck w.v.g i .run,mark:=ck w.v.mark f (w.v.mark f+1)},fx:=ck w.fx i 0}
 | spawn (f:Nat) (hg:w.v.g i= .run) (hf:w.v.hold i=some f) (hn:w.v.next<C.F):Tr C i w none
  { w with v:={w.v with g:=ck w.v.g i (.fork w.v.nf),next:=w.v.next+1,nf:=w.v.nf+1,par:=ck w.v.par w.v.nf f,loc:=ck w.v.loc w.v.nf (.bW i)},mN:=ck w.mN w.v.nf (C.pd (w.mN f) (w.kc f)),kc:=ck (ck w.kc f (w.kc f+1)) w.v.nf 0}
 | EC (hg:w.v.g i= .run) (hn:(C.F:Int)<=w.v.next):Tr C i w (ev 11 (-1) 0 0) {w with v:={w.v with g:=ck w.v.g i .full,next:=w.v.next+1}}
 | fork (c f:Nat) (hg:w.v.g i= .fork c) (hf:w.v.hold i=some f):Tr C i w none
  { w with v:={w.v with g:=ck w.v.g i (.push c),join:=ck w.v.join f (w.v.join f+1),bD:=ck w.v.bD f (c::w.v.bD f)}}
 | push (c f:Nat) (hg:w.v.g i= .push c) (hf:w.v.hold i=some f):Tr C i w (ev 2 c f (w.mN c)) {w with v:={w.v with g:=ck w.v.g i .run,q:=ck w.v.q i (w.v.q i++[c]),loc:=ck w.v.loc c (.Of i)}}
 | wait (f:Nat) (hg:w.v.g i= .run) (hf:w.v.hold i=some f) (hk:0<w.v.join f-1):Tr C i w (ev 4 f 0 0)
  { w with v:={w.v with g:=ck w.v.g i .none,hold:=ck w.v.hold i none,join:=ck w.v.join f (w.v.join f-1),loc:=ck w.v.loc f .waiting}}
 | pass (f:Nat) (hg:w.v.g i= .run) (hf:w.v.hold i=some f) (hk:¬0<w.v.join f-1):Tr C i w none
  { w with v:={w.v with g:=ck w.v.g i .one,join:=ck w.v.join f (w.v.join f-1),loc:=ck w.v.loc f (.uy i)}}
 | one (f:Nat) (hg:w.v.g i= .one) (hf:w.v.hold i=some f):Tr C i w (ev 5 f 0 0)
  { w with v:={w.v with g:=ck w.v.g i .run,join:=ck w.v.join f 1,loc:=ck w.v.loc f (.held i)}}
 | Ms (v:Int) (hg:w.v.g i= .run) (hf:w.v.hold i=some 0):Tr C i w (ev 6 0 (-1) v)
  { w with v:={w.v with g:=ck w.v.g i .none,hold:=ck w.v.hold i none,loc:=ck w.v.loc 0 (.fin i)}}
 | ret (f:Nat) (v:Int) (hg:w.v.g i= .run) (hf:w.v.hold i=some f) (h0:f≠0):Tr C i w (ev 6 f (w.v.par f) v)
  { w with v:={w.v with g:=ck w.v.g i (.out (w.v.par f) f),hold:=ck w.v.hold i none,loc:=ck w.v.loc f (.fin i)}}
 | PJ (p c:Nat) (hg:w.v.g i= .out p c) (hn:w.v.join p-1≠0):Tr C i w none
  { w with v:={w.v with g:=ck w.v.g i .none,join:=ck w.v.join p (w.v.join p-1),bD:=ck w.v.bD p ((w.v.bD p).erase c),loc:=ck w.v.loc c .gone}}
 | Oi (p c:Nat) (hg:w.v.g i= .out p c) (hn:w.v.join p-1=0):Tr C i w none
  { w with v:={w.v with g:=ck w.v.g i (.take p c),join:=ck w.v.join p (w.v.join p-1),bD:=ck w.v.bD p ((w.v.bD p).erase c),loc:=ck (ck w.v.loc c .gone) p (.qJ i)}}
 | take (p c:Nat) (hg:w.v.g i= .take p c):Tr C i w (ev 7 p c 0)
  { w with v:={w.v with g:=ck w.v.g i .run,hold:=ck w.v.hold i (some p),join:=ck w.v.join p 1,loc:=ck w.v.loc p (.held i)}}
 | oq (x:Nat) (l:List Nat) (hg:w.v.g i= .none) (hq:w.v.q i=l++[x]):Tr C i w none {w with v:={w.v with q:=ck w.v.q i l,loc:=ck w.v.loc x (.pop i),pop:=ck w.v.pop i (some x)}}
 | SR (x:Nat) (hg:w.v.g i= .none) (hq:w.v.q i=[x]):Tr C i w none {w with v:={w.v with q:=ck w.v.q i [],loc:=ck w.v.loc x (.pop i),pop:=ck w.v.pop i (some x)}}
 | got (x:Nat) (hg:w.v.g i= .none) (hx:w.v.pop i=some x):Tr C i w none
  { w with v:={w.v with g:=ck w.v.g i .start,hold:=ck w.v.hold i (some x),loc:=ck w.v.loc x (.held i),pop:=ck w.v.pop i none},fx:=ck w.fx i (-1)}
 | Js (k x:Nat) (l:List Nat) (hk:k<C.N) (KN:k≠i) (hg:w.v.g i= .none) (hx:w.v.q k=x::l):Tr C i w (ev 8 x k 0)
  { w with v:={w.v with g:=ck w.v.g i .start,hold:=ck w.v.hold i (some x),loc:=ck w.v.loc x (.held i),q:=ck w.v.q k l},fx:=ck w.fx i k}
theorem Tr.fi{C:jv}{i:Nat}{w w':agb}{e:Option Ev}(t:Tr C i w e w')(hi:i<C.N)(h:w.v.FI C.N C.F):w'.v.FI C.N C.F:=by
 cases t with
 | gL _=>exact h
 | full c hg=>exact h.full hi (by rw[hg];rfl) (by rw[hg];simp) (by rw[hg];simp)
 | start f hg hf=>exact h.start hi hg hf
 | spawn f hg hf hn=>exact h.spawn hi hg hf hn
 | EC hg hn=>exact h.EC hi hg hn
 | fork c f hg hf=>exact h.fork hi hg hf
 | push c f hg hf=>exact h.push hi hg
 | wait f hg hf hk=>exact h.wait hi hg hf hk
 | pass f hg hf hk=>exact h.pass hi hg hf hk
 | one f hg hf=>exact h.one hi hg hf
 | Ms v hg hf=>exact h.Ms hi hg hf
 | ret f v hg hf h0=>exact h.ret hi hg hf h0
 | PJ p c hg hn=>exact h.PJ hi hg hn
 | Oi p c hg hn=>exact h.Oi hi hg hn
 | take p c hg=>exact h.take hi hg
 | oq x l hg hq=>exact h.oq hi hg hq
 | SR x hg hq=>exact h.SR hi hg hq
 | got x hg hx=>exact h.got hi hg hx
 | Js k x l hk KN hg hx=>exact h.Js hi hk hg hx
theorem u7{C:jv}{i:Nat}{w w' w'':agb}{e:Option Ev}(h:w''=w')(t:Tr C i w e w'):Tr C i w e w'':=h▸ t
def Jt(x:Fr):Nat×Int×Nat:=(x.par,x.mN,x.bD)
section
variable {C:jv}{s:St}{i:Nat}{N F:Nat}
theorem ZQ{s':St}(h0:∀j,sig (s'.pc j)=sig (s.pc j))(hx:∀j,xw (s'.pc j)=xw (s.pc j))(h1:s'.hold=s.hold)(h2:s'.loc=s.loc)(h3:∀f,Jt (s'.fr f)=Jt (s.fr f))(h4:s'.nf=s.nf)(h5:s'.bD=s.bD)
 (h6:s'.q=s.q) (h7:s'.pop=s.pop) (hm:∀a,a.fra=true->s'.mem a=s.mem a):wv s'=wv s:=by
 have a1:(λf=>(s'.fr f).par)=λf=>(s.fr f).par:=funext λf=>nR (·.1) (h3 f);have a2:(λf=>(s'.fr f).mN)=λf=>(s.fr f).mN:=funext λf=>nR (·.2.1) (h3 f);have a3:(λf=>(s'.fr f).bD)=λf=>(s.fr f).bD:=funext λf=>nR (·.2.2) (h3 f);unfold wv view;rw[h1,h2,h4,h5,h6,h7,hm .next rfl,funext h0,funext hx,a1,a2,a3,funext (λf=>hm (.join f) rfl),funext (λf=>hm (.mark f) rfl)]
theorem gL{s':St}{p:Pc}{e:Option Ev}(hp:s'.pc=ck s.pc i p)(hs:sig p=sig (s.pc i)/\xw p=xw (s.pc i))(h1:s'.hold=s.hold)(h2:s'.loc=s.loc)(h3:∀f,Jt (s'.fr f)=Jt (s.fr f))(h4:s'.nf=s.nf)(h5:s'.bD=s.bD)
 (h6:s'.q=s.q) (h7:s'.pop=s.pop) (hm:∀a,a.fra=true->s'.mem a=s.mem a) (he:quiet e=true):Tr C i (wv s) e (wv s'):=by
 refine u7 (ZQ (λj => ?_) (λj => ?_) h1 h2 h3 h4 h5 h6 h7 hm) (.gL _ he)
 ·rw[hp,cG];split
  ·next e=>rw[e];exact hs.1
  ·rfl
 ·rw[hp,cG];split
  ·next e=>rw[e];exact hs.2
  ·rfl
theorem Ju{s':St}{e:Option Ev}(hp:s'.pc=s.pc)(h1:s'.hold=s.hold)(h2:s'.loc=s.loc)(h3:∀f,Jt (s'.fr f)=Jt (s.fr f))(h4:s'.nf=s.nf)(h5:s'.bD=s.bD)
 (h6:s'.q=s.q) (h7:s'.pop=s.pop) (hm:∀a,a.fra=true->s'.mem a=s.mem a) (he:quiet e=true):Tr C i (wv s) e (wv s'):=
 u7 (ZQ (λj=>by rw[hp]) (λj=>by rw[hp]) h1 h2 h3 h4 h5 h6 h7 hm) (.gL _ he)
theorem ue{a x:uF}{v:Int}(h:a.fra=false):x.fra=true->(s.wr a v).mem x=s.mem x:=λhx=>jX (by rintro rfl;rw[h]at hx;cases hx)
theorem BQ{f:Nat}{x:Fr}(h:Jt x=Jt (s.fr f))(j:Nat):Jt ((s.lay f x).fr j)=Jt (s.fr j):=by
 show Jt (ck s.fr f x j)=_;rw[cG];split
 ·next e=>rw[e,h]
 ·rfl
theorem ry(hf:(view s).FI N F)(hi:i<N)(hb:busy (sig (s.pc i))=true) :∃f,s.hold i=some f:=by
 have:=hf.hs i hi hb;exact Option.ne_none_iff_exists'.1 this
theorem we{w w':agb}(h1:∀j,w.v.g j=w'.v.g j)(h2:∀j,w.v.hold j=w'.v.hold j)(h3:∀j,w.v.loc j=w'.v.loc j)(h4:∀j,w.v.par j=w'.v.par j)(h5:w.v.nf=w'.v.nf)(h6:∀j,w.v.bD j=w'.v.bD j)
 (h7:∀j,w.v.q j=w'.v.q j) (h8:∀j,w.v.pop j=w'.v.pop j) (h9:∀j,w.v.join j=w'.v.join j) (h10:∀j,w.v.mark j=w'.v.mark j) (h11:w.v.next=w'.v.next) (h12:∀j,w.mN j=w'.mN j) (h13:∀j,w.kc j=w'.kc j) (h14:∀j,w.fx j=w'.fx j):w=w':=by
 obtain⟨⟨⟩⟩:=w;obtain⟨⟨⟩⟩:=w';simp only[agb.mk.injEq,V.mk.injEq];exact⟨⟨funext h1,funext h2,funext h3,funext h4,h5,funext h6,funext h7,funext h8,funext h9,funext h10,h11⟩,funext h12,funext h13,funext h14⟩
theorem VA(hf:(view s).FI C.N C.F)(hi:i<C.N)(hp:s.pc i= .run):Tr C i (wv s) (instr C s i).ev (wv (instr C s i).s):=by
 have hg:(view s).g i= .run:=by show sig (s.pc i)=_;rw[hp];rfl
 obtain⟨f,hh⟩:=ry hf hi (by rw[hp];rfl);have hh':(view s).hold i=some f:=hh;unfold Am.instr;simp only[hh,pG];split
 ·exact Ju rfl rfl rfl (BQ rfl) rfl rfl rfl rfl (λ_ _=>rfl) rfl
 ·exact Ju rfl rfl rfl (BQ rfl) rfl rfl rfl rfl (λ_ _=>rfl) rfl
 ·exact Ju rfl rfl rfl (BQ rfl) rfl rfl rfl rfl (λ_ _=>rfl) rfl
 ·exact Ju rfl rfl rfl (BQ rfl) rfl rfl rfl rfl (λ_ _=>rfl) rfl
 ·exact Ju rfl rfl rfl (BQ (by split<;>rfl)) rfl rfl rfl rfl (λ_ _=>rfl) rfl
 ·exact Ju rfl rfl rfl (BQ rfl) rfl rfl rfl rfl (λ_ _=>rfl) rfl
 ·exact Ju rfl rfl rfl (BQ rfl) rfl rfl rfl rfl (λ_ _=>rfl) rfl
 ·rename_i sl g c hc;split
  ·rename_i hn;refine u7 ?_ (Tr.EC hg (by show(C.F:Int)<=s.mem .next;omega))
   apply we<;>(try intro j)<;>simp only[wv,view,St.wr,St.lay,St.to,St.put,St.holds,St.sS,St.oq,St.HI,St.uM,got,cG,di]<;>grind [sig,xw,kR]
  ·rename_i hn;refine u7 ?_ (Tr.spawn f hg hh' (by show s.mem .next<(C.F:Int);omega))
   apply we<;>(try intro j)<;>simp only[wv,view,St.wr,St.lay,St.to,St.put,St.holds,St.sS,St.oq,St.HI,St.uM,got,cG,di]<;>grind [sig,xw,kR]
 ·split
  ·rename_i hn;refine u7 ?_ (Tr.wait f hg hh' (by simpa [wv,view]using hn))
   apply we<;>(try intro j)<;>simp only[wv,view,St.wr,St.lay,St.to,St.put,St.holds,St.sS,St.oq,St.HI,St.uM,got,cG,di]<;>grind [sig,xw,kR]
  ·rename_i hn;refine u7 ?_ (Tr.pass f hg hh' (by simpa [wv,view]using hn))
   apply we<;>(try intro j)<;>simp only[wv,view,St.wr,St.lay,St.to,St.put,St.holds,St.sS,St.oq,St.HI,St.uM,got,cG,di]<;>grind [sig,xw,kR]
 ·split
  ·rename_i h0;subst h0;refine u7 ?_ (Tr.Ms _ hg hh')
   apply we<;>(try intro j)<;>simp only[wv,view,St.wr,St.lay,St.to,St.put,St.holds,St.sS,St.oq,St.HI,St.uM,got,cG,di]<;>grind [sig,xw,kR]
  ·rename_i h0;refine u7 ?_ (Tr.ret f _ hg hh' h0)
   apply we<;>(try intro j)<;>simp only[wv,view,St.wr,St.lay,St.to,St.put,St.holds,St.sS,St.oq,St.HI,St.uM,got,cG,di]<;>grind [sig,xw,kR]
theorem Dt(hf:(view s).FI C.N C.F)(hd:DT C s)(hi:i<C.N)(d:Int):Tr C i (wv s) (aH C s i d).ev (wv (aH C s i d).s):=by
 cases hp:s.pc i with
 | ya c =>
  unfold Am.aH;rw[hp];simp only;exact gL rfl (by rw[hp];exact⟨rfl,rfl⟩) rfl rfl (λ_=>rfl) rfl rfl rfl rfl (λ_ _=>rfl) rfl
 | wG c b =>
  unfold Am.aH;rw[hp];simp only;exact gL rfl (by rw[hp];exact⟨rfl,rfl⟩) rfl rfl (λ_=>rfl) rfl rfl rfl rfl (λ_ _=>rfl) rfl
 | oF c b t =>
  unfold Am.aH;rw[hp];simp only;exact gL rfl (by rw[hp];exact⟨rfl,rfl⟩) rfl rfl (λ_=>rfl) rfl rfl rfl rfl (λ_ _=>rfl) rfl
 | Ae =>
  unfold Am.aH;rw[hp];simp only;exact gL rfl (by rw[hp];exact⟨rfl,rfl⟩) rfl rfl (λ_=>rfl) rfl rfl rfl rfl (λ_ _=>rfl) rfl
 | uL b =>
  unfold Am.aH;rw[hp];simp only;exact gL rfl (by rw[hp];exact⟨rfl,rfl⟩) rfl rfl (λ_=>rfl) rfl rfl rfl rfl (λ_ _=>rfl) rfl
 | sD b t =>
  unfold Am.aH;rw[hp];simp only;exact gL rfl (by rw[hp];exact⟨rfl,rfl⟩) rfl rfl (λ_=>rfl) rfl rfl rfl rfl (λ_ _=>rfl) rfl
 | lS =>
  unfold Am.aH;rw[hp];simp only;exact gL rfl (by rw[hp];exact⟨rfl,rfl⟩) rfl rfl (λ_=>rfl) rfl rfl rfl rfl (λ_ _=>rfl) rfl
 | ud v t =>
  unfold Am.aH;rw[hp];simp only;exact gL rfl (by rw[hp];exact⟨rfl,rfl⟩) rfl rfl (λ_=>rfl) rfl rfl rfl rfl (λ_ _=>rfl) rfl
 | tu v t g =>
  unfold Am.aH;rw[hp];simp only;exact gL rfl (by rw[hp];exact⟨rfl,rfl⟩) rfl rfl (λ_=>rfl) rfl rfl rfl rfl (λ_ _=>rfl) rfl
 | qX v t g cc =>
  unfold Am.aH;rw[hp];simp only;exact gL rfl (by rw[hp];exact⟨rfl,rfl⟩) rfl rfl (λ_=>rfl) rfl rfl rfl rfl (λ_ _=>rfl) rfl
 | GY j =>
  unfold Am.aH;rw[hp];simp only;exact gL rfl (by rw[hp];exact⟨rfl,rfl⟩) rfl rfl (λ_=>rfl) rfl rfl rfl rfl (λ_ _=>rfl) rfl
 | js c b t cc n =>
  unfold Am.aH;rw[hp];simp only;exact gL rfl (by rw[hp];exact⟨rfl,rfl⟩) rfl rfl (λ_=>rfl) rfl rfl rfl rfl (λ_ _=>rfl) rfl
 | lY c b t cc =>
  unfold Am.aH;rw[hp];simp only;exact gL rfl (by rw[hp];exact⟨rfl,rfl⟩) rfl rfl (λ_=>rfl) rfl rfl rfl rfl (λ_=>ue rfl) rfl
 | lD c b t cc =>
  unfold Am.aH;rw[hp];simp only;exact gL rfl (by rw[hp];exact⟨rfl,rfl⟩) rfl rfl (λ_=>rfl) rfl rfl rfl rfl (λ_=>ue rfl) rfl
 | ja c b cc =>
  unfold Am.aH;rw[hp];simp only;exact gL rfl (by rw[hp];exact⟨rfl,rfl⟩) rfl rfl (λ_=>rfl) rfl rfl rfl rfl (λ_=>ue rfl) rfl
 | oh b =>
  unfold Am.aH;rw[hp];simp only;exact gL rfl (by rw[hp];exact⟨rfl,rfl⟩) rfl rfl (λ_=>rfl) rfl rfl rfl rfl (λ_=>ue rfl) rfl
 | flag =>
  unfold Am.aH;rw[hp];simp only;exact gL rfl (by rw[hp];exact⟨rfl,rfl⟩) rfl rfl (λ_=>rfl) rfl rfl rfl rfl (λ_=>ue rfl) rfl
 | sleep =>
  unfold Am.aH;rw[hp];simp only;exact gL rfl (by rw[hp];exact⟨rfl,rfl⟩) rfl rfl (λ_=>rfl) rfl rfl rfl rfl (λ_=>ue rfl) rfl
 | yq j =>
  unfold Am.aH;rw[hp];simp only;exact gL rfl (by rw[hp];exact⟨rfl,rfl⟩) rfl rfl (λ_=>rfl) rfl rfl rfl rfl (λ_=>ue rfl) rfl
 | grow c b t cc =>
  unfold Am.aH;rw[hp];simp only;exact gL rfl (by rw[hp];exact⟨rfl,rfl⟩) rfl rfl (λ_=>rfl) rfl rfl rfl rfl (λa ha=>by cases a<;>first | rfl | (simp[uF.fra]at ha)) rfl
 | iZ c b t cc n x =>
  unfold Am.aH;rw[hp];simp only;refine gL rfl (by rw[hp];split<;>exact⟨rfl,rfl⟩) rfl rfl (λ_=>rfl) rfl rfl rfl rfl (λ_=>ue rfl) rfl
 | Cs =>
  unfold Am.aH;rw[hp];simp only;refine gL rfl (by rw[hp];split<;>exact⟨rfl,rfl⟩) rfl rfl (λ_=>rfl) rfl rfl rfl rfl (λ_ _=>rfl) rfl
 | vk j =>
  unfold Am.aH;rw[hp];simp only;split
  ·exact gL rfl (by rw[hp];exact⟨rfl,rfl⟩) rfl rfl (λ_=>rfl) rfl rfl rfl rfl (λ_=>ue rfl) rfl
  ·exact gL rfl (by rw[hp];split<;>exact⟨rfl,rfl⟩) rfl rfl (λ_=>rfl) rfl rfl rfl rfl (λ_ _=>rfl) rfl
 | sC t =>
  unfold Am.aH;rw[hp];simp only;exact gL rfl (by rw[hp];split<;>exact⟨rfl,rfl⟩) rfl rfl (λ_=>rfl) rfl rfl rfl rfl (λ_=>ue rfl) rfl
 | yR v t =>
  unfold Am.aH;rw[hp];simp only;split<;>exact gL rfl (by rw[hp];exact⟨rfl,rfl⟩) rfl rfl (λ_=>rfl) rfl rfl rfl rfl (λ_ _=>rfl) rfl
 | HH =>
  unfold Am.aH;rw[hp];simp only;split
  ·exact gL rfl (by rw[hp];exact⟨rfl,rfl⟩) rfl rfl (λ_=>rfl) rfl rfl rfl rfl (λ_ _=>rfl) rfl
  ·exact gL rfl (by rw[hp];split<;>exact⟨rfl,rfl⟩) rfl rfl (λ_=>rfl) rfl rfl rfl rfl (λ_ _=>rfl) rfl
 | yS =>
  unfold Am.aH;rw[hp];simp only[looking];split
  ·exact gL rfl (by rw[hp];exact⟨rfl,rfl⟩) rfl rfl (λ_=>rfl) rfl rfl rfl rfl (λ_ _=>rfl) rfl
  ·split<;>exact gL rfl (by rw[hp];exact⟨rfl,rfl⟩) rfl rfl (λ_=>rfl) rfl rfl rfl rfl (λ_ _=>rfl) rfl
 | GZ j t =>
  unfold Am.aH;rw[hp];simp only[looking];split
  ·exact gL rfl (by rw[hp];exact⟨rfl,rfl⟩) rfl rfl (λ_=>rfl) rfl rfl rfl rfl (λ_ _=>rfl) rfl
  ·split<;>exact gL rfl (by rw[hp];exact⟨rfl,rfl⟩) rfl rfl (λ_=>rfl) rfl rfl rfl rfl (λ_ _=>rfl) rfl
 | parked =>
  unfold Am.aH;rw[hp];simp only;split
  ·exact .gL none rfl
  ·exact gL rfl (by rw[hp];split<;>exact⟨rfl,rfl⟩) rfl rfl (λ_=>rfl) rfl rfl rfl rfl (λ_ _=>rfl) rfl
 | back b =>
  unfold Am.aH;rw[hp];simp only[C8];split
  ·exact gL rfl (by rw[hp];exact⟨rfl,rfl⟩) rfl rfl (λ_=>rfl) rfl rfl rfl rfl (λ_=>ue rfl) rfl
  ·split
   ·exact gL rfl (by rw[hp];exact⟨rfl,rfl⟩) rfl rfl (λ_=>rfl) rfl rfl rfl rfl (λ_ _=>rfl) rfl
   ·exact gL rfl (by rw[hp];split<;>exact⟨rfl,rfl⟩) rfl rfl (λ_=>rfl) rfl rfl rfl rfl (λ_ _=>rfl) rfl
 | zG b =>
  unfold Am.aH;rw[hp];simp only[C8];split
  ·exact gL rfl (by rw[hp];exact⟨rfl,rfl⟩) rfl rfl (λ_=>rfl) rfl rfl rfl rfl (λ_=>ue rfl) rfl
  ·exact gL rfl (by rw[hp];split<;>exact⟨rfl,rfl⟩) rfl rfl (λ_=>rfl) rfl rfl rfl rfl (λ_=>ue rfl) rfl
 | done =>
  unfold Am.aH;rw[hp];simp only[n8];split<;>exact gL rfl (by rw[hp];exact⟨rfl,rfl⟩) rfl rfl (λ_=>rfl) rfl rfl rfl rfl (λ_=>ue rfl) rfl
 | tell j =>
  unfold Am.aH;rw[hp];simp only[n8];split
  ·exact gL rfl (by rw[hp];exact⟨rfl,rfl⟩) rfl rfl (λ_=>rfl) rfl rfl rfl rfl (λ_=>ue rfl) rfl
  ·split<;>exact gL rfl (by rw[hp];exact⟨rfl,rfl⟩) rfl rfl (λ_=>rfl) rfl rfl rfl rfl (λ_ _=>rfl) rfl
 | BO j =>
  unfold Am.aH;rw[hp];simp only[n8];split<;>exact gL rfl (by rw[hp];exact⟨rfl,rfl⟩) rfl rfl (λ_=>rfl) rfl rfl rfl rfl (λ_=>ue rfl) rfl
 | oG c b t =>
  have hg:(view s).g i= .push c:=by show sig (s.pc i)=_;rw[hp];rfl
  unfold Am.aH;rw[hp];simp only;split
  ·exact gL rfl (by rw[hp];exact⟨rfl,rfl⟩) rfl rfl (λ_=>rfl) rfl rfl rfl rfl (λ_ _=>rfl) rfl
  ·split
   ·refine u7 ?_ (Tr.full c hg)
    apply we<;>(try intro j)<;>simp only[wv,view,St.wr,St.lay,St.to,St.put,St.holds,St.sS,St.oq,St.HI,St.uM,got,cG,di]<;>grind [sig,xw,kR]
   ·exact gL rfl (by rw[hp];exact⟨rfl,rfl⟩) rfl rfl (λ_=>rfl) rfl rfl rfl rfl (λ_ _=>rfl) rfl
 | halted=>unfold Am.aH;rw[hp];exact .gL none rfl
 | full=>unfold Am.aH;rw[hp];exact .gL none rfl
 | run=>unfold Am.aH;rw[hp];exact VA hf hi hp
 | start x =>
  have hg:(view s).g i= .start:=by show sig (s.pc i)=_;rw[hp];rfl
  obtain⟨f,hh⟩:=ry hf hi (by rw[hp];rfl);unfold Am.aH;rw[hp];simp only[hh,pG];have hx:x=(wv s).fx i:=by show x=xw (s.pc i);rw[hp];rfl
  rw[hx];refine u7 ?_ (Tr.start f hg hh)
  apply we<;>(try intro j)<;>simp only[wv,view,St.wr,St.lay,St.to,St.put,St.holds,St.sS,St.oq,St.HI,St.uM,got,cG,di]<;>grind [sig,xw,kR]
 | fork c =>
  have hg:(view s).g i= .fork c:=by show sig (s.pc i)=_;rw[hp];rfl
  obtain⟨f,hh⟩:=ry hf hi (by rw[hp];rfl);unfold Am.aH;rw[hp];simp only[hh,pG];refine u7 ?_ (Tr.fork c f hg hh)
  apply we<;>(try intro j)<;>simp only[wv,view,St.wr,St.lay,St.to,St.put,St.holds,St.sS,St.oq,St.HI,St.uM,got,cG,di]<;>grind [sig,xw,kR]
 | nB =>
  have hg:(view s).g i= .one:=by show sig (s.pc i)=_;rw[hp];rfl
  obtain⟨f,hh⟩:=ry hf hi (by rw[hp];rfl);unfold Am.aH;rw[hp];simp only[hh,pG];refine u7 ?_ (Tr.one f hg hh)
  apply we<;>(try intro j)<;>simp only[wv,view,St.wr,St.lay,St.to,St.put,St.holds,St.sS,St.oq,St.HI,St.uM,got,cG,di]<;>grind [sig,xw,kR]
 | out p c =>
  have hg:(view s).g i= .out p c:=by show sig (s.pc i)=_;rw[hp];rfl
  unfold Am.aH;rw[hp];simp only;split
  ·rename_i hn;refine u7 ?_ (Tr.Oi p c hg hn)
   apply we<;>(try intro j)<;>simp only[wv,view,St.wr,St.lay,St.to,St.put,St.holds,St.sS,St.oq,St.HI,St.uM,got,cG,di]<;>grind [sig,xw,kR]
  ·rename_i hn;refine u7 ?_ (Tr.PJ p c hg hn)
   apply we<;>(try intro j)<;>simp only[wv,view,St.wr,St.lay,St.to,St.put,St.holds,St.sS,St.oq,St.HI,St.uM,got,cG,di]<;>grind [sig,xw,kR]
 | take p c =>
  have hg:(view s).g i= .take p c:=by show sig (s.pc i)=_;rw[hp];rfl
  unfold Am.aH;rw[hp];simp only;refine u7 ?_ (Tr.take p c hg)
  apply we<;>(try intro j)<;>simp only[wv,view,St.wr,St.lay,St.to,St.put,St.holds,St.sS,St.oq,St.HI,St.uM,got,cG,di]<;>grind [sig,xw,kR]
 | nC c b =>
  have hg:(view s).g i= .push c:=by show sig (s.pc i)=_;rw[hp];rfl
  obtain⟨f,hh⟩:=ry hf hi (by rw[hp];rfl);unfold Am.aH;rw[hp];simp only[hh,pG];refine u7 ?_ (Tr.push c f hg hh)
  apply we<;>(try intro j)<;>simp only[wv,view,St.wr,St.lay,St.to,St.put,St.holds,St.sS,St.oq,St.HI,St.uM,got,cG,di]<;>grind [sig,xw,kR]
 | zi b =>
  have hg:(view s).g i= .none:=by show sig (s.pc i)=_;rw[hp];rfl
  have P:=(hd.1 i hi).ph;unfold rJ at P;rw[hp]at P;simp only at P;unfold Am.aH;rw[hp];simp only;split
  ·rename_i hlt;have hne:s.q i≠[]:=by
    intro e;simp only[St.L,St.T,e,zp]at P;omega
   have hq:s.q i=(s.q i).dropLast++[(s.q i).getLastD 0]:=by
    rw[MY,List.getLast?_eq_some_getLast hne];exact(List.dropLast_concat_getLast hne).symm
   refine u7 ?_ (Tr.oq ((s.q i).getLastD 0) ((s.q i).dropLast) hg hq)
   apply we<;>(try intro j)<;>simp only[wv,view,St.wr,St.lay,St.to,St.put,St.holds,St.sS,St.oq,St.HI,St.uM,got,cG,di]<;>grind [sig,xw,kR]
  ·split<;>exact gL rfl (by rw[hp];exact⟨rfl,rfl⟩) rfl rfl (λ_=>rfl) rfl rfl rfl rfl (λ_ _=>rfl) rfl
 | nD b t cc =>
  have hg:(view s).g i= .none:=by show sig (s.pc i)=_;rw[hp];rfl
  have P:=(hd.1 i hi).ph;unfold rJ at P;rw[hp]at P;simp only at P;unfold Am.aH;rw[hp];simp only;split
  ·rename_i hlt;obtain⟨x,hx,he⟩:=(P.1.2.2.2.1 hlt).2.2;rw[<-P.2]at he;rw[he];refine u7 ?_ (Tr.got x hg hx)
   apply we<;>(try intro j)<;>simp only[wv,view,St.wr,St.lay,St.to,St.put,St.holds,St.sS,St.oq,St.HI,St.uM,got,cG,di]<;>grind [sig,xw,kR]
  ·exact gL rfl (by rw[hp];exact⟨rfl,rfl⟩) rfl rfl (λ_=>rfl) rfl rfl rfl rfl (λ_ _=>rfl) rfl
 | qH b t x =>
  have hg:(view s).g i= .none:=by show sig (s.pc i)=_;rw[hp];rfl
  have P:=(hd.1 i hi).ph;unfold rJ at P;rw[hp]at P;simp only at P;unfold Am.aH;rw[hp];simp only;split
  ·rename_i ht;have hq:=(P.2.2.2.2.1 ht).1;refine u7 ?_ (Tr.SR x.toNat hg hq)
   apply we<;>(try intro j)<;>simp only[wv,view,St.wr,St.lay,St.to,St.put,St.holds,St.sS,St.oq,St.HI,St.uM,got,cG,di]<;>grind [sig,xw,kR]
  ·exact gL rfl (by rw[hp];exact⟨rfl,rfl⟩) rfl rfl (λ_=>rfl) rfl rfl rfl rfl (λ_ _=>rfl) rfl
 | oP t x Bi =>
  have hg:(view s).g i= .none:=by show sig (s.pc i)=_;rw[hp];rfl
  have P:=(hd.1 i hi).ph;unfold rJ at P;rw[hp]at P;simp only at P;unfold Am.aH;rw[hp];simp only;split
  ·rename_i hw;refine u7 ?_ (Tr.got x.toNat hg (P.2.2.2 hw).1)
   apply we<;>(try intro j)<;>simp only[wv,view,St.wr,St.lay,St.to,St.put,St.holds,St.sS,St.oq,St.HI,St.uM,got,cG,di]<;>grind [sig,xw,kR]
  ·exact gL rfl (by rw[hp];split<;>exact⟨rfl,rfl⟩) rfl rfl (λ_=>rfl) rfl rfl rfl rfl (λ_=>ue rfl) rfl
 | qm v t x =>
  have hg:(view s).g i= .none:=by show sig (s.pc i)=_;rw[hp];rfl
  have HT:=hd.2 i hi;unfold Th at HT;rw[hp]at HT;simp only at HT;unfold Am.aH;rw[hp];simp only;split
  ·rename_i ht;obtain⟨y,l,hq,hx⟩:=HT.2.2.2 ht.symm;subst hx;refine u7 ?_ (Tr.Js v y l HT.1 HT.2.1 hg hq)
   apply we<;>(try intro j)<;>simp only[wv,view,St.wr,St.lay,St.to,St.put,St.holds,St.sS,St.oq,St.HI,St.uM,got,cG,di]<;>grind [sig,xw,kR]
  ·exact gL rfl (by rw[hp];exact⟨rfl,rfl⟩) rfl rfl (λ_=>rfl) rfl rfl rfl rfl (λ_ _=>rfl) rfl
theorem FI.aH(hf:(view s).FI C.N C.F)(hd:DT C s)(hi:i<C.N)(d:Int):(view (aH C s i d).s).FI C.N C.F:=(Dt hf hd hi d).fi hi hf
end
def Oj(C:jv)(g a:Nat):Prop:=
 match C.code g a with
 | .const x _=>x<C.bu g/\a+1<C.len g
 | .mN x=>x<C.bu g/\a+1<C.len g
 | .move x y=>x<C.bu g/\y<C.bu g/\a+1<C.len g
 | .arith op x y z=>x<C.bu g/\y<C.bu g/\z<C.bu g/\a+1<C.len g
 | .jump t=>t<C.len g
 | .branch x t=>x<C.bu g/\t<C.len g/\a+1<C.len g
 | .spawn s f c=>s<8/\f<C.Re/\(C.params f=0∨c+C.params f<=C.bu g)/\a+1<C.len g
 | .sync=>a+1<C.len g
 | .load x s=>x<C.bu g/\s<8/\a+1<C.len g
 | .ret x=>x<C.bu g
structure jv.OK(C:jv):Prop where
 n1:1<=C.N
 n64:C.N<=64
 f1:1<=C.F
 f4:C.F<=4096
 c1:1<=C.first
 cm:C.first<=C.most
 m4:C.most<=4096
 fn0:0<C.Re
 aaZ:∀g,g<C.Re->0<C.len g
 Ok:∀g,g<C.Re->C.params g<=C.bu g/\C.bu g<=16
 ins:∀g,g<C.Re->∀a,a<C.len g->Oj C g a
def live:Loc->Bool
 | .fin _ | .gone=>false
 | _=>true
def FR1(C:jv)(x:Fr)(l:Loc):Prop:=x.fn<C.Re/\x.slot<8/\(live l=true->x.J<C.len x.fn)
def FR(C:jv)(s:St):Prop:=∀f,f<s.nf->FR1 C (s.fr f) (s.loc f)
section
variable {C:jv}{s:St}{i:Nat}
theorem FR.gL{s':St}(h:FR C s)(h1:s'.nf=s.nf)(h2:s'.fr=s.fr)(h3:s'.loc=s.loc):FR C s':=by
 intro f hf;rw[h2,h3];exact h f (h1▸ hf)
theorem FR.put{s':St}{f:Nat}{l:Loc}(h:FR C s)(h1:s'.nf=s.nf)(h2:s'.fr=s.fr)(h3:s'.loc=ck s.loc f l)(hl:live l=true->live (s.loc f)=true):FR C s':=by
 intro g hg;rw[h2,h3,cG];have:=h g (h1▸ hg);split
 ·next e=>subst e;exact⟨this.1,this.2.1,λhh=>this.2.2 (hl hh)⟩
 ·exact this
theorem FR.lay{s':St}{f:Nat}{x:Fr}(h:FR C s)(h1:s'.nf=s.nf)(h2:s'.fr=ck s.fr f x)(h3:s'.loc=s.loc)(hx:f<s.nf->FR1 C x (s.loc f)):FR C s':=by
 intro g hg;rw[h2,h3,cG];have Iz:=h1▸ hg;split
 ·next e=>subst e;exact hx Iz
 ·exact h g Iz
theorem ou(hf:(view s).FI C.N C.F)(hi:i<C.N){f:Nat}(hh:s.hold i=some f):live (s.loc f)=true/\f<s.nf:=by
 have a:=hf.hold i f hi hh;have e:s.loc f= .uy i∨s.loc f= .held i:=a.elim (λa=>.inl a.2) (λa=>.inr a.2);refine⟨by rcases e with e | e<;>rw[e]<;>rfl,?_⟩;rcases BZ f s.nf with h | h
 ·exact h
 ·have:=hf.free f h;change s.loc f=_ at this;rw[this]at e;rcases e with e | e<;>cases e
theorem FR.instr(hC:C.OK)(h:FR C s)(hf:(view s).FI C.N C.F)(hi:i<C.N)(hp:s.pc i= .run):FR C (instr C s i).s:=by
 obtain⟨f,hh⟩:=ry hf hi (by rw[hp];rfl);obtain⟨hl,hn⟩:=ou hf hi hh;obtain⟨a1,a2,a3⟩:=h f hn;have a3:=a3 hl;have ok:=hC.ins _ a1 _ a3;unfold Oj at ok;unfold Am.instr;simp only[hh,pG];split<;>rename_i hc<;>rw[hc]at ok<;>simp only at ok
 ·exact h.lay rfl rfl rfl (λ_=>⟨a1,a2,λ_=>ok.2⟩)
 ·exact h.lay rfl rfl rfl (λ_=>⟨a1,a2,λ_=>ok.2.2⟩)
 ·exact h.lay rfl rfl rfl (λ_=>⟨a1,a2,λ_=>ok.2.2.2⟩)
 ·exact h.lay rfl rfl rfl (λ_=>⟨a1,a2,λ_=>ok⟩)
 ·exact h.lay rfl rfl rfl (λ_=>by
   split
   ·exact⟨a1,a2,λ_=>ok.2.1⟩
   ·exact⟨a1,a2,λ_=>ok.2.2⟩)
 ·exact h.lay rfl rfl rfl (λ_=>⟨a1,a2,λ_=>ok.2⟩)
 ·exact h.lay rfl rfl rfl (λ_=>⟨a1,a2,λ_=>ok.2.2⟩)
 ·split
  ·exact h.lay rfl rfl rfl (λ_=>⟨a1,a2,λ_=>ok.2.2.2⟩)
  ·intro g hg;simp only[St.wr,St.lay,St.to,St.put,cG];split
   ·next e=>subst e;exact⟨ok.2.1,ok.1,λ_=>hC.aaZ _ ok.2.1⟩
   ·next e =>
    have Iz:g<s.nf:=by have:g<s.nf+1:=hg;omega
    split
    ·next e=>subst e;exact⟨a1,a2,λ_=>ok.2.2.2⟩
    ·exact h g Iz
 ·split
  ·intro g hg;simp only[St.wr,St.lay,St.to,St.put,St.holds,cG];split
   ·next e=>exact⟨a1,a2,λ_=>ok⟩
   ·exact h g hg
  ·intro g hg;simp only[St.wr,St.lay,St.to,St.put,St.holds,cG];split
   ·next e=>exact⟨a1,a2,λ_=>ok⟩
   ·exact h g hg
 ·split
  ·next e0 =>
   subst e0;intro g hg;simp only[St.wr,St.lay,St.to,St.put,St.holds,cG];split
   ·next e=>exact⟨a1,a2,λe=>by cases e⟩
   ·exact h g hg
  ·intro g hg;simp only[St.wr,St.lay,St.to,St.put,St.holds,cG];split
   ·next e=>exact⟨a1,a2,λe=>by cases e⟩
   ·exact h g hg
theorem FR.aH(hC:C.OK)(h:FR C s)(hf:(view s).FI C.N C.F)(hd:DT C s)(hi:i<C.N)(d:Int):FR C (aH C s i d).s:=by
 cases hp:s.pc i with
 | run=>unfold Am.aH;rw[hp];exact FR.instr hC h hf hi hp
 | nB =>
  obtain⟨f,hh⟩:=ry hf hi (by rw[hp];rfl);unfold Am.aH;rw[hp];simp only[hh,pG];exact h.put rfl rfl rfl (λ_=>(ou hf hi hh).1)
 | out p c =>
  have hg:(view s).g i= .out p c:=by show sig (s.pc i)=_;rw[hp];rfl
  unfold Am.aH;rw[hp];simp only;split
  ·rename_i hn;have hw:s.loc p= .waiting:=(hf.jt hi hg hn).1;have h1:FR C (s.put c .gone):=h.put rfl rfl rfl (λe=>by cases e);refine FR.put (f:=p) (l:=.qJ i) h1 rfl rfl rfl (λ_ => ?_);show live (ck s.loc c .gone p)=true;rw[aA (hf.jt hi hg hn).2.2,hw];rfl
  ·exact h.put rfl rfl rfl (λe=>by cases e)
 | take p c =>
  have hg:(view s).g i= .take p c:=by show sig (s.pc i)=_;rw[hp];rfl
  unfold Am.aH;rw[hp];simp only;exact h.put rfl rfl rfl (λ_=>by rw[show s.loc p= .qJ i from hf.tk i p c hi hg];rfl)
 | nC c b =>
  have hg:(view s).g i= .push c:=by show sig (s.pc i)=_;rw[hp];rfl
  unfold Am.aH;rw[hp];simp only;exact h.put rfl rfl rfl (λ_=>by rw[show s.loc c= .bW i from(hf.ps i c hi hg).2.1];rfl)
 | zi b =>
  have P:=(hd.1 i hi).ph;unfold rJ at P;rw[hp]at P;simp only at P;unfold Am.aH;rw[hp];simp only;split
  ·rename_i hlt;have hne:s.q i≠[]:=by
    intro e;simp only[St.L,St.T,e,zp]at P;omega
   have hm:(s.q i).getLastD 0∈s.q i:=by
    rw[MY,List.getLast?_eq_some_getLast hne];exact List.getLast_mem hne
   exact h.put rfl rfl rfl (λ_=>by rw[show s.loc _= .Of i from(hf.q i _ hi hm).2];rfl)
  ·split<;>exact h.gL rfl rfl rfl
 | nD b t cc =>
  have P:=(hd.1 i hi).ph;unfold rJ at P;rw[hp]at P;simp only at P;unfold Am.aH;rw[hp];simp only;split
  ·rename_i hlt;obtain⟨x,hx,he⟩:=(P.1.2.2.2.1 hlt).2.2;rw[<-P.2]at he;rw[he];refine h.put (f:=x) (l:=.held i) rfl rfl (by simp only[got,St.put,St.oq,St.to,St.holds,di]) (λ_ => ?_);rw[show s.loc x= .pop i from(hf.pop i x hi hx).2];rfl
  ·exact h.gL rfl rfl rfl
 | qH b t x =>
  have P:=(hd.1 i hi).ph;unfold rJ at P;rw[hp]at P;simp only at P;unfold Am.aH;rw[hp];simp only;split
  ·rename_i ht;have hq:=(P.2.2.2.2.1 ht).1;exact h.put rfl rfl rfl (λ_=>by rw[show s.loc x.toNat= .Of i from(hf.q i _ hi (by show x.toNat∈s.q i;rw[hq];simp)).2];rfl)
  ·exact h.gL rfl rfl rfl
 | oP t x Bi =>
  have P:=(hd.1 i hi).ph;unfold rJ at P;rw[hp]at P;simp only at P;unfold Am.aH;rw[hp];simp only;split
  ·rename_i hw;exact h.put (f:=x.toNat) (l:=.held i) rfl rfl rfl (λ_=>by rw[show s.loc x.toNat= .pop i from(hf.pop i _ hi (P.2.2.2 hw).1).2];rfl)
  ·exact h.gL rfl rfl rfl
 | qm v t x =>
  have HT:=hd.2 i hi;unfold Th at HT;rw[hp]at HT;simp only at HT;unfold Am.aH;rw[hp];simp only;split
  ·rename_i ht;obtain⟨y,l,hq,hx⟩:=HT.2.2.2 ht.symm;exact h.put (f:=x.toNat) (l:=.held i) rfl rfl rfl (λ_=>by rw[show s.loc x.toNat= .Of v from(hf.q v _ HT.1 (by show x.toNat∈s.q v;rw[hq,hx];simp)).2];rfl)
  ·exact h.gL rfl rfl rfl
 | _ =>
  unfold Am.aH;rw[hp];simp only[n8,looking,C8]
  repeat' split
  all_goals exact h.gL rfl rfl rfl
end
def uG(C:jv):Nat->Nat
 | 0=>C.first
 | g+1=>min (2*uG C g) C.most
def lZ:Pc->Bool
 | .lY .. | .js .. | .iZ .. | .lD .. => true
 | _=>false
def gen(s:St)(j:Nat):Nat:=s.cur j+(if lZ (s.pc j)then 1 else 0)
def tot(C:jv):Nat->Nat
 | 0=>0
 | g+1=>tot C g+1+uG C (g+1)
def S0(C:jv):Nat:=4+10*C.F+C.N+C.N*(4+C.first)
def xM(C:jv)(j:Nat):Nat:=4+10*C.F+C.N+j*(4+C.first)
def fA(f:Nat->Nat):Nat->Nat
 | 0=>0
 | n+1=>fA f n+f n
theorem oQ{f g:Nat->Nat}:∀{n:Nat},(∀j,j<n->f j=g j)->fA f n=fA g n
 | 0,_=>rfl
 | n+1,h=>by simp only[fA];rw[oQ (λj hj=>h j I),h n I]
theorem nJ{f g:Nat->Nat}{i k:Nat}:∀{n:Nat},i<n->(∀j,j≠i->g j=f j)->g i=f i+k->fA g n=fA f n+k
 | n+1,hi,h,e=>by
  simp only[fA];by_cases hn:i=n
  ·subst hn;rw[oQ (f:=g) (g:=f) (λj hj=>h j I),e];omega
  ·rw[nJ (n:=n) I h e,h n I];omega
theorem H7{f:Nat->Nat}{k:Nat}:∀{n:Nat},(∀j,j<n->f j<=k)->fA f n<=n*k
 | 0,_=>by simp[fA]
 | n+1,h=>by simp only[fA];have:=H7 (n:=n) (λj hj=>h j I);have:=h n I;rw[GP];omega
theorem BR(C:jv)(g:Nat):jb C (uG C g)=(uG C (g+1):Int):=by
 unfold jb;simp only[uG];split<;>omega
theorem H8{C:jv}(h:C.OK):∀g,1<=uG C g
 | 0=>h.c1
 | g+1=>by have:=H8 h g;have:=h.c1;have:=h.cm;simp only[uG];omega
theorem PK{C:jv}(h:C.OK):∀g,uG C g<=C.most
 | 0=>h.cm
 | g+1=>by simp only[uG];omega
structure SZ(C:jv)(s:St):Prop where
 cap:∀j,j<C.N->∀g,g<=s.cur j->s.mem (.cap j g)=uG C g
 VB:∀j,j<C.N->s.base j 0=xM C j+3
 size:s.size=S0 C+fA (λj=>tot C (gen s j)) C.N
 bs:∀j,j<C.N->∀g,1<=g->g<=gen s j->(S0 C:Int)<=s.base j g/\s.base j g+1+uG C g<=s.size
 dj:∀j j' g g',j<C.N->j'<C.N->1<=g->1<=g'->g<=gen s j->g'<=gen s j'->(j≠j'∨g≠g')->s.base j g+1+uG C g<=s.base j' g'∨s.base j' g'+1+uG C g'<=s.base j g
 gm:∀j,j<C.N->∀g,g<gen s j->uG C g<C.most
section
variable {C:jv}{s:St}{i:Nat}
theorem SZ.of{s':St}(h:SZ C s)(h1:s'.cur=s.cur)(h2:∀j,lZ (s'.pc j)=lZ (s.pc j))(h3:s'.base=s.base)(h4:s'.size=s.size)
 (h5:∀j g,g<=s.cur j->s'.mem (.cap j g)=s.mem (.cap j g)):SZ C s':=by
 obtain⟨a1,a2,a3,a4,a5,a6⟩:=h;have hg:gen s'=gen s:=by funext j;unfold gen;rw[h1,h2]
 exact⟨λj hj g PL=>by rw[h1]at PL;rw[h5 j g PL];exact a1 j hj g PL,by rw[h3];exact a2,by rw[h4,hg];exact a3,by rw[h3,h4,hg];exact a4,by rw[h3,hg];exact a5,by rw[hg];exact a6⟩
def uF.Rg:uF->Bool
 | .cap .. => true
 | _=>false
theorem Ol{s':St}{p:Pc}(h:s'.pc=ck s.pc i p)(hp:lZ p=lZ (s.pc i))(j:Nat):lZ (s'.pc j)=lZ (s.pc j):=by
 rw[h,cG];split
 ·next e=>rw[e,hp]
 ·rfl
theorem SZ.gL{s':St}{p:Pc}(h:SZ C s)(hp:s'.pc=ck s.pc i p)(hg:lZ p=lZ (s.pc i))(h1:s'.cur=s.cur)(h3:s'.base=s.base)(h4:s'.size=s.size)
 (hm:∀a,a.Rg=true->s'.mem a=s.mem a):SZ C s':=
 h.of h1 (Ol hp hg) h3 h4 (λ_ _ _=>hm _ rfl)
theorem xN{a x:uF}{v:Int}(h:a.Rg=false):x.Rg=true->(s.wr a v).mem x=s.mem x:=λhx=>jX (by rintro rfl;rw[h]at hx;cases hx)
theorem SZ.same{s':St}(h:SZ C s)(hp:s'.pc=s.pc)(h1:s'.cur=s.cur)(h3:s'.base=s.base)(h4:s'.size=s.size)
 (hm:∀a,a.Rg=true->s'.mem a=s.mem a):SZ C s':=
 h.of h1 (λj=>by rw[hp]) h3 h4 (λ_ _ _=>hm _ rfl)
theorem SZ.instr(h:SZ C s)(hp:s.pc i= .run):SZ C (instr C s i).s:=by
 unfold Am.instr;simp only;split
 ·exact h.same rfl rfl rfl rfl (λ_ _=>rfl)
 ·exact h.same rfl rfl rfl rfl (λ_ _=>rfl)
 ·exact h.same rfl rfl rfl rfl (λ_ _=>rfl)
 ·exact h.same rfl rfl rfl rfl (λ_ _=>rfl)
 ·exact h.same rfl rfl rfl rfl (λ_ _=>rfl)
 ·exact h.same rfl rfl rfl rfl (λ_ _=>rfl)
 ·exact h.same rfl rfl rfl rfl (λ_ _=>rfl)
 ·split<;>exact h.gL rfl (by rw[hp];rfl) rfl rfl rfl (λ_=>xN rfl)
 ·split<;>exact h.gL rfl (by rw[hp];rfl) rfl rfl rfl (λ_=>xN rfl)
 ·split<;>exact h.gL rfl (by rw[hp];rfl) rfl rfl rfl (λ_=>xN rfl)
theorem Gy(h:SZ C s)(hi:i<C.N):s.cc i=uG C (s.cur i):=h.cap i hi _ (gQ _)
theorem SZ.aH(hC:C.OK)(h:SZ C s)(hd:DT C s)(hi:i<C.N)(d:Int):SZ C (aH C s i d).s:=by
 have P:=(hd.1 i hi).ph;cases hp:s.pc i with
 | run=>unfold Am.aH;rw[hp];exact h.instr hp
 | halted=>unfold Am.aH;rw[hp];exact h
 | full=>unfold Am.aH;rw[hp];exact h
 | parked =>
  unfold Am.aH;rw[hp];simp only;split
  ·exact h
  ·exact h.gL rfl (by rw[hp];split<;>rfl) rfl rfl rfl (λ_ _=>rfl)
 | grow c b t cc =>
  unfold rJ at P;rw[hp]at P;simp only at P;have hg:gen s i=s.cur i:=by unfold gen;rw[hp];rfl
  have WM:cc=uG C (s.cur i):=by rw[P.2.2.2.2.1];exact Gy h hi
  have hb:jb C cc=uG C (s.cur i+1):=by rw[WM];exact BR C _
  unfold Am.aH;rw[hp];simp only;obtain⟨a1,a2,a3,a4,a5,a6⟩:=h;have hs:(S0 C:Int)<=s.size:=by rw[a3];omega
  refine⟨?_,?_,?_,?_,?_,?_⟩
  ·intro j hj g PL;simp only[St.to]at PL⊢;rw[cQ (by rintro⟨rfl,rfl⟩;omega)];exact a1 j hj g PL
  ·intro j hj;simp only[St.to,cG];split
   ·next e=>subst e;rw[aA I];exact a2 j hj
   ·exact a2 j hj
  ·simp only[St.to];rw[nJ (f:=λj=>tot C (gen s j)) (i:=i) (k:=1+uG C (s.cur i+1)) hi,a3,hb]
   ·omega
   ·intro j hj;unfold gen;simp only[aA hj]
   ·unfold gen;simp only[aC,lZ,if_true,hp];simp only[tot,Ik,if_false,w6];omega
  ·intro j hj g h1 h2;simp only[St.to]at h2⊢;by_cases e:j=i
   ·subst e;simp only[gen,aC,lZ,if_true]at h2;simp only[aC];by_cases e2:g=s.cur j+1
    ·subst e2;rw[aC,hb];exact⟨hs,I⟩
    ·rw[aA e2,hb];have:=a4 j hj g h1 (by rw[hg];omega);exact⟨this.1,I⟩
   ·simp only[gen,aA e]at h2;simp only[aA e];have:=a4 j hj g h1 (by unfold gen;exact h2);exact⟨this.1,I⟩
  ·intro j j' g g' hj hj' h1 h1' h2 h2' hne;simp only[St.to]at h2 h2'⊢;have key:∀k x,k<C.N->1<=x->x<=gen s k->s.base k x+1+uG C x<=s.size:=λk x hk h1 h2=>(a4 k hk x h1 h2).2;have gk:∀k x,x<=gen {s with base:=ck s.base i (ck (s.base i) (s.cur i+1) s.size),pc:=ck s.pc i (.lY c b t cc)} k->(k=i/\x=s.cur i+1)∨(x<=gen s k/\¬(k=i/\x=s.cur i+1)):=by
    intro k x hx;by_cases e:k=i
    ·subst e;simp only[gen,aC,lZ,if_true]at hx;by_cases e2:x=s.cur k+1
     ·exact .inl ⟨rfl,e2⟩
     ·exact .inr ⟨by rw[hg];omega,λh=>e2 h.2⟩
    ·simp only[gen,aA e]at hx;exact .inr ⟨hx,λh=>e h.1⟩
   have bk:∀k x,¬(k=i/\x=s.cur i+1)->ck s.base i (ck (s.base i) (s.cur i+1) s.size) k x=s.base k x:=by
    intro k x hx;simp only[cG];split
    ·next e=>subst e;rw[aA (λe=>hx ⟨rfl,e⟩)]
    ·rfl
   have bn:ck s.base i (ck (s.base i) (s.cur i+1) s.size) i (s.cur i+1)=s.size:=by rw[aC,aC]
   rcases gk j g h2 with ⟨rfl,rfl⟩ | ⟨c1,c2⟩
   ·rcases gk j' g' h2' with ⟨rfl,rfl⟩ | ⟨c1',c2'⟩
    ·simp at hne
    ·right;rw[bn,bk _ _ c2'];exact key j' g' hj' h1' c1'
   ·rcases gk j' g' h2' with ⟨rfl,rfl⟩ | ⟨c1',c2'⟩
    ·left;rw[bn,bk _ _ c2];exact key j g hj h1 c1
    ·rw[bk _ _ c2,bk _ _ c2'];exact a5 j j' g g' hj hj' h1 h1' c1 c1' hne
  ·intro j hj g PL;simp only[St.to]at PL;by_cases e:j=i
   ·subst e;simp only[gen,aC,lZ,if_true]at PL;by_cases e2:g=s.cur j
    ·have:=P.2.2.2.2.2.2;rw[WM]at this;rw[e2];omega
    ·exact a6 j hj g (by rw[hg];omega)
   ·simp only[gen,aA e]at PL;exact a6 j hj g PL
 | lY c b t cc =>
  unfold Am.aH;rw[hp];simp only;refine h.of rfl (Ol (p:=.js c b t cc t) rfl (by rw[hp];rfl)) rfl rfl (λj g hg=>jX (by intro e;cases e;omega))
 | iZ c b t cc n x =>
  unfold Am.aH;rw[hp];simp only;exact h.gL rfl (by rw[hp];split<;>rfl) rfl rfl rfl (λ_=>xN rfl)
 | lD c b t cc =>
  unfold rJ at P;rw[hp]at P;simp only at P;have hcap:=P.2.1;rw[Gy h hi,BR]at hcap;unfold Am.aH;rw[hp];simp only;obtain⟨a1,a2,a3,a4,a5,a6⟩:=h;have hg:gen {s.wr (.buf i) (s.base i (s.cur i+1))with cur:=ck s.cur i (s.cur i+1),pc:=ck s.pc i (.ja c b (jb C cc))}=gen s:=by
   funext j;unfold gen
   by_cases e:j=i
   ·subst e;simp only[aC,hp,lZ,if_true];rfl
   ·simp only[aA e]
  have Iz:gen (({s.wr (.buf i) (s.base i (s.cur i+1))with cur:=ck s.cur i (s.cur i+1)}:St).to i (.ja c b (jb C cc)))=gen s:=hg;refine⟨?_,a2,by rw[Iz];exact a3,by rw[Iz];exact a4,by rw[Iz];exact a5,by rw[Iz];exact a6⟩;intro j hj g PL;show ck s.mem (.buf i) (s.base i (s.cur i+1)) (.cap j g)=_;rw[aA (by simp)];by_cases e:j=i
  ·subst e;simp only[St.to,aC]at PL;by_cases e2:g=s.cur j+1
   ·rw[e2];exact hcap
   ·exact a1 j hj g I
  ·simp only[St.to,aA e]at PL;exact a1 j hj g PL
 | back b =>
  unfold Am.aH;rw[hp];simp only[C8];split
  ·exact h.gL rfl (by rw[hp];rfl) rfl rfl rfl (λ_=>xN rfl)
  ·split
   ·exact h.gL rfl (by rw[hp];rfl) rfl rfl rfl (λ_ _=>rfl)
   ·exact h.gL rfl (by rw[hp];split<;>rfl) rfl rfl rfl (λ_ _=>rfl)
 | zG b =>
  unfold Am.aH;rw[hp];simp only[C8];split
  ·exact h.gL rfl (by rw[hp];rfl) rfl rfl rfl (λ_=>xN rfl)
  ·exact h.gL rfl (by rw[hp];split<;>rfl) rfl rfl rfl (λ_=>xN rfl)
 | sC t =>
  unfold Am.aH;rw[hp];simp only;exact h.gL rfl (by rw[hp];split<;>rfl) rfl rfl rfl (λ_=>xN rfl)
 | oP t x Bi =>
  unfold Am.aH;rw[hp];simp only;split
  ·exact h.gL rfl (by rw[hp];rfl) rfl rfl rfl (λ_=>xN rfl)
  ·exact h.gL rfl (by rw[hp];split<;>rfl) rfl rfl rfl (λ_=>xN rfl)
 | Cs =>
  unfold Am.aH;rw[hp];simp only;exact h.gL rfl (by rw[hp];split<;>rfl) rfl rfl rfl (λ_ _=>rfl)
 | vk j =>
  unfold Am.aH;rw[hp];simp only;split
  ·exact h.gL rfl (by rw[hp];rfl) rfl rfl rfl (λ_=>xN rfl)
  ·exact h.gL rfl (by rw[hp];split<;>rfl) rfl rfl rfl (λ_ _=>rfl)
 | HH =>
  unfold Am.aH;rw[hp];simp only;split
  ·exact h.gL rfl (by rw[hp];rfl) rfl rfl rfl (λ_ _=>rfl)
  ·exact h.gL rfl (by rw[hp];split<;>rfl) rfl rfl rfl (λ_ _=>rfl)
 | _ =>
  unfold Am.aH;rw[hp];simp only[n8,looking,C8]
  repeat' split
  all_goals first
   | exact h.gL rfl (by rw[hp];rfl) rfl rfl rfl (λ_ _=>rfl)
   | exact h.gL rfl (by rw[hp];rfl) rfl rfl rfl (λ_=>xN rfl)
end
def uF.SS:uF->Bool
 | .next | .join _ | .mark _ | .An | .top _ | .bot _=>true
 | _=>false
def gX:Pc->List Int
 | .wG _ b=>[b]
 | .oF _ b t | .oG _ b t | .grow _ b t _ | .lY _ b t _ | .lD _ b t _=>[b,t]
 | .js _ b t _ n | .iZ _ b t _ n _=>[b,t,n]
 | .ja _ b _ | .nC _ b=>[b]
 | .uL b | .oh b | .zi b=>[b]
 | .sC t=>[t]
 | .sD b t | .nD b t _ | .qH b t _=>[b,t]
 | .oP t _ _=>[t]
 | .yR _ t | .ud _ t | .tu _ t _ | .qX _ t _ _ | .qm _ t _=>[t]
 | .GZ _ t=>[t]
 | _=>[]
def Mt(x:Int)(n:Nat):Prop:=-(n:Int)<=x/\x<=n
structure BD(s:St)(n:Nat):Prop where
 m:∀a,a.SS=true->Mt (s.mem a) (n+1)
 r:∀i,∀x∈gX (s.pc i),Mt x (n+1)
 k:∀f,(s.fr f).bD<=n
section
variable {C:jv}{s:St}{i n:Nat}
theorem Mt.mono{x:Int}{m:Nat}(h:Mt x n)(hm:n<=m):Mt x m:=⟨by have:=h.1;omega,by have:=h.2;omega⟩
theorem Mt.inc{x:Int}(h:Mt x n):Mt (x+1) (n+1):=⟨by have:=h.1;omega,by have:=h.2;omega⟩
theorem Mt.dec{x:Int}(h:Mt x n):Mt (x-1) (n+1):=⟨by have:=h.1;omega,by have:=h.2;omega⟩
theorem BD.of{s':St}{p:Pc}(h:BD s n)(hm:∀a,a.SS=true->Mt (s'.mem a) (n+2))(hp:s'.pc=ck s.pc i p)(hr:∀x∈gX p,Mt x (n+2))(hk:∀f,(s'.fr f).bD<=n+1):BD s' (n+1):=
 ⟨hm,λj x hx=>by
  rw[hp,cG]at hx;split at hx
  ·exact hr x hx
  ·exact(h.r j x hx).mono I,hk⟩
theorem BD.mem(h:BD s n){a:uF}(ha:a.SS=true):Mt (s.mem a) (n+2):=(h.m a ha).mono I
theorem BD.wr(h:BD s n){b:uF}{v:Int}(hv:b.SS=true->Mt v (n+2)):∀a,a.SS=true->Mt ((s.wr b v).mem a) (n+2):=λa ha=>by
 show Mt (ck s.mem b v a) _;rw[cG];split
 ·next e=>exact hv (e▸ ha)
 ·exact h.mem ha
theorem BD.bD(h:BD s n)(f:Nat):(s.fr f).bD<=n+1:=Nat.le_succ_of_le (h.k f)
theorem BD.lay(h:BD s n){g:Nat}{x:Fr}(hx:x.bD<=n+1)(f:Nat):((s.lay g x).fr f).bD<=n+1:=by
 show(ck s.fr g x f).bD<=_;rw[cG];split
 ·exact hx
 ·exact h.bD f
theorem BD.aH(h:BD s n)(d:Int):BD (aH C s i d).s (n+1):=by
 have R:=h.r i;cases hp:s.pc i with
 | run =>
  unfold Am.aH;rw[hp];simp only;unfold instr;simp only;split
  ·exact h.of (p:=s.pc i) (λa ha=>h.mem ha) (tv _ _).symm (λx hx=>(R x hx).mono I) (h.lay (h.bD _))
  ·exact h.of (p:=s.pc i) (λa ha=>h.mem ha) (tv _ _).symm (λx hx=>(R x hx).mono I) (h.lay (h.bD _))
  ·exact h.of (p:=s.pc i) (λa ha=>h.mem ha) (tv _ _).symm (λx hx=>(R x hx).mono I) (h.lay (h.bD _))
  ·exact h.of (p:=s.pc i) (λa ha=>h.mem ha) (tv _ _).symm (λx hx=>(R x hx).mono I) (h.lay (h.bD _))
  ·exact h.of (p:=s.pc i) (λa ha=>h.mem ha) (tv _ _).symm (λx hx=>(R x hx).mono I) (h.lay (by split<;>exact h.bD _))
  ·exact h.of (p:=s.pc i) (λa ha=>h.mem ha) (tv _ _).symm (λx hx=>(R x hx).mono I) (h.lay (h.bD _))
  ·exact h.of (p:=s.pc i) (λa ha=>h.mem ha) (tv _ _).symm (λx hx=>(R x hx).mono I) (h.lay (h.bD _))
  ·split
   ·exact h.of (h.wr (λ_=>(h.m .next rfl).inc)) rfl (λx hx=>by cases hx) (h.lay (h.bD _))
   ·refine h.of (h.wr (λ_=>(h.m .next rfl).inc)) rfl (λx hx=>by cases hx) (λf => ?_);simp only[St.lay,St.wr,St.to,St.put,cG];have k1:=h.k ((s.hold i).getD 0);have k2:=h.bD f;split
    ·exact w7 _
    ·split
     ·exact Nat.succ_le_succ k1
     ·exact k2
  ·split<;>exact h.of (h.wr (λ_=>(h.m (.join _) rfl).dec)) rfl (λx hx=>by cases hx) (h.lay (h.bD _))
  ·split<;>exact h.of (h.wr (λe=>by cases e)) rfl (λx hx=>by cases hx) (h.lay (h.bD _))
 | halted=>unfold Am.aH;rw[hp];exact h.of (p:=s.pc i) (λa ha=>h.mem ha) (tv _ _).symm (λx hx=>(R x hx).mono I) h.bD
 | full=>unfold Am.aH;rw[hp];exact h.of (p:=s.pc i) (λa ha=>h.mem ha) (tv _ _).symm (λx hx=>(R x hx).mono I) h.bD
 | parked =>
  unfold Am.aH;rw[hp];simp only;split
  ·exact h.of (p:=s.pc i) (λa ha=>h.mem ha) (tv _ _).symm (λx hx=>(R x hx).mono I) h.bD
  ·exact h.of (λa ha=>h.mem ha) rfl (by intro x hx;split at hx<;>cases hx) h.bD
 | grow c b t cc =>
  unfold Am.aH;rw[hp];simp only;rw[hp]at R;refine h.of (λa ha => ?_) rfl (λx hx=>(R x hx).mono I) h.bD;cases a<;>first | exact h.mem ha | cases ha
 | start x=>unfold Am.aH;rw[hp];exact h.of (h.wr (λ_=>(h.m (.mark _) rfl).inc)) rfl (λx hx=>by cases hx) h.bD
 | fork c=>unfold Am.aH;rw[hp];exact h.of (h.wr (λ_=>(h.m (.join _) rfl).inc)) rfl (λx hx=>by cases hx) h.bD
 | nB=>unfold Am.aH;rw[hp];exact h.of (h.wr (λ_=>⟨I,I⟩)) rfl (λx hx=>by cases hx) h.bD
 | out p c=>unfold Am.aH;rw[hp];simp only;split<;>exact h.of (h.wr (λ_=>(h.m (.join _) rfl).dec)) rfl (λx hx=>by cases hx) h.bD
 | take p c=>unfold Am.aH;rw[hp];exact h.of (h.wr (λ_=>⟨I,I⟩)) rfl (λx hx=>by cases hx) h.bD
 | done=>unfold Am.aH;rw[hp];simp only[n8];split<;>exact h.of (h.wr (λe=>by cases e)) rfl (λx hx=>by cases hx) h.bD
 | tell j =>
  unfold Am.aH;rw[hp];simp only[n8];split
  ·exact h.of (h.wr (λe=>by cases e)) rfl (λx hx=>by cases hx) h.bD
  ·split<;>exact h.of (λa ha=>h.mem ha) rfl (λx hx=>by cases hx) h.bD
 | BO j=>unfold Am.aH;rw[hp];simp only[n8];split<;>exact h.of (h.wr (λ_=>(h.m .An rfl).dec)) rfl (λx hx=>by cases hx) h.bD
 | ya c=>unfold Am.aH;rw[hp];exact h.of (λa ha=>h.mem ha) rfl (λx hx=>by rw[List.mem_singleton.1 hx];exact h.mem (a:=.bot i) rfl) h.bD
 | wG c b =>
  unfold Am.aH;rw[hp];rw[hp]at R;simp only;exact h.of (λa ha=>h.mem ha) rfl (λx hx=>by
   simp only[gX,uA,uB,uC]at hx;rcases hx with rfl | rfl
   ·exact(R _ (by simp[gX])).mono I
   ·exact h.mem (a:=.top i) rfl) h.bD
 | oF c b t =>
  unfold Am.aH;rw[hp];rw[hp]at R;simp only;exact h.of (λa ha=>h.mem ha) rfl (λx hx=>by
   simp only[gX,uA,uB,uC]at hx;rcases hx with rfl | rfl
   ·exact(R _ (by simp[gX])).mono I
   ·exact(R _ (by simp[gX])).mono I) h.bD
 | oG c b t =>
  unfold Am.aH;rw[hp];rw[hp]at R;simp only;split
  ·exact h.of (λa ha=>h.mem ha) rfl (λx hx=>by rw[List.mem_singleton.1 hx];exact(R _ (by simp[gX])).mono I) h.bD
  ·split
   ·exact h.of (λa ha=>h.mem ha) rfl (λx hx=>by cases hx) h.bD
   ·exact h.of (λa ha=>h.mem ha) rfl (λx hx=>by
    simp only[gX,uA,uB,uC]at hx;rcases hx with rfl | rfl
    ·exact(R _ (by simp[gX])).mono I
    ·exact(R _ (by simp[gX])).mono I) h.bD
 | lY c b t cc =>
  unfold Am.aH;rw[hp];rw[hp]at R;simp only;exact h.of (h.wr (λe=>by cases e)) rfl (λx hx=>by
   simp only[gX,uA,uB,uC]at hx;rcases hx with rfl | rfl | rfl
   ·exact(R _ (by simp[gX])).mono I
   ·exact(R _ (by simp[gX])).mono I
   ·exact(R _ (by simp[gX])).mono I) h.bD
 | js c b t cc n =>
  unfold Am.aH;rw[hp];rw[hp]at R;simp only;exact h.of (λa ha=>h.mem ha) rfl (λx hx=>by
   simp only[gX,uA,uB,uC]at hx;rcases hx with rfl | rfl | rfl
   ·exact(R _ (by simp[gX])).mono I
   ·exact(R _ (by simp[gX])).mono I
   ·exact(R _ (by simp[gX])).mono I) h.bD
 | iZ c b t cc n x =>
  unfold Am.aH;rw[hp];rw[hp]at R;simp only;refine h.of (h.wr (λe=>by cases e)) rfl (λy hy => ?_) h.bD;split at hy
  ·simp only[gX,uA,uB,uC]at hy;rcases hy with rfl | rfl | rfl
   ·exact(R _ (by simp[gX])).mono I
   ·exact(R _ (by simp[gX])).mono I
   ·exact(R n (by simp[gX])).inc
  ·simp only[gX,uA,uB,uC]at hy;rcases hy with rfl | rfl
   ·exact(R _ (by simp[gX])).mono I
   ·exact(R _ (by simp[gX])).mono I
 | lD c b t cc =>
  unfold Am.aH;rw[hp];rw[hp]at R;simp only;exact h.of (h.wr (λe=>by cases e)) rfl (λx hx=>by rw[List.mem_singleton.1 hx];exact(R _ (by simp[gX])).mono I) h.bD
 | ja c b cc =>
  unfold Am.aH;rw[hp];rw[hp]at R;simp only;exact h.of (h.wr (λe=>by cases e)) rfl (λx hx=>by rw[List.mem_singleton.1 hx];exact(R _ (by simp[gX])).mono I) h.bD
 | nC c b =>
  unfold Am.aH;rw[hp];rw[hp]at R;simp only;exact h.of (h.wr (λ_=>(R b (by simp[gX])).inc)) rfl (λx hx=>by cases hx) h.bD
 | Cs =>
  unfold Am.aH;rw[hp];rw[hp]at R;simp only;refine h.of (λa ha=>h.mem ha) rfl (λy hy => ?_) h.bD;split at hy<;>cases hy
 | vk j =>
  unfold Am.aH;rw[hp];rw[hp]at R;simp only;split
  ·exact h.of (h.wr (λe=>by cases e)) rfl (λx hx=>by cases hx) h.bD
  ·refine h.of (λa ha=>h.mem ha) rfl (λy hy => ?_) h.bD;split at hy<;>cases hy
 | yq j =>
  unfold Am.aH;rw[hp];rw[hp]at R;simp only;exact h.of (h.wr (λ_=>(h.m .An rfl).dec)) rfl (λx hx=>by cases hx) h.bD
 | Ae =>
  unfold Am.aH;rw[hp];rw[hp]at R;simp only;exact h.of (λa ha=>h.mem ha) rfl (λx hx=>by rw[List.mem_singleton.1 hx];exact(h.m (.bot i) rfl).dec) h.bD
 | uL b =>
  unfold Am.aH;rw[hp];rw[hp]at R;simp only;exact h.of (λa ha=>h.mem ha) rfl (λx hx=>by rw[List.mem_singleton.1 hx];exact(R _ (by simp[gX])).mono I) h.bD
 | oh b =>
  unfold Am.aH;rw[hp];rw[hp]at R;simp only;exact h.of (h.wr (λ_=>(R b (by simp[gX])).mono I)) rfl (λx hx=>by rw[List.mem_singleton.1 hx];exact(R _ (by simp[gX])).mono I) h.bD
 | zi b =>
  unfold Am.aH;rw[hp];rw[hp]at R;simp only;split
  ·exact h.of (λa ha=>h.mem ha) rfl (λx hx=>by
   simp only[gX,uA,uB,uC]at hx;rcases hx with rfl | rfl
   ·exact(R _ (by simp[gX])).mono I
   ·exact h.mem (a:=.top i) rfl) h.bD
  ·split
   ·exact h.of (λa ha=>h.mem ha) rfl (λx hx=>by
    simp only[gX,uA,uB,uC]at hx;rcases hx with rfl | rfl
    ·exact(R _ (by simp[gX])).mono I
    ·exact h.mem (a:=.top i) rfl) h.bD
   ·exact h.of (λa ha=>h.mem ha) rfl (λx hx=>by rw[List.mem_singleton.1 hx];exact h.mem (a:=.top i) rfl) h.bD
 | sC t =>
  unfold Am.aH;rw[hp];rw[hp]at R;simp only;refine h.of (h.wr (λ_=>(R t (by simp[gX])).mono I)) rfl (λy hy => ?_) h.bD;split at hy<;>cases hy
 | sD b t =>
  unfold Am.aH;rw[hp];rw[hp]at R;simp only;exact h.of (λa ha=>h.mem ha) rfl (λx hx=>by
   simp only[gX,uA,uB,uC]at hx;rcases hx with rfl | rfl
   ·exact(R _ (by simp[gX])).mono I
   ·exact(R _ (by simp[gX])).mono I) h.bD
 | nD b t cc =>
  unfold Am.aH;rw[hp];rw[hp]at R;simp only;split
  ·exact h.of (λa ha=>h.mem ha) rfl (λx hx=>by cases hx) h.bD
  ·exact h.of (λa ha=>h.mem ha) rfl (λx hx=>by
   simp only[gX,uA,uB,uC]at hx;rcases hx with rfl | rfl
   ·exact(R _ (by simp[gX])).mono I
   ·exact(R _ (by simp[gX])).mono I) h.bD
 | qH b t x =>
  unfold Am.aH;rw[hp];rw[hp]at R;simp only;split
  ·exact h.of (h.wr (λ_=>(R t (by simp[gX])).inc)) rfl (λx hx=>by rw[List.mem_singleton.1 hx];exact(R _ (by simp[gX])).mono I) h.bD
  ·exact h.of (λa ha=>h.mem ha) rfl (λx hx=>by rw[List.mem_singleton.1 hx];exact(R _ (by simp[gX])).mono I) h.bD
 | oP t x Bi =>
  unfold Am.aH;rw[hp];rw[hp]at R;simp only;split
  ·exact h.of (h.wr (λ_=>(R t (by simp[gX])).inc)) rfl (λx hx=>by cases hx) h.bD
  ·refine h.of (h.wr (λ_=>(R t (by simp[gX])).inc)) rfl (λy hy => ?_) h.bD;split at hy<;>cases hy
 | lS =>
  unfold Am.aH;rw[hp];rw[hp]at R;simp only;exact h.of (λa ha=>h.mem ha) rfl (λx hx=>by rw[List.mem_singleton.1 hx];exact h.mem (a:=.top _) rfl) h.bD
 | yR v t =>
  unfold Am.aH;rw[hp];rw[hp]at R;simp only;split
  ·exact h.of (λa ha=>h.mem ha) rfl (λx hx=>by cases hx) h.bD
  ·exact h.of (λa ha=>h.mem ha) rfl (λx hx=>by rw[List.mem_singleton.1 hx];exact(R _ (by simp[gX])).mono I) h.bD
 | ud v t =>
  unfold Am.aH;rw[hp];rw[hp]at R;simp only;exact h.of (λa ha=>h.mem ha) rfl (λx hx=>by rw[List.mem_singleton.1 hx];exact(R _ (by simp[gX])).mono I) h.bD
 | tu v t g =>
  unfold Am.aH;rw[hp];rw[hp]at R;simp only;exact h.of (λa ha=>h.mem ha) rfl (λx hx=>by rw[List.mem_singleton.1 hx];exact(R _ (by simp[gX])).mono I) h.bD
 | qX v t g cc =>
  unfold Am.aH;rw[hp];rw[hp]at R;simp only;exact h.of (λa ha=>h.mem ha) rfl (λx hx=>by rw[List.mem_singleton.1 hx];exact(R _ (by simp[gX])).mono I) h.bD
 | qm v t x =>
  unfold Am.aH;rw[hp];rw[hp]at R;simp only;split
  ·exact h.of (h.wr (λ_=>(R t (by simp[gX])).inc)) rfl (λx hx=>by cases hx) h.bD
  ·exact h.of (λa ha=>h.mem ha) rfl (λx hx=>by cases hx) h.bD
 | HH =>
  unfold Am.aH;rw[hp];rw[hp]at R;simp only;split
  ·exact h.of (λa ha=>h.mem ha) rfl (λx hx=>by cases hx) h.bD
  ·refine h.of (λa ha=>h.mem ha) rfl (λy hy => ?_) h.bD;split at hy<;>cases hy
 | flag =>
  unfold Am.aH;rw[hp];rw[hp]at R;simp only;exact h.of (h.wr (λe=>by cases e)) rfl (λx hx=>by cases hx) h.bD
 | sleep =>
  unfold Am.aH;rw[hp];rw[hp]at R;simp only;exact h.of (h.wr (λ_=>(h.m .An rfl).inc)) rfl (λx hx=>by cases hx) h.bD
 | yS =>
  unfold Am.aH;rw[hp];rw[hp]at R;simp only[looking];split
  ·exact h.of (λa ha=>h.mem ha) rfl (λx hx=>by cases hx) h.bD
  ·split<;>exact h.of (λa ha=>h.mem ha) rfl (λx hx=>by cases hx) h.bD
 | GY j =>
  unfold Am.aH;rw[hp];rw[hp]at R;simp only;exact h.of (λa ha=>h.mem ha) rfl (λx hx=>by rw[List.mem_singleton.1 hx];exact h.mem (a:=.top j) rfl) h.bD
 | GZ j t =>
  unfold Am.aH;rw[hp];rw[hp]at R;simp only[looking];split
  ·exact h.of (λa ha=>h.mem ha) rfl (λx hx=>by cases hx) h.bD
  ·split<;>exact h.of (λa ha=>h.mem ha) rfl (λx hx=>by cases hx) h.bD
 | back b =>
  unfold Am.aH;rw[hp];rw[hp]at R;simp only[C8];split
  ·exact h.of (h.wr (λe=>by cases e)) rfl (λx hx=>by cases hx) h.bD
  ·split
   ·exact h.of (λa ha=>h.mem ha) rfl (λx hx=>by cases hx) h.bD
   ·refine h.of (λa ha=>h.mem ha) rfl (λy hy => ?_) h.bD;split at hy<;>cases hy
 | zG b =>
  unfold Am.aH;rw[hp];rw[hp]at R;simp only[C8];split
  ·exact h.of (h.wr (λ_=>(h.m .An rfl).dec)) rfl (λx hx=>by cases hx) h.bD
  ·refine h.of (h.wr (λ_=>(h.m .An rfl).dec)) rfl (λy hy => ?_) h.bD;split at hy<;>cases hy
end
def Gz(C:jv)(s:St):uF->Prop
 | .result | .next | .An | .HG=>True
 | .join f | .mark f=>f<C.F
 | .slot f k=>f<C.F/\k<8
 | .flag i | .top i | .bot i | .buf i=>i<C.N
 | .cap i g=>i<C.N/\g<=gen s i
 | .el i g n=>i<C.N/\g<=gen s i/\n<uG C g
def cS(C:jv)(s:St):uF->Int
 | .result=>0
 | .next=>1
 | .join f=>2+10*f
 | .mark f=>3+10*f
 | .slot f k=>4+10*f+k
 | .An=>2+10*C.F
 | .HG=>3+10*C.F
 | .flag i=>4+10*C.F+i
 | .top i=>xM C i
 | .bot i=>xM C i+1
 | .buf i=>xM C i+2
 | .cap i g=>s.base i g
 | .el i g n=>s.base i g+1+n
inductive PM | fix (x:Int) | dq (i r:Nat) | gr (i g r:Nat)
def Om(C:jv):uF->PM
 | .result=>.fix 0
 | .next=>.fix 1
 | .join f=>.fix (2+10*f)
 | .mark f=>.fix (3+10*f)
 | .slot f k=>.fix (4+10*f+k)
 | .An=>.fix (2+10*C.F)
 | .HG=>.fix (3+10*C.F)
 | .flag i=>.fix (4+10*C.F+i)
 | .top i=>.dq i 0
 | .bot i=>.dq i 1
 | .buf i=>.dq i 2
 | .cap i g=>if g=0 then .dq i 3 else .gr i g 0
 | .el i g n=>if g=0 then .dq i (4+n)else .gr i g (1+n)
section
variable {C:jv}{s:St}
theorem Mu{i:Nat}(h:i<C.N):xM C i+(4+C.first)<=S0 C:=by
 unfold xM S0;have:(i+1)*(4+C.first)<=C.N*(4+C.first):=s9 _ h;rw[GP]at this;omega
theorem Rh(i:Nat):4+10*C.F+C.N<=xM C i:=by unfold xM;omega
theorem K7{i j:Nat}(h:i<j):xM C i+(4+C.first)<=xM C j:=by
 unfold xM;have:(i+1)*(4+C.first)<=j*(4+C.first):=s9 _ h;rw[GP]at this;omega
def zin(C:jv)(s:St)(z:PM)(x:Int):Prop:=
 match z with
 | .fix y=>x=y/\0<=y/\y<4+10*C.F+C.N
 | .dq i r=>i<C.N/\r<4+C.first/\x=xM C i+r
 | .gr i g r=>i<C.N/\1<=g/\g<=gen s i/\r<1+uG C g/\x=s.base i g+r
theorem Mv(h:SZ C s){a:uF}(ha:Gz C s a):zin C s (Om C a) (cS C s a):=by
 cases a with
 | result=>exact⟨rfl,I,I⟩
 | next=>exact⟨rfl,I,I⟩
 | An=>exact⟨rfl,I,I⟩
 | HG=>exact⟨rfl,I,I⟩
 | join f=>have:f<C.F:=ha;exact⟨rfl,I,I⟩
 | mark f=>have:f<C.F:=ha;exact⟨rfl,I,I⟩
 | slot f k=>have:f<C.F/\k<8:=ha;exact⟨rfl,I,I⟩
 | flag i=>have:i<C.N:=ha;exact⟨rfl,I,I⟩
 | top i=>exact⟨ha,I,by simp[cS]⟩
 | bot i=>exact⟨ha,I,by simp[cS]⟩
 | buf i=>exact⟨ha,I,by simp[cS]⟩
 | cap i g =>
  by_cases e:g=0
  ·subst e;simp only[Om,if_true];exact⟨ha.1,I,by simp only[cS];rw[h.VB i ha.1];omega⟩
  ·simp only[Om,cQ e];exact⟨ha.1,I,ha.2,I,by simp[cS]⟩
 | el i g n =>
  by_cases e:g=0
  ·subst e;simp only[Om,if_true];exact⟨ha.1,by have:=ha.2.2;simp only[uG]at this;omega,by simp only[cS];rw[h.VB i ha.1];omega⟩
  ·simp only[Om,cQ e];exact⟨ha.1,I,ha.2.1,by have:=ha.2.2;omega,by simp only[cS];omega⟩
theorem aa0(h:SZ C s){z:PM}{x:Int}(hz:zin C s z x):0<=x/\x<s.size:=by
 have hs:(S0 C:Int)<=s.size:=by rw[h.size];omega
 have h0:4+10*C.F+C.N<=S0 C:=by unfold S0;omega
 cases z with
 | fix y=>obtain⟨rfl,a,b⟩:=hz;omega
 | dq i r=>obtain⟨a,b,rfl⟩:=hz;have:=Mu a;omega
 | gr i g r=>obtain⟨a,b,c,d,rfl⟩:=hz;have:=h.bs i a g b c;omega
theorem X5(h:SZ C s){z z':PM}{x:Int}(hz:zin C s z x)(R5:zin C s z' x):z=z':=by
 have h0:4+10*C.F+C.N<=S0 C:=by unfold S0;omega
 cases z with
 | fix y =>
  obtain⟨rfl,a,b⟩:=hz;cases z' with
  | fix y'=>obtain⟨rfl,_,_⟩:=R5;rfl
  | dq i r=>obtain⟨a',b',c'⟩:=R5;have:=Rh (C:=C) i;omega
  | gr i g r=>obtain⟨a',b',c',d',e'⟩:=R5;have:=h.bs i a' g b' c';omega
 | dq i r =>
  obtain⟨a,b,c⟩:=hz;have hi:=Mu a;cases z' with
  | fix y'=>obtain⟨rfl,_,_⟩:=R5;have:=Rh (C:=C) i;omega
  | dq i' r' =>
   obtain⟨a',b',c'⟩:=R5;rcases Nat.lt_trichotomy i i' with e | e | e
   ·have:=K7 (C:=C) e;omega
   ·subst e;have:r=r':=by omega
    rw[this]
   ·have:=K7 (C:=C) e;omega
  | gr i' g r'=>obtain⟨a',b',c',d',e'⟩:=R5;have:=h.bs i' a' g b' c';omega
 | gr i g r =>
  obtain⟨a,b,c,d,e⟩:=hz;have hb:=h.bs i a g b c;cases z' with
  | fix y'=>obtain⟨rfl,_,_⟩:=R5;omega
  | dq i' r'=>obtain⟨a',b',c'⟩:=R5;have:=Mu a';omega
  | gr i' g' r' =>
   obtain⟨a',b',c',d',e'⟩:=R5;by_cases hh:i≠i'∨g≠g'
   ·have:=h.dj i i' g g' a a' b b' c c' hh;omega
   ·have e1:i=i':=Decidable.byContradiction λe=>hh (.inl e);have e2:g=g':=Decidable.byContradiction λe=>hh (.inr e);subst e1;subst e2;have:r=r':=by omega
    rw[this]
theorem VC(h:SZ C s){a b:uF}(ha:Gz C s a)(hb:Gz C s b)(e:Om C a=Om C b):a=b:=by
 cases a<;>cases b<;>simp only[Om]at e<;>simp only[Gz]at ha hb<;>(try rfl)<;>(repeat' split at e)<;>simp only[PM.fix.injEq,PM.dq.injEq,PM.gr.injEq,reduceCtorEq]at e<;>first
  | omega
  | (exfalso;revert e ha hb;simp;done)
  | (simp only[uF.join.injEq,uF.mark.injEq,uF.slot.injEq,uF.flag.injEq,uF.top.injEq,uF.bot.injEq,uF.buf.injEq,uF.cap.injEq,uF.el.injEq];first | omega | (refine⟨?_,?_⟩<;>omega) | (refine⟨?_,?_,?_⟩<;>omega))
theorem SU(h:SZ C s){a b:uF}(ha:Gz C s a)(hb:Gz C s b)(e:cS C s a=cS C s b):a=b:=
 VC h ha hb (X5 h (Mv h ha) (e▸ Mv h hb))
theorem Fz(h:SZ C s){a:uF}(ha:Gz C s a):0<=cS C s a/\cS C s a<s.size:=aa0 h (Mv h ha)
structure CL(C:jv)(s:St)(c:List Int):Prop where
 len:(c.length:Int)=s.size
 get:∀a,Gz C s a->c.getD (cS C s a).toNat 0=s.mem a
theorem CL.GA{c:List Int}(h:CL C s c)(hz:SZ C s){a:uF}(ha:Gz C s a):0<=cS C s a/\cS C s a<c.length/\(cS C s a).toNat<c.length:=by
 have:=Fz hz ha;have:=h.len;omega
theorem CL.of{s':St}{c:List Int}(h:CL C s c)(h1:s'.mem=s.mem)(h2:s'.size=s.size)(h3:s'.base=s.base)(h4:gen s'=gen s):CL C s' c:=by
 have e1:∀a,Gz C s' a=Gz C s a:=λa=>by cases a<;>simp only[Gz,h4]
 have e2:∀a,cS C s' a=cS C s a:=λa=>by cases a<;>simp only[cS,h3]
 exact⟨by rw[h2];exact h.len,λa ha=>by rw[e2,h1];exact h.get a (e1 a▸ ha)⟩
theorem CL.set{s':St}{c:List Int}{b:uF}{v:Int}(h:CL C s c)(hz:SZ C s)(hb:Gz C s b)(h1:s'.mem=ck s.mem b v)(h2:s'.size=s.size)(h3:s'.base=s.base)(h4:gen s'=gen s):CL C s' (c.set (cS C s b).toNat v):=by
 have e1:∀a,Gz C s' a=Gz C s a:=λa=>by cases a<;>simp only[Gz,h4]
 have e2:∀a,cS C s' a=cS C s a:=λa=>by cases a<;>simp only[cS,h3]
 refine⟨by rw[h2,gU];exact h.len,λa ha => ?_⟩;rw[e1]at ha;rw[e2,h1,cG,List.getD_eq_getElem?_getD,List.getElem?_set];have la:=h.GA hz ha;have lb:=h.GA hz hb;by_cases e:a=b
 ·subst e;rw[bg rfl,bg la.2.2,bg rfl];rfl
 ·have hne:(cS C s b).toNat≠(cS C s a).toNat:=λe'=>e (SU hz ha hb I);rw[cQ hne,cQ e,<-List.getD_eq_getElem?_getD];exact h.get a ha
theorem CL.grow{s':St}{c:List Int}{i:Nat}(h:CL C s c)(hz:SZ C s)(hi:i<C.N)(hg:gen s i=s.cur i)
 (h1:∀a,s'.mem a=match a with | .cap i' g'=>if i'=i/\g'=s.cur i+1 then 0 else s.mem a | .el i' g' _=>if i'=i/\g'=s.cur i+1 then 0 else s.mem a | _=>s.mem a)
 (h2:s'.size=s.size+1+uG C (s.cur i+1)) (h3:s'.base=ck s.base i (ck (s.base i) (s.cur i+1) s.size)) (h4:gen s'=ck (gen s) i (s.cur i+1)):CL C s' (c++List.replicate (1+uG C (s.cur i+1)) 0):=by
 have hl:=h.len;have hnew:∀k,c.length<=k->(c++List.replicate (1+uG C (s.cur i+1)) (0:Int)).getD k 0=0:=λk hk=>by
  rw[List.getD_eq_getElem?_getD,List.getElem?_append_right hk,List.getElem?_replicate];split<;>rfl
 have hold:∀k,k<c.length->(c++List.replicate (1+uG C (s.cur i+1)) (0:Int)).getD k 0=c.getD k 0:=λk hk=>by
  rw[List.getD_eq_getElem?_getD,List.getElem?_append_left hk,<-List.getD_eq_getElem?_getD]
 refine⟨by rw[h2,jM,od];omega,λa ha => ?_⟩;have key:∀a,Gz C s a->cS C s' a=cS C s a->s'.mem a=s.mem a->(c++List.replicate (1+uG C (s.cur i+1)) (0:Int)).getD (cS C s' a).toNat 0=s'.mem a:=λa hv hp hm=>by
  rw[hp,hm,hold _ (h.GA hz hv).2.2];exact h.get a hv
 cases a with
 | cap j g =>
  have ha1:=ha.1;have ha2:=ha.2;rw[h4,cG]at ha2;by_cases e:j=i/\g=s.cur i+1
  ·obtain⟨rfl,rfl⟩:=e;rw[h1];simp only[and_self,if_true,cS];rw[h3,aC,aC];exact hnew _ I
  ·refine key _ ⟨ha1,?_⟩ ?_ (by rw[h1];exact cQ e)
   ·split at ha2
    ·next e'=>subst e';rw[hg];have:g≠s.cur j+1:=λx=>e ⟨rfl,x⟩;omega
    ·exact ha2
   ·simp only[cS];rw[h3,cG];split
    ·next e'=>subst e';rw[aA (λx=>e ⟨rfl,x⟩)]
    ·rfl
 | el j g n =>
  have ha1:=ha.1;have ha2:=ha.2.1;rw[h4,cG]at ha2;by_cases e:j=i/\g=s.cur i+1
  ·obtain⟨rfl,rfl⟩:=e;rw[h1];simp only[and_self,if_true,cS];rw[h3,aC,aC];exact hnew _ I
  ·refine key _ ⟨ha1,?_,ha.2.2⟩ ?_ (by rw[h1];exact cQ e)
   ·split at ha2
    ·next e'=>subst e';rw[hg];have:g≠s.cur j+1:=λx=>e ⟨rfl,x⟩;omega
    ·exact ha2
   ·simp only[cS];rw[h3,cG];split
    ·next e'=>subst e';rw[aA (λx=>e ⟨rfl,x⟩)]
    ·rfl
 | _=>exact key _ ha rfl (by rw[h1])
end
end Am
end
section
namespace Mo
open Go SL GX
def mZ(i:cr):Am.Ins:=
 if i.aG=0 then .const i.A.toNat i.K else if i.aG=1 then .move i.A.toNat i.B.toNat else if i.aG=2 then .arith i.K i.A.toNat i.B.toNat i.C.toNat
 else if i.aG=3 then .jump i.A.toNat else if i.aG=4 then .branch i.A.toNat i.B.toNat else if i.aG=5 then .spawn i.A.toNat i.B.toNat i.C.toNat
 else if i.aG=6 then .sync else if i.aG=7 then .load i.A.toNat i.B.toNat else if i.aG=8 then .mN i.A.toNat else .ret i.A.toNat
def VD(op x y:Int):Int:=match sw op x y with
 | some r=>r.1
 | none=>0
theorem Jv{op:Int}(h0:0<=op)(h1:op<16)(x y:Int):sw op x y=some (VD op x y,0):=by
 have d :∃a b,oL x y=some (a,b):=by
  unfold oL;by_cases h:y=0
  ·rw[bg h];exact⟨_,_,rfl⟩
  ·rw[cQ h];split
   ·exact⟨_,_,rfl⟩
   ·exact⟨_,_,rfl⟩
 obtain⟨a,b,d⟩:=d;have e :∃v,u5 op x y=some v:=by
  have it:∀{c:Prop} [Decidable c] {x y:Option Int},(∃v,x=some v)->(∃v,y=some v)->∃v,(if c then x else y)=some v:=λhx hy=>by
   split
   ·exact hx
   ·exact hy
  have tr:∀b:Bool,∃v,mD b=some v:=λb=>by cases b<;>exact⟨_,rfl⟩
  have ob:∀{x:Option Int},(∃v,x=some v)->∃v,dX x (λr=>some r)=some v:=λ⟨v,h⟩=>⟨v,by rw[h];rfl⟩;unfold u5;rw[d];exact it ⟨_,rfl⟩ (it ⟨_,rfl⟩ (it ⟨_,rfl⟩ (it ⟨_,rfl⟩ (it ⟨_,rfl⟩ (it ⟨_,rfl⟩ (it ⟨_,rfl⟩ (it ⟨_,rfl⟩ (it ⟨_,rfl⟩ (it ⟨_,rfl⟩ (it ⟨_,rfl⟩ (it ⟨_,rfl⟩ (it (ob (tr _)) (it (ob (tr _)) (it (ob (tr _)) (ob (tr _))))))))))))))))
 obtain⟨v,e⟩:=e;have:sw op x y=some (v,0):=by
  unfold sw AU;rw[bg h0,ax,bg (uT h1),e,ax]
 unfold VD;rw[this]
def cfg(p:aE)(N F f m:Nat):Am.jv:=
 { N:=N,F:=F,first:=f,most:=m,Re:=p.ah.length,len:=λg=>(J p.ah g).ai.length,params:=λg=>(J p.ah g).aS.toNat,bu:=λg=>(J p.ah g).dh.toNat,
   code:=λg a=>mZ (J (J p.ah g).ai a),ap:=VD,pd:=λx k=>wi (wi (wi (x*1000003)+(k:Int))+1)}
theorem ED{x n:Int}(h:uJ x n=true):0<=x/\x<n:=ym.1 h
theorem VE{p:aE}{g:aB}(h:Code p g)(hs:MO g){a:Nat}(ha:a<g.ai.length)(h3:¬(J g.ai a).aG=3)(h9:¬(J g.ai a).aG=9):a+1<g.ai.length:=by
 have en:=h.fin;unfold Pu at en;simp only[EV,CA]at en;by_cases e:a=g.ai.length-1
 ·rw[<-e]at en;rcases en with en | en
  ·exact absurd en h3
  ·exact absurd en h9
 ·omega
theorem VF{p:aE}{N F f m:Nat}(hv:Valid p)(OP:1<=N)(hn:N<=64)(hf1:1<=F)(hf:F<=4096)(h1:1<=f)(TY:f<=m)(hm:m<=4096):(cfg p N F f m).OK where
 n1:=OP
 n64:=hn
 f1:=hf1
 f4:=hf
 c1:=h1
 cm:=TY
 m4:=hm
 fn0:=hv.n1
 aaZ:=λg hg=>by have:=(hv.HZ g hg).c1;exact this
 Ok:=λg hg=>by
  have a1:=(hv.HZ g hg).rp;have a2:=(hv.HZ g hg).r16;have a3:=(hv.HZ g hg).O;exact⟨by show(J p.ah g).aS.toNat<=(J p.ah g).dh.toNat;omega,by show(J p.ah g).dh.toNat<=16;omega⟩
 ins:=λg hg a ha=>by
  change g<p.ah.length at hg;change a<(J p.ah g).ai.length at ha;have hs:=hv.HZ g hg;have hc:=hv.code g hg;have hi:=(hc.ins a ha).1;have W4:=(hc.ins a ha).2;have hl:=VE hc hs ha;have s8:=hs.s8;unfold nv at hi;unfold wV at W4;unfold Am.Oj;show match mZ (J (J p.ah g).ai a)with
   | .const x _=>x<(J p.ah g).dh.toNat/\a+1<(J p.ah g).ai.length
   | .mN x=>x<(J p.ah g).dh.toNat/\a+1<(J p.ah g).ai.length
   | .move x y=>x<(J p.ah g).dh.toNat/\y<(J p.ah g).dh.toNat/\a+1<(J p.ah g).ai.length
   | .arith op x y z=>x<(J p.ah g).dh.toNat/\y<(J p.ah g).dh.toNat/\z<(J p.ah g).dh.toNat/\a+1<(J p.ah g).ai.length
   | .jump t=>t<(J p.ah g).ai.length
   | .branch x t=>x<(J p.ah g).dh.toNat/\t<(J p.ah g).ai.length/\a+1<(J p.ah g).ai.length
   | .spawn s f c=>s<8/\f<p.ah.length/\((J p.ah f).aS.toNat=0∨c+(J p.ah f).aS.toNat<=(J p.ah g).dh.toNat)/\a+1<(J p.ah g).ai.length
   | .sync=>a+1<(J p.ah g).ai.length
   | .load x s=>x<(J p.ah g).dh.toNat/\s<8/\a+1<(J p.ah g).ai.length
   | .ret x=>x<(J p.ah g).dh.toNat
  have hk:=(Code.snd hs hc).kind (a:Int) I I;rw[di]at hk;generalize J (J p.ah g).ai a=c at *;have hk:c.aG=0∨c.aG=1∨c.aG=2∨c.aG=3∨c.aG=4∨c.aG=5∨c.aG=6∨c.aG=7∨c.aG=8∨c.aG=9:=by omega
  unfold mZ;rcases hk with k | k | k | k | k | k | k | k | k | k<;>simp[k,uJ]at hi W4 hl⊢
  ·omega
  ·omega
  ·omega
  ·omega
  ·omega
  ·have:=(hv.HZ c.B.toNat I).O;omega
  ·omega
  ·omega
  ·omega
  ·omega
def nt(M:af)(c:List Int)(k a x y:Int)(ok:Bool):af:={M with cell:=c,log:=if M.watched=true then M.log++[⟨M.wB,k,a,x,y,ok⟩]else M.log}
structure AR(C:Am.jv)(s:Am.St)(M:af)(sz n:Nat):Prop where
 size:M.nl=sz
 s1:sz<=1048576
 fit:s.size<=sz
 mark:M.fo=(M.cell.length:Int)
 cl:Am.CL C s M.cell
 lg:M.log.length<=n
section
variable {C:Am.jv}{s:Am.St}{M:af}{sz n:Nat}
theorem AX(h:M.log.length<=2000000000)(c:List Int)(k a x y:Int)(ok:Bool):fY {M with cell:=c} k a x y ok=some (nt M c k a x y ok):=by
 unfold fY nt;by_cases e:M.watched=true
 ·rw[bg e,bg e,bg (by show(M.log.length+1)*48<=_;omega)]
 ·rw[cQ e,cQ e]
theorem AR.ZR(h:AR C s M sz n)(hz:Am.SZ C s){a:Am.uF}(ha:Am.Gz C s a):bJ (Am.cS C s a) M.cell.length/\Am.cS C s a<1048576/\J M.cell (Am.cS C s a).toNat=s.mem a:=by
 have l:=h.cl.GA hz ha;have p:=Am.Fz hz ha;have f:=h.fit;have s1:=h.s1;exact⟨⟨l.1,l.2.1⟩,I,h.cl.get a ha⟩
theorem AR.out(h:AR C s M sz n)(hz:Am.SZ C s){a:Am.uF}(ha:Am.Gz C s a):iv M (Am.cS C s a)=some false:=by
 have l:=h.cl.GA hz ha;unfold iv su;rw[h.mark,rD,uT I,ax];rfl
theorem Db(h:AR C s M sz n)(hz:Am.SZ C s)(hn:n<=2000000000){a:Am.uF}(ha:Am.Gz C s a):gG M (Am.cS C s a)=some (s.mem a,0,nt M M.cell 0 (Am.cS C s a) (s.mem a) 0 true):=by
 obtain⟨i1,_,i3⟩:=h.ZR hz ha;have lg:=h.lg;unfold gG;rw[h.out hz ha,ax,cQ gB,bg i1,i3];have:=AX (M:=M) I M.cell 0 (Am.cS C s a) (s.mem a) 0 true;rw[show fY M 0 (Am.cS C s a) (s.mem a) 0 true=_ from this,ax]
theorem yu(h:AR C s M sz n)(hz:Am.SZ C s)(hn:n<=2000000000){a:Am.uF}(ha:Am.Gz C s a)(v:Int):dW M (Am.cS C s a) v=some (0,nt M (M.cell.set (Am.cS C s a).toNat v) 1 (Am.cS C s a) v 0 true):=by
 obtain⟨i1,_,i3⟩:=h.ZR hz ha;have lg:=h.lg;unfold dW;rw[h.out hz ha,ax,cQ gB,bg i1,AX I,ax]
theorem Ri(h:AR C s M sz n)(hz:Am.SZ C s)(hn:n<=2000000000){a:Am.uF}(ha:Am.Gz C s a){d v:Int}(hv:wi (s.mem a+d)=v):iW M (Am.cS C s a) d=some (v,0,nt M (M.cell.set (Am.cS C s a).toNat v) 3 (Am.cS C s a) d v true):=by
 obtain⟨i1,_,i3⟩:=h.ZR hz ha;have lg:=h.lg;have l:=h.cl.GA hz ha;unfold iW;rw[h.out hz ha,ax,cQ gB,bg i1,i3,hv,bg (by rw[gU];exact i1),AX I,ax];have hin:bJ (Am.cS C s a) (nt M (M.cell.set (Am.cS C s a).toNat v) 3 (Am.cS C s a) d v true).cell.length:=by
  show bJ _ (M.cell.set _ v).length;rw[gU];exact i1
 rw[bg hin];have:J (nt M (M.cell.set (Am.cS C s a).toNat v) 3 (Am.cS C s a) d v true).cell (Am.cS C s a).toNat=v:=by
  show J (M.cell.set _ v) _=v;rw[rL I,bg rfl]
 rw[this]
theorem acw(h:AR C s M sz n)(hz:Am.SZ C s)(hn:n<=2000000000){a:Am.uF}(ha:Am.Gz C s a)(o v:Int):oN M (Am.cS C s a) o v=some (s.mem a==o,0,nt M (if s.mem a=o then M.cell.set (Am.cS C s a).toNat v else M.cell) 2 (Am.cS C s a) o v (s.mem a==o)):=by
 obtain⟨i1,_,i3⟩:=h.ZR hz ha;have lg:=h.lg;unfold oN;rw[h.out hz ha,ax,cQ gB,bg i1,i3];by_cases e:s.mem a=o
 ·rw[bg e,bg e,AX I,ax]
 ·rw[cQ e,cQ e];have:=AX (M:=M) I M.cell 2 (Am.cS C s a) o v (s.mem a==o);rw[show fY M 2 (Am.cS C s a) o v (s.mem a==o)=_ from this,ax]
theorem acy(h:AR C s M sz n)(hn:n<=2000000000){k:Nat}(hk:1<=k)(hf:M.cell.length+k<=sz):fN M (k:Int)=some (s.size,0,{nt M (M.cell++List.replicate k 0) 4 s.size k 0 true with fo:=s.size+k}):=by
 have lg:=h.lg;have s1:=h.s1;have hl:=h.cl.len;unfold fN nh rh;rw[lO,ez,h.mark,h.size,fh (x:=(sz:Int)-(M.cell.length:Int)) I,ez,ax,bg rfl,fQ,bg ⟨I,by show(M.cell.length+(k:Int).toNat)*8<=_;omega⟩,di];have:=AX (M:={M with fo:=wi (((M.cell.length:Nat):Int)+k)}) (by show M.log.length<=_;omega) (M.cell++List.replicate k 0) 4 (M.cell.length:Int) k 0 true;have e:fY ({({M with fo:=wi (((M.cell.length:Nat):Int)+k)}:af)with cell:=M.cell++List.replicate k 0}) 4 ((M.cell.length:Nat):Int) (k:Int) 0 true=_:=this;obtain⟨z1,z2,z3,z4,z5,z6⟩:=M;simp only at e h hf hl lg s1⊢;have hs:=h.size;have hm:=h.mark;simp only at hs hm;subst hs;subst hm;rw[e,ax,fh I,hl];rfl
theorem AR.same{s':Am.St}(h:AR C s M sz n)(h1:s'.mem=s.mem)(h2:s'.size=s.size)(h3:s'.base=s.base)(h4:Am.gen s'=Am.gen s)(k a x y:Int)(ok:Bool):AR C s' (nt M M.cell k a x y ok) sz (n+1):=
 ⟨h.size,h.s1,by rw[h2];exact h.fit,h.mark,h.cl.of h1 h2 h3 h4,by
  have:=h.lg;show(if M.watched=true then M.log++[_]else M.log).length<=_;split
  ·rw[jM];simp;omega
  ·omega⟩
theorem AR.keep{s':Am.St}(h:AR C s M sz n)(h1:s'.mem=s.mem)(h2:s'.size=s.size)(h3:s'.base=s.base)(h4:Am.gen s'=Am.gen s):AR C s' M sz (n+1):=
 ⟨h.size,h.s1,by rw[h2];exact h.fit,h.mark,h.cl.of h1 h2 h3 h4,Nat.le_succ_of_le h.lg⟩
theorem AR.set{s':Am.St}{b:Am.uF}{v:Int}(h:AR C s M sz n)(hz:Am.SZ C s)(hb:Am.Gz C s b)(h1:s'.mem=Am.ck s.mem b v)(h2:s'.size=s.size)(h3:s'.base=s.base)(h4:Am.gen s'=Am.gen s)(k a x y:Int)(ok:Bool) :
 AR C s' (nt M (M.cell.set (Am.cS C s b).toNat v) k a x y ok) sz (n+1):=
 ⟨h.size,h.s1,by rw[h2];exact h.fit,by show M.fo=((M.cell.set _ _).length:Nat);rw[gU];exact h.mark,h.cl.set hz hb h1 h2 h3 h4,by
  have:=h.lg;show(if M.watched=true then M.log++[_]else M.log).length<=_;split
  ·rw[jM];simp;omega
  ·omega⟩
end
def DO(C:Am.jv)(v:Nat)(k st:Int)(o:cu):Prop:=o.kind=k/\o.J=st/\o.oK=Am.xM C v/\o.pq=C.most
def TO(C:Am.jv)(k st:Int)(f:Nat)(o:bM):Prop:=o.eD=1/\o.ef=C.F/\o.gu=f/\o.ay=st/\o.kind=k
def LO(C:Am.jv)(i:Nat)(k st kk:Int)(o:ct):Prop:=o.cJ=2+10*(C.F:Int)/\o.cK=C.N/\o.iM=i/\o.eL=k/\o.aR=st/\o.eM=kk
def X6(C:Am.jv)(v:Nat):cw:=⟨Am.xM C v,C.most⟩
def RO(C:Am.jv)(i:Nat)(st kk:Int)(a:bK):Prop:=a.aO=12/\LO C i 1 st kk a.eJ/\∀v,v<C.N->J a.eJ.ei v=X6 C v
def ring(C:Am.jv)(i j:Nat)(k:Nat):Prop:=1<=k/\k<C.N/\(i+k)%C.N=j
def ph(C:Am.jv)(i:Nat)(p:Am.Pc)(tr:Nat)(cj:Nat)(bs:Nat->Nat->Int)(a:bK):Prop:=
 match p with
 | .halted=>a.aO=13
 | .full=>a.aO=14
 | .start x=>a.aO=0/\a.from_=x
 | .run=>a.aO=1
 | .fork c=>a.aO=2/\a.bW=c
 | .nB=>a.aO=5/\TO C 3 2 a.az.toNat a.dL
 | .out p c=>a.aO=6/\a.done=c/\TO C 2 2 p a.dL
 | .take p c=>a.aO=6/\a.done=c/\TO C 2 3 p a.dL
 | .done=>a.aO=7/\LO C i 4 10 1 a.eJ
 | .tell j=>a.aO=7/\∃k:Nat,LO C i 4 9 k a.eJ/\ring C i j k
 | .BO j=>a.aO=7/\∃k:Nat,LO C i 4 7 k a.eJ/\ring C i j k
 | .ya c=>a.aO=3/\a.bW=c/\DO C i 1 1 a.bC/\a.bC.v=c
 | .wG c b=>a.aO=3/\a.bW=c/\DO C i 1 2 a.bC/\a.bC.v=c/\a.bC.b=b
 | .oF c b t=>a.aO=3/\a.bW=c/\DO C i 1 3 a.bC/\a.bC.v=c/\a.bC.b=b/\a.bC.t=t
 | .oG c b t=>a.aO=3/\a.bW=c/\DO C i 1 4 a.bC/\a.bC.v=c/\a.bC.b=b/\a.bC.t=t/\a.bC.a=bs i cj
 | .grow c b t cc=>a.aO=3/\a.bW=c/\DO C i 1 5 a.bC/\a.bC.v=c/\a.bC.b=b/\a.bC.t=t/\a.bC.a=bs i cj/\a.bC.c=cc/\a.bC.c2=Am.jb C cc
 | .lY c b t cc=>a.aO=3/\a.bW=c/\DO C i 1 6 a.bC/\a.bC.v=c/\a.bC.b=b/\a.bC.t=t/\a.bC.a=bs i cj/\a.bC.c=cc/\a.bC.c2=Am.jb C cc/\a.bC.a2=bs i (cj+1)
 | .js c b t cc n=>a.aO=3/\a.bW=c/\DO C i 1 7 a.bC/\a.bC.v=c/\a.bC.b=b/\a.bC.t=t/\a.bC.a=bs i cj/\a.bC.c=cc/\a.bC.c2=Am.jb C cc/\a.bC.a2=bs i (cj+1)/\a.bC.i=n
 | .iZ c b t cc n x=>a.aO=3/\a.bW=c/\DO C i 1 8 a.bC/\a.bC.v=c/\a.bC.b=b/\a.bC.t=t/\a.bC.a=bs i cj/\a.bC.c=cc/\a.bC.c2=Am.jb C cc/\a.bC.a2=bs i (cj+1)/\a.bC.i=n/\a.bC.x=x
 | .lD c b t cc=>a.aO=3/\a.bW=c/\DO C i 1 9 a.bC/\a.bC.v=c/\a.bC.b=b/\a.bC.c2=Am.jb C cc/\a.bC.a2=bs i (cj+1)
 | .ja c b cc=>a.aO=3/\a.bW=c/\DO C i 1 10 a.bC/\a.bC.v=c/\a.bC.b=b/\a.bC.a=bs i cj/\a.bC.c=cc
 | .nC c b=>a.aO=3/\a.bW=c/\DO C i 1 11 a.bC/\a.bC.b=b
 | .Cs=>a.aO=4/\LO C i 2 8 1 a.eJ
 | .vk j=>a.aO=4/\∃k:Nat,LO C i 2 9 k a.eJ/\ring C i j k
 | .yq j=>a.aO=4/\∃k:Nat,LO C i 2 7 k a.eJ/\ring C i j k
 | .Ae=>a.aO=8/\DO C i 2 1 a.bC/\a.bC.i=0/\a.bC.Bi=false
 | .uL b=>a.aO=8/\DO C i 2 3 a.bC/\a.bC.i=0/\a.bC.Bi=false/\a.bC.b=b
 | .oh b=>a.aO=8/\DO C i 2 11 a.bC/\a.bC.i=0/\a.bC.Bi=false/\a.bC.b=b/\a.bC.a=bs i cj
 | .zi b=>a.aO=8/\DO C i 2 2 a.bC/\a.bC.b=b/\a.bC.a=bs i cj/\a.bC.Bi=false
 | .sC t=>a.aO=8/\DO C i 2 11 a.bC/\a.bC.i=1/\a.bC.t=t/\a.bC.b<t/\a.bC.Bi=false
 | .sD b t=>a.aO=8/\DO C i 2 4 a.bC/\a.bC.i=1/\a.bC.b=b/\a.bC.t=t/\a.bC.a=bs i cj
 | .nD b t cc=>a.aO=8/\DO C i 2 12 a.bC/\a.bC.i=1/\a.bC.b=b/\a.bC.t=t/\a.bC.a=bs i cj/\a.bC.c=cc
 | .qH b t x=>a.aO=8/\DO C i 2 13 a.bC/\a.bC.i=1/\a.bC.b=b/\a.bC.t=t/\a.bC.x=x
 | .oP t x Bi=>a.aO=8/\DO C i 2 11 a.bC/\a.bC.i=1/\a.bC.t=t/\t<=a.bC.b/\a.bC.x=x/\a.bC.Bi=Bi
 | .lS=>a.aO=9/\a.iE=tr/\tr<3
 | .yR v t=>a.aO=10/\(a.iE=tr/\tr<3)/\a.gC=v/\DO C v 3 1 a.bC/\a.bC.t=t
 | .ud v t=>a.aO=10/\(a.iE=tr/\tr<3)/\a.gC=v/\DO C v 3 3 a.bC/\a.bC.t=t
 | .tu v t g=>a.aO=10/\(a.iE=tr/\tr<3)/\a.gC=v/\DO C v 3 4 a.bC/\a.bC.t=t/\a.bC.a=bs v g
 | .qX v t g cc=>a.aO=10/\(a.iE=tr/\tr<3)/\a.gC=v/\DO C v 3 12 a.bC/\a.bC.t=t/\a.bC.a=bs v g/\a.bC.c=cc
 | .qm v t x=>a.aO=10/\(a.iE=tr/\tr<3)/\a.gC=v/\DO C v 3 13 a.bC/\a.bC.t=t/\a.bC.x=x
 | .HH=>a.aO=11/\a.iE=tr/\a.eJ.eL=3/\a.eJ.aR=3/\a.eJ.cJ=2+10*(C.F:Int)/\a.eJ.cK=C.N
 | .flag=>(a.aO=9/\C.N=1)∨(RO C i 1 0 a/\a.parked=false)
 | .sleep=>RO C i 2 0 a/\a.parked=false
 | .yS=>RO C i 3 0 a/\a.parked=false
 | .GY j=>a.parked=false/\∃k:Nat,RO C i 4 k a/\ring C i j k/\DO C j 4 2 a.eJ.look
 | .GZ j t=>a.parked=false/\∃k:Nat,RO C i 4 k a/\ring C i j k/\DO C j 4 1 a.eJ.look/\a.eJ.look.t=t
 | .parked=>a.parked=true/\∃k:Int,RO C i 5 k a
 | .back h=>a.parked=false/\∃k:Int,RO C i 6 k a/\a.eJ.mP=if h then 17 else 16
 | .zG h=>a.parked=false/\∃k:Int,RO C i 7 k a/\a.eJ.mP=if h then 17 else 16
def fi(h:Option Nat):Int:=match h with
 | some f=>(f:Int)
 | none=>-1
structure aOK(C:Am.jv)(s:Am.St)(i:Nat)(a:bK):Prop where
 self:a.bB=i
 az:a.az=fi (s.hold i)
 ph:ph C i (s.pc i) (s.iE i) (s.cur i) s.base a
structure SV(x:Am.Fr)(f:Nat)(t:aX):Prop where
 fn:t.fn=x.fn
 J:t.J=x.J
 par:t.parent=if f=0 then -1 else(x.par:Int)
 slot:t.slot=x.slot
 bD:t.bD=x.bD
 mN:t.mN=x.mN
 bu:∀r,r<16->GX.J t.bu r=x.bu r
structure W5(C:Am.jv)(p:aE)(s:Am.St)(S:ag):Prop where
 code:S.code=p.ah
 res:S.result=0
 tb:S.dB=1
 tf:S.cL=C.F
 lb:S.gE=2+10*(C.F:Int)
 lw:S.dV=C.N
 dl:S.ei.length=C.N
 dq:∀v,v<C.N->GX.J S.ei v=X6 C v
 tl:S.aM.length=C.F
 tk:∀f,f<s.nf->SV (s.fr f) f (GX.J S.aM f)
 wl:S.aj.length=C.N
 wk:∀i,i<C.N->aOK C s i (GX.J S.aj i)
 left:S.left=s.val.isSome
 val:S.value=s.val.getD 0
section
variable {C:Am.jv}{s:Am.St}{p:aE}{S:ag}{i:Nat}
theorem ph.keep{j:Nat}{bs bs':Nat->Nat->Int}{pc:Am.Pc}{tr cj:Nat}{a:bK}(h:ph C j pc tr cj bs a)(h1:∀g,g<=cj+1->bs' j g=bs j g)(h2:∀v t g,pc= .tu v t g->bs' v g=bs v g)(h3:∀v t g cc,pc= .qX v t g cc->bs' v g=bs v g):ph C j pc tr cj bs' a:=by
 unfold ph at h⊢;have e0:=h1 cj I;have e1:=h1 (cj+1) I;cases pc<;>first
  | exact h
  | (simp only[e0,e1]at h⊢;exact h)
  | (simp only[h2 _ _ _ rfl]at h⊢;exact h)
  | (simp only[h3 _ _ _ _ rfl]at h⊢;exact h)
end
section
variable {K:Nat}{M M':af}{o:cu}{v x:Int}
theorem dnz(h:o.kind≠0):¬o=(⟨0,0,0,0,0,0,0,0,0,0,0,0,0,false,0,0⟩:cu):=λe=>h (by rw[e])
theorem vG{k a:Int}(hk:o.kind=k)(ha:o.J=a)(U7:k≠0)(ha0:a≠0)(hx:bA o M=some (v,0,M')){o':cu}
 (hn:(if k=1 then eZ o v else if k=2 then fa o v else if k=3 then uu o v else uv o v)=some o'):hO M o=some (o',M'):=by
 unfold hO bT;rw[cQ (dnz (by rw[hk];exact U7)),cQ (by rw[ha];exact ha0),gz,hx,dA,bg rfl,hk];split at hn
 ·rename_i h;rw[bg h,hn,ax]
 ·rename_i h;rw[cQ h];split at hn
  ·rename_i h;rw[bg h,hn,ax]
  ·rename_i h;rw[cQ h];split at hn
   ·rename_i h;rw[bg h,hn,ax]
   ·rename_i h;rw[cQ h,hn,ax]
theorem ZS(hk:o.kind≠0)(ha:o.J≠0):pE o=some (0,0):=by
 unfold pE bT;rw[cQ (dnz hk),cQ ha]
theorem X7(hk:o.kind≠0)(ha:o.J=0):pE o=some (o.code,o.value):=by
 unfold pE bT;rw[cQ (dnz hk),bg ha]
theorem VG{a c n:Int}(ha0:0<=a)(ha:a<=1048576)(hc:1<=c)(M9:c<=4096)(hn:-1000000000000<=n/\n<=1000000000000):rq a c n=some (a+1+(Am.ix n c:Int)):=by
 have e1:=EW n (b:=c) I;have e2:=GQ n (show 0<c by omega);have e3:(Am.ix n c:Int)=n%c:=by unfold Am.ix;omega
 have e4:n.tmod c=if 0<=n∨c∣n then n%c else n%c-c:=by
  rw[MZ];split
  ·omega
  ·rw[show((c.natAbs:Nat):Int)=c by omega]
 unfold rq;rw[rD,e3];by_cases h:0<=n∨c∣n
 ·rw[e4,bg h,ez,fh (x:=a+1) I,fh I]
 ·rw[e4,cQ h,rD,fh (x:=a+1) I,fh (x:=n%c-c+c) I,fh I];congr 1;omega
end
section
variable {C:Am.jv}{s:Am.St}{M:af}{sz n:Nat}{o:cu}{i:Nat}
theorem AR.cast(h:AR C s M sz n)(hz:Am.SZ C s){a:Am.uF}(ha:Am.Gz C s a){x:Int}(hx:x=Am.cS C s a):wi x=Am.cS C s a:=by
 have p:=Am.Fz hz ha;have f:=h.fit;have s1:=h.s1;rw[hx,fh I]
theorem GB(s:Am.St)(i:Nat):s.cur i<=Am.gen s i:=by unfold Am.gen;omega
theorem Rj(h:AR C s M sz n)(hz:Am.SZ C s)(hn:n<=2000000000)(hi:i<C.N)(ha:o.J=1)(hb:o.oK=Am.xM C i):bA o M=some (s.mem (.bot i),0,nt M M.cell 0 (Am.cS C s (.bot i)) (s.mem (.bot i)) 0 true):=by
 unfold bA;rw[bg ha,h.cast hz (a:=.bot i) hi (by rw[hb];rfl),Db h hz hn (a:=.bot i) hi,dA]
theorem Rk(h:AR C s M sz n)(hz:Am.SZ C s)(hn:n<=2000000000)(hi:i<C.N)(ha:o.J=2)(hb:o.oK=Am.xM C i):bA o M=some (s.mem (.top i),0,nt M M.cell 0 (Am.cS C s (.top i)) (s.mem (.top i)) 0 true):=by
 unfold bA;rw[gl ha,bg ha,h.cast hz (a:=.top i) hi (by rw[hb,Int.add_zero];rfl),Db h hz hn (a:=.top i) hi,dA]
theorem Rl(h:AR C s M sz n)(hz:Am.SZ C s)(hn:n<=2000000000)(hi:i<C.N)(ha:o.J=3)(hb:o.oK=Am.xM C i):bA o M=some (s.mem (.buf i),0,nt M M.cell 0 (Am.cS C s (.buf i)) (s.mem (.buf i)) 0 true):=by
 unfold bA;rw[gl ha,gl ha,bg ha,h.cast hz (a:=.buf i) hi (by rw[hb];rfl),Db h hz hn (a:=.buf i) hi,dA]
theorem Rm{g:Nat}(h:AR C s M sz n)(hz:Am.SZ C s)(hn:n<=2000000000)(hi:i<C.N)(hg:g<=Am.gen s i)(ha:o.J=4)(hb:o.a=s.base i g):bA o M=some (s.mem (.cap i g),0,nt M M.cell 0 (Am.cS C s (.cap i g)) (s.mem (.cap i g)) 0 true):=by
 unfold bA;rw[gl ha,gl ha,gl ha,bg ha,hb,show s.base i g=Am.cS C s (.cap i g)from rfl,Db h hz hn (a:=.cap i g) ⟨hi,hg⟩,dA]
theorem X8{k:Nat}(h:AR C s M sz n)(hn:n<=2000000000)(ha:o.J=5)(hk:o.c2=k)(hf:M.cell.length+(1+k)<=sz):bA o M=some (s.size,0,{nt M (M.cell++List.replicate (1+k) 0) 4 s.size ((1+k:Nat):Int) 0 true with fo:=s.size+((1+k:Nat):Int)}):=by
 have s1:=h.s1;unfold bA;rw[gl ha,gl ha,gl ha,gl ha,bg ha,hk,show wi (1+(k:Int))=((1+k:Nat):Int) by rw[fh I];omega,acy h hn I hf,dA]
theorem PN{g:Nat}(h:AR C s M sz n)(hz:Am.SZ C s)(hn:n<=2000000000)(hi:i<C.N)(hg:g<=Am.gen s i)(ha:o.J=6)(hb:o.a2=s.base i g):bA o M=some (0,0,nt M (M.cell.set (Am.cS C s (.cap i g)).toNat o.c2) 1 (Am.cS C s (.cap i g)) o.c2 0 true):=by
 unfold bA;rw[gl ha,gl ha,gl ha,gl ha,gl ha,bg ha,hb,show s.base i g=Am.cS C s (.cap i g)from rfl,yu h hz hn (a:=.cap i g) ⟨hi,hg⟩,fQ]
theorem Du(h:AR C s M sz n)(hz:Am.SZ C s)(hC:C.OK)(hi:i<C.N){g:Nat}(hg:g<=Am.gen s i){c x:Int}(hc:c=Am.uG C g)(hx:-1000000000000<=x/\x<=1000000000000):rq (s.base i g) c x=some (Am.cS C s (.el i g (Am.ix x c)))/\Am.Gz C s (.el i g (Am.ix x c)):=by
 have b1:=h.ZR hz (a:=.cap i g) ⟨hi,hg⟩;have p:=Am.Fz hz (a:=.cap i g) ⟨hi,hg⟩;have c1:=Am.H8 hC g;have c2:=Am.PK hC g;have m4:=hC.m4;have e2:=GQ x (show 0<c by omega);have e1:=EW x (b:=c) I;refine⟨VG p.1 (by have:=b1.2.1;show Am.cS C s (.cap i g)<=_;omega) I I hx,hi,hg,?_⟩;unfold Am.ix;omega
theorem X9{g:Nat}(h:AR C s M sz n)(hz:Am.SZ C s)(hC:C.OK)(hn:n<=2000000000)(hi:i<C.N)(hg:g<=Am.gen s i)(ha:o.J=7)(hb:o.a=s.base i g)(hc:o.c=Am.uG C g)(hx:-1000000000000<=o.i/\o.i<=1000000000000) :
 bA o M=some (s.mem (.el i g (Am.ix o.i o.c)),0,nt M M.cell 0 (Am.cS C s (.el i g (Am.ix o.i o.c))) (s.mem (.el i g (Am.ix o.i o.c))) 0 true):=by
 obtain⟨e1,e2⟩:=Du h hz hC hi hg hc hx;unfold bA;rw[gl ha,gl ha,gl ha,gl ha,gl ha,gl ha,bg ha,hb,e1,ax,Db h hz hn e2,dA]
theorem Ya{g:Nat}(h:AR C s M sz n)(hz:Am.SZ C s)(hC:C.OK)(hn:n<=2000000000)(hi:i<C.N)(hg:g<=Am.gen s i)(ha:o.J=8)(hb:o.a2=s.base i g)(hc:o.c2=Am.uG C g)(hx:-1000000000000<=o.i/\o.i<=1000000000000) :
 bA o M=some (0,0,nt M (M.cell.set (Am.cS C s (.el i g (Am.ix o.i o.c2))).toNat o.x) 1 (Am.cS C s (.el i g (Am.ix o.i o.c2))) o.x 0 true):=by
 obtain⟨e1,e2⟩:=Du h hz hC hi hg hc hx;unfold bA;rw[gl ha,gl ha,gl ha,gl ha,gl ha,gl ha,gl ha,bg ha,hb,e1,ax,yu h hz hn e2,fQ]
theorem PO(h:AR C s M sz n)(hz:Am.SZ C s)(hn:n<=2000000000)(hi:i<C.N)(ha:o.J=9)(hb:o.oK=Am.xM C i):bA o M=some (0,0,nt M (M.cell.set (Am.cS C s (.buf i)).toNat o.a2) 1 (Am.cS C s (.buf i)) o.a2 0 true):=by
 unfold bA;rw[gl ha,gl ha,gl ha,gl ha,gl ha,gl ha,gl ha,gl ha,bg ha,h.cast hz (a:=.buf i) hi (by rw[hb];rfl),yu h hz hn (a:=.buf i) hi,fQ]
theorem Yb{g:Nat}(h:AR C s M sz n)(hz:Am.SZ C s)(hC:C.OK)(hn:n<=2000000000)(hi:i<C.N)(hg:g<=Am.gen s i)(ha:o.J=10)(hb:o.a=s.base i g)(hc:o.c=Am.uG C g)(hx:-1000000000000<=o.b/\o.b<=1000000000000) :
 bA o M=some (0,0,nt M (M.cell.set (Am.cS C s (.el i g (Am.ix o.b o.c))).toNat o.v) 1 (Am.cS C s (.el i g (Am.ix o.b o.c))) o.v 0 true):=by
 obtain⟨e1,e2⟩:=Du h hz hC hi hg hc hx;unfold bA;rw[gl ha,gl ha,gl ha,gl ha,gl ha,gl ha,gl ha,gl ha,gl ha,bg ha,hb,e1,ax,yu h hz hn e2,fQ]
theorem EE(h:AR C s M sz n)(hz:Am.SZ C s)(hn:n<=2000000000)(hi:i<C.N)(ha:o.J=11)(hb:o.oK=Am.xM C i){v:Int}(hv:lR o=some v):bA o M=some (0,0,nt M (M.cell.set (Am.cS C s (.bot i)).toNat v) 1 (Am.cS C s (.bot i)) v 0 true):=by
 unfold bA;rw[gl ha,gl ha,gl ha,gl ha,gl ha,gl ha,gl ha,gl ha,gl ha,gl ha,bg ha,hv,ax,h.cast hz (a:=.bot i) hi (by rw[hb];rfl),yu h hz hn (a:=.bot i) hi,fQ]
theorem VH{g:Nat}{x:Int}(h:AR C s M sz n)(hz:Am.SZ C s)(hC:C.OK)(hn:n<=2000000000)(hi:i<C.N)(hg:g<=Am.gen s i)(ha:o.J=12)(hb:o.a=s.base i g)(hc:o.c=Am.uG C g)(hk:x=if o.kind=2 then o.b else o.t)(hx:-1000000000000<=x/\x<=1000000000000) :
 bA o M=some (s.mem (.el i g (Am.ix x o.c)),0,nt M M.cell 0 (Am.cS C s (.el i g (Am.ix x o.c))) (s.mem (.el i g (Am.ix x o.c))) 0 true):=by
 obtain⟨e1,e2⟩:=Du h hz hC hi hg hc hx;have e3:(if o.kind=2 then some o.b else some o.t)=some x:=by rw[hk];split<;>rfl
 unfold bA;rw[gl ha,gl ha,gl ha,gl ha,gl ha,gl ha,gl ha,gl ha,gl ha,gl ha,gl ha,bg ha,e3,ax,hb,e1,ax,Db h hz hn e2,dA]
theorem Yc(h:AR C s M sz n)(hz:Am.SZ C s)(hn:n<=2000000000)(hi:i<C.N)(ha:o.J=13)(hb:o.oK=Am.xM C i)(ht:-1000000000000<=o.t/\o.t<=1000000000000):bA o M=some (if s.mem (.top i)=o.t then 1 else 0,0,nt M (if s.mem (.top i)=o.t then M.cell.set (Am.cS C s (.top i)).toNat (o.t+1)else M.cell) 2 (Am.cS C s (.top i)) o.t (o.t+1) (s.mem (.top i)==o.t)):=by
 unfold bA;rw[gl ha,gl ha,gl ha,gl ha,gl ha,gl ha,gl ha,gl ha,gl ha,gl ha,gl ha,gl ha,fh (x:=o.t+1) I,h.cast hz (a:=.top i) hi (by rw[hb,Int.add_zero];rfl),acw h hz hn (a:=.top i) hi,dA];by_cases e:s.mem (.top i)=o.t
 ·rw[bg (by rw[e];simp),bg e,bg e]
 ·rw[cQ (by simpa using e),cQ e,cQ e]
end
def Mw:Option Am.Ev->ak
 | none=>⟨0,0,0,0,0,0⟩
 | some e=>⟨0,0,e.kind,e.az,e.x,e.v⟩
def VI(i:Nat):Option Am.Ev->ak
 | none=>⟨0,0,0,0,0,0⟩
 | some e=>⟨0,i,e.kind,e.az,e.x,e.v⟩
def Yd(e:Option Am.Ev):Prop:=match e with
 | none=>True
 | some e=>e.kind≠0
def ZT(C:Am.jv)(s:Am.St)(w:Int)(a:Am.Acc):aU:=⟨w,a.kind,Am.cS C s a.a,a.x,a.y,a.ok⟩
def Lg(C:Am.jv)(s:Am.St)(M M':af)(acc:Option Am.Acc):Prop:=
 M'.wB=M.wB/\M'.watched=M.watched/\M'.log=if M.watched=true then M.log++(acc.toList.map (ZT C s M.wB))else M.log
def ox(C:Am.jv)(p:aE)(sz n:Nat)(M:af)(o:Am.Out)(r:Option (ak×ag×af)):Prop:=
 ∃S' M',r=some (Mw o.ev,S',M')/\W5 C p o.s S'/\AR C o.s M' sz (n+1)/\Lg C o.s M M' o.acc/\Yd o.ev
structure xx(C:Am.jv)(p:aE)(s:Am.St)(S:ag)(M:af)(sz n:Nat):Prop where
 ok:C.OK
 oR:W5 C p s S
 ar:AR C s M sz n
 z:Am.SZ C s
 bd:Am.BD s n
 dt:Am.DT C s
 fi:(Am.view s).FI C.N C.F
 fr:Am.FR C s
 n:n<=1000000000
 vd:Valid p
 cf:C=cfg p C.N C.F C.first C.most
 room :∃agc,(sz:Int)=Am.S0 C+C.N*Am.tot C agc/\Am.uG C agc=C.most
section
variable {K:Nat}{C:Am.jv}{p:aE}{s:Am.St}{S:ag}{M:af}{sz n i:Nat}{D:aY}
theorem Lg.nt{s':Am.St}{c:List Int}{k:Nat}{a:Am.uF}{x y pl:Int}{ok:Bool}(h:Am.cS C s' a=pl):Lg C s' M (nt M c k pl x y ok) (some ⟨k,a,x,y,ok⟩):=by
 refine⟨rfl,rfl,?_⟩;show(if M.watched=true then M.log++[_]else M.log)=_;simp only[Option.toList_some,BX,Cy,ZT,h]
theorem Lg.none_{s':Am.St}:Lg C s' M M none:=by
 refine⟨rfl,rfl,?_⟩;simp
def ku(S:ag)(i:Nat)(a:bK):ag:={S with aj:=S.aj.set i a}
abbrev act(S:ag)(i:Nat):bK:=J S.aj i
theorem sE(i:Nat)(a:bK):(ku S i a).aj.length=S.aj.length:=gU
theorem vl{a:bK}(h:i<S.aj.length):act (ku S i a) i=a:=by
 show J (S.aj.set i a) i=a;rw[rL h,bg rfl]
theorem VJ{a b:bK}:ku (ku S i a) i b=ku S i b:=by
 show {S with aj:=(S.aj.set i a).set i b}=_;rw[nE];rfl
theorem W5.act{s':Am.St}{a:bK}{q:Am.Pc}(h:W5 C p s S)(ht:Am.DT C s)(hi:i<C.N)(ha:aOK C s' i a)(hpc:s'.pc=Am.ck s.pc i q)(hh:∀j,j≠i->s'.hold j=s.hold j)(htr:∀j,j≠i->s'.iE j=s.iE j)
 (hc:∀j,j≠i->s'.cur j=s.cur j) (hb:∀j g,(j≠i∨g<=s.cur i)->s'.base j g=s.base j g) (hf:s'.fr=s.fr) (hn:s'.nf=s.nf) (hv:s'.val=s.val):W5 C p s' (ku S i a):=by
 have hl:=h.wl;refine⟨h.code,h.res,h.tb,h.tf,h.lb,h.lw,h.dl,h.dq,h.tl,λf hf'=>by rw[hf];exact h.tk f (hn▸ hf'),by rw[sE];exact h.wl,λj hj => ?_,by rw[hv];exact h.left,by rw[hv];exact h.val⟩;show aOK C s' j (GX.J (S.aj.set i a) j);by_cases e:j=i
 ·subst e;rw[rL I,bg rfl];exact ha
 ·rw[rL I,cQ e];obtain⟨w1,w2,w3⟩:=h.wk j hj;have ep:s'.pc j=s.pc j:=by rw[hpc];exact Am.aA e
  refine⟨w1,by rw[hh j e];exact w2,?_⟩;rw[ep,htr j e,hc j e];have T:=ht.2 j hj;refine w3.keep (λg _=>hb j g (.inl e)) (λv t g hq => ?_) (λv t g cc hq => ?_)
  ·unfold Am.Th at T;rw[hq]at T;simp only at T;by_cases ev:v=i
   ·subst ev;exact hb v g (.inr T.2.2.2.1)
   ·exact hb v g (.inl ev)
  ·unfold Am.Th at T;rw[hq]at T;simp only at T;by_cases ev:v=i
   ·subst ev;exact hb v g (.inr T.2.2.2.1)
   ·exact hb v g (.inl ev)
theorem Dv{o':cu}{M':af}{c v:Int}(h1:hO M (act S i).bC=some (o',M'))(h2:pE o'=some (c,v)) :
 mq S M (i:Int)=some (c,v,ku S i {act S i with bC:=o' },M'):=by
 unfold mq nM aq;rw[di,h1,fQ];simp only;rw[h2,fQ];rfl
theorem Mx{o':bM}{M':af}{c v:Int}(h1:dg M (act S i).dL=some (o',M'))(h2:jd o'=some (c,v)) :
 eV S M (i:Int)=some (c,v,ku S i {act S i with dL:=o' },M'):=by
 unfold eV nM aq;rw[di,h1,fQ];simp only;rw[h2,fQ];rfl
theorem H9{o':ct}{M':af}{c v:Int}(h1:kK M (act S i).eJ=some (o',M'))(h2:sR o'=some (c,v)) :
 mE S M (i:Int)=some (c,v,ku S i {act S i with eJ:=o' },M'):=by
 unfold mE nM aq;rw[di,h1,fQ];simp only;rw[h2,fQ];rfl
theorem xx.Kx(b:xx C p s S M sz n)(hi:i<C.N):bJ (i:Int) S.aj.length:=⟨I,by rw[b.oR.wl];omega⟩
theorem xx.wl(b:xx C p s S M sz n)(hi:i<C.N):i<S.aj.length:=by rw[b.oR.wl];exact hi
theorem xx.cN(b:xx C p s S M sz n):n<=2000000000:=by have:=b.n;omega
theorem xx.Ok(b:xx C p s S M sz n){x:Int}(h:x∈Am.gX (s.pc i)):-1000000000000<=x/\x<=1000000000000:=by
 have:=b.bd.r i x h;have hn:=b.n;unfold Am.Mt at this;omega
theorem xx.SS(b:xx C p s S M sz n){a:Am.uF}(h:a.SS=true):-1000000000000<=s.mem a/\s.mem a<=1000000000000:=by
 have:=b.bd.m a h;have hn:=b.n;unfold Am.Mt at this;omega
theorem VK{s':Am.St}{q:Am.Pc}(h:s'.pc=Am.ck s.pc i q)(hc:s'.cur=s.cur)(hg:Am.lZ q=Am.lZ (s.pc i)):Am.gen s'=Am.gen s:=by
 funext j;unfold Am.gen;rw[h,hc,Am.cG];split
 ·next e=>rw[e,hg]
 ·rfl
theorem VL(C:Am.jv){a b:Nat}(h:a<=b):Am.tot C a<=Am.tot C b:=by
 induction b with
 | zero=>rw[show a=0 by omega];exact gQ _
 | succ b ih =>
  by_cases e:a=b+1
  ·rw[e];exact gQ _
  ·have:=ih I;show _<=Am.tot C b+1+Am.uG C (b+1);omega
theorem On{agc:Nat}(hz:Am.SZ C s)(h1:(sz:Int)=Am.S0 C+C.N*Am.tot C agc)(h2:Am.uG C agc=C.most):s.size<=sz:=by
 have key:∀j,j<C.N->Am.tot C (Am.gen s j)<=Am.tot C agc:=λj hj=>by
  rcases BZ agc (Am.gen s j)with h | h
  ·have:=hz.gm j hj agc h;omega
  ·exact VL C h
 have:=Am.H7 (f:=λj=>Am.tot C (Am.gen s j)) (k:=Am.tot C agc) (n:=C.N) key;rw[hz.size,h1];have e:((C.N*Am.tot C agc:Nat):Int)=(C.N:Int)*(Am.tot C agc:Int):=by simp
 omega
theorem ox.mk{a:bK}{M':af}{o:Am.Out}{q:Am.Pc}{r:Option (ak×ag×af)}(b:xx C p s S M sz n)(hi:i<C.N)(hr:r=some (Mw o.ev,ku S i a,M'))
 (Ir:a.bB=i) (hfr:a.az=fi (o.s.hold i)) (hq:o.s.pc=Am.ck s.pc i q) (hph:ph C i q (o.s.iE i) (o.s.cur i) o.s.base a) (har:AR C o.s M' sz (n+1)) (PR:Lg C o.s M M' o.acc) (Rn:Yd o.ev)
 (hh:∀j,j≠i->o.s.hold j=s.hold j:=by intros;rfl) (htr:∀j,j≠i->o.s.iE j=s.iE j:=by intros;rfl) (hc:∀j,j≠i->o.s.cur j=s.cur j:=by intros;rfl)
 (hb:∀j g,(j≠i∨g<=s.cur i)->o.s.base j g=s.base j g:=by intros;rfl) (hf:o.s.fr=s.fr:=by rfl) (hn:o.s.nf=s.nf:=by rfl) (hv:o.s.val=s.val:=by rfl):ox C p sz n M o r:=
 ⟨_,_,hr,b.oR.act b.dt hi ⟨Ir,hfr,by rw[hq,Am.aC];exact hph⟩ hq hh htr hc hb hf hn hv,har,PR,Rn⟩
theorem xx.MT(b:xx C p s S M sz n){s':Am.St}{q:Am.Pc}(hq:s'.pc=Am.ck s.pc i q)(hg:Am.lZ q=Am.lZ (s.pc i))(k a x y:Int)(ok:Bool)(h1:s'.mem=s.mem:=by rfl)(h2:s'.size=s.size:=by rfl)(h3:s'.base=s.base:=by rfl)(h4:s'.cur=s.cur:=by rfl) :
 AR C s' (nt M M.cell k a x y ok) sz (n+1):=b.ar.same h1 h2 h3 (VK hq h4 hg) k a x y ok
theorem xx.Ia(b:xx C p s S M sz n){s':Am.St}{q:Am.Pc}{c:Am.uF}{v:Int}(hq:s'.pc=Am.ck s.pc i q)(hg:Am.lZ q=Am.lZ (s.pc i))(hb:Am.Gz C s c)(k a x y:Int)(ok:Bool)(h1:s'.mem=Am.ck s.mem c v:=by rfl)(h2:s'.size=s.size:=by rfl)(h3:s'.base=s.base:=by rfl)(h4:s'.cur=s.cur:=by rfl) :
 AR C s' (nt M (M.cell.set (Am.cS C s c).toNat v) k a x y ok) sz (n+1):=b.ar.set b.z hb h1 h2 h3 (VK hq h4 hg) k a x y ok
end
section
variable {K:Nat}{C:Am.jv}{p:aE}{s:Am.St}{S:ag}{M:af}{sz n i:Nat}{D:aY}{d:Int}
theorem Jw(b:xx C p s S M sz n)(hi:i<C.N){c:Nat}(hg:(Am.view s).g i= .push c):c<s.nf:=by
 have z:=b.fi.ps i c hi hg;rcases BZ c s.nf with h | h
 ·exact h
 ·have:=b.fi.free c h;rw[this]at z;exact absurd z.2.1 (by simp)
theorem xx.task(b:xx C p s S M sz n){f:Nat}(hf:f<s.nf):bJ (f:Int) S.aM.length:=⟨I,by rw[b.oR.tl];have:s.nf<=C.F:=b.fi.zj;omega⟩
theorem tw(b:xx C p s S M sz n)(hi:i<C.N){c:Nat}(hc:(act S i).bW=c)(hg:(Am.view s).g i= .push c){o':cu}{M':af}(h1:hO M (act S i).bC=some (o',M'))(h2:o'.kind=1)(h3:o'.J≠0) :
 cz S M (i:Int) D=some (Mw none,ku S i {act S i with bC:=o' },M'):=by
 have hin:bJ (act S i).bW S.aM.length:=by rw[hc];exact b.task (Jw b hi hg)
 unfold cz eu nM aq;rw[di,bg hin,lO,bg hin,Dv h1 (ZS (by rw[h2];decide) h3),kW,bg rfl];rfl
section
variable (b:xx C p s S M sz n)(hi:i<C.N)
include b hi
theorem VM{c:Nat}(hp:s.pc i= .ya c):ox C p sz n M (Am.aH C s i d) (cz S M (i:Int) D):=by
 obtain⟨w1,w2,w3⟩:=b.oR.wk i hi;rw[hp]at w3;obtain⟨a1,a2,⟨o1,o2,o3,o4⟩,a3⟩:=w3;have hs:=vG o1 o2 gB gB (Rj b.ar b.z b.cN hi o2 o3) (o':={(act S i).bC with J:=2,b:=s.mem (.bot i)}) (by
  rw[bg rfl];unfold eZ;rw[bg o2])
 unfold Am.aH;rw[hp];simp only;exact .mk b hi (tw b hi a2 (by show Am.sig (s.pc i)=_;rw[hp];rfl) hs o1 (by show(2:Int)≠0;decide)) w1 w2 rfl ⟨a1,a2,⟨o1,rfl,o3,o4⟩,a3,rfl⟩ (b.MT rfl (by rw[hp];rfl) _ _ _ _ _) (Lg.nt rfl) trivial
theorem VN{c:Nat}{bb:Int}(hp:s.pc i= .wG c bb):ox C p sz n M (Am.aH C s i d) (cz S M (i:Int) D):=by
 obtain⟨w1,w2,w3⟩:=b.oR.wk i hi;rw[hp]at w3;obtain⟨a1,a2,⟨o1,o2,o3,o4⟩,a3,a4⟩:=w3;have hs:=vG o1 o2 gB gB (Rk b.ar b.z b.cN hi o2 o3) (o':={(act S i).bC with J:=3,t:=s.mem (.top i)}) (by
  rw[bg rfl];unfold eZ;rw[gl o2,bg o2])
 unfold Am.aH;rw[hp];simp only;exact .mk b hi (tw b hi a2 (by show Am.sig (s.pc i)=_;rw[hp];rfl) hs o1 (by show(3:Int)≠0;decide)) w1 w2 rfl ⟨a1,a2,⟨o1,rfl,o3,o4⟩,a3,a4,rfl⟩ (b.MT rfl (by rw[hp];rfl) _ _ _ _ _) (Lg.nt rfl) trivial
theorem PS{c:Nat}{bb t:Int}(hp:s.pc i= .oF c bb t):ox C p sz n M (Am.aH C s i d) (cz S M (i:Int) D):=by
 obtain⟨w1,w2,w3⟩:=b.oR.wk i hi;rw[hp]at w3;obtain⟨a1,a2,⟨o1,o2,o3,o4⟩,a3,a4,a5⟩:=w3;have hs:=vG o1 o2 gB gB (Rl b.ar b.z b.cN hi o2 o3) (o':={(act S i).bC with J:=4,a:=s.mem (.buf i)}) (by
  rw[bg rfl];unfold eZ;rw[gl o2,gl o2,bg o2])
 unfold Am.aH;rw[hp];simp only;exact .mk b hi (tw b hi a2 (by show Am.sig (s.pc i)=_;rw[hp];rfl) hs o1 (by show(4:Int)≠0;decide)) w1 w2 rfl ⟨a1,a2,⟨o1,rfl,o3,o4⟩,a3,a4,a5,(b.dt.1 i hi).HJ⟩ (b.MT rfl (by rw[hp];rfl) _ _ _ _ _) (Lg.nt rfl) trivial
end
end
theorem Ye{o:cu}{v:Int}(ha:o.J=4)(h1:1<=v)(h2:v<=4096)(hb:-4000000000000<=o.b-o.t/\o.b-o.t<=4000000000000):eZ o v=if o.b-o.t<v then some {o with J:=10,c:=v}else if o.pq<=v then some {o with J:=0,c:=v,code:=3,value:=0}
 else some {o with J:=5,c:=v,c2:=if o.pq<2*v then o.pq else 2*v}:=by
 unfold eZ fy;rw[gl ha,gl ha,gl ha,bg ha,ez,fh (x:=o.b-o.t) I,fh (x:=2*v) I];rfl
theorem Yf{o:cu}{v:Int}(ha:o.J=8)(hb:-4000000000000<=o.i/\o.i<=4000000000000):eZ o v=if o.i+1=o.b then some {o with J:=9,i:=o.i+1}else some {o with J:=7,i:=o.i+1}:=by
 unfold eZ;rw[gl ha,gl ha,gl ha,gl ha,gl ha,gl ha,gl ha,bg ha,fh (x:=o.i+1) I]
section
variable {K:Nat}{C:Am.jv}{p:aE}{s:Am.St}{S:ag}{M:af}{sz n i:Nat}{D:aY}{d:Int}
variable (b:xx C p s S M sz n)(hi:i<C.N)
include b hi
theorem ZU:s.mem (.cap i (s.cur i))=Am.uG C (s.cur i)/\(1:Int)<=s.mem (.cap i (s.cur i))/\s.mem (.cap i (s.cur i))<=C.most/\(C.most:Int)<=4096:=by
 have h:=Am.Gy b.z hi;have h1:=Am.H8 b.ok (s.cur i);have h2:=Am.PK b.ok (s.cur i);have h3:=b.ok.m4;change s.mem (.cap i (s.cur i))=_ at h;omega
theorem SW{c:Nat}(hc:(act S i).bW=c)(hg:(Am.view s).g i= .push c){o':cu}{M':af}(h1:hO M (act S i).bC=some (o',M'))(h2:o'.kind=1)(h3:o'.J=0)(h4:o'.code=3) :
 cz S M (i:Int) D=some (Mw (Am.ev 11 c 1 0),ku S i {{act S i with bC:=o' }with aO:=14},M'):=by
 have hin:bJ (act S i).bW S.aM.length:=by rw[hc];exact b.task (Jw b hi hg)
 have hw:=b.wl hi;unfold cz eu nM aq;rw[di,bg hin,lO,bg hin,Dv h1 (X7 (by rw[h2];decide) h3),kW,h4,cQ gB,bg rfl,bg (by rw[sE];exact b.Kx hi)];rw[show J (ku S i {act S i with bC:=o' }).aj i={act S i with bC:=o' }from vl hw];show some (_,ku (ku S i _) i _,_)=_;rw[VJ];show some ((⟨0,0,11,(act S i).bW,1,0⟩:ak),_,_)=_;rw[hc];rfl
theorem PT{c:Nat}{bb t:Int}(hp:s.pc i= .oG c bb t):ox C p sz n M (Am.aH C s i d) (cz S M (i:Int) D):=by
 obtain⟨w1,w2,w3⟩:=b.oR.wk i hi;rw[hp]at w3;obtain⟨a1,a2,⟨o1,o2,o3,o4⟩,a3,a4,a5,a6⟩:=w3;obtain⟨c0,c1,c2,c3⟩:=ZU b hi;have r1:=b.Ok (i:=i) (x:=bb) (by rw[hp];simp[Am.gX]);have r2:=b.Ok (i:=i) (x:=t) (by rw[hp];simp[Am.gX]);have hg:(Am.view s).g i= .push c:=by show Am.sig (s.pc i)=_;rw[hp];rfl
 have hs:∀o',eZ (act S i).bC (s.mem (.cap i (s.cur i)))=some o'->_:=λo' h=>vG o1 o2 gB gB (Rm b.ar b.z b.cN hi (GB s i) o2 a6) (o':=o') (by rw[bg rfl];exact h);have e0:=Ye o2 (v:=s.mem (.cap i (s.cur i))) c1 I (by rw[a4,a5];omega);unfold Am.aH;rw[hp];simp only;by_cases h1:bb-t<s.mem (.cap i (s.cur i))
 ·rw[bg h1];rw[bg (by rw[a4,a5];exact h1)]at e0;exact .mk b hi (tw b hi a2 hg (hs _ e0) o1 (by show(10:Int)≠0;decide)) w1 w2 rfl ⟨a1,a2,⟨o1,rfl,o3,o4⟩,a3,a4,a6,rfl⟩ (b.MT rfl (by rw[hp];rfl) _ _ _ _ _) (Lg.nt rfl) trivial
 ·rw[cQ h1];rw[cQ (by rw[a4,a5];exact h1)]at e0;by_cases h2:(C.most:Int)<=s.mem (.cap i (s.cur i))
  ·rw[bg h2];rw[bg (by rw[o4];exact h2)]at e0;exact .mk b hi (SW b hi a2 hg (hs _ e0) o1 rfl rfl) w1 w2 rfl rfl (b.MT rfl (by rw[hp];rfl) _ _ _ _ _) (Lg.nt rfl) (by show(11:Nat)≠0;decide)
  ·rw[cQ h2];rw[cQ (by rw[o4];exact h2)]at e0;refine .mk b hi (tw b hi a2 hg (hs _ e0) o1 (by show(5:Int)≠0;decide)) w1 w2 rfl ⟨a1,a2,⟨o1,rfl,o3,o4⟩,a3,a4,a5,a6,rfl,?_⟩ (b.MT rfl (by rw[hp];rfl) _ _ _ _ _) (Lg.nt rfl) trivial;show(if(act S i).bC.pq<_ then(act S i).bC.pq else _)=_;rw[o4];unfold Am.jb;split<;>split<;>omega
theorem My{c:Nat}{bb t cc:Int}(h:Am.EB C s i bb t cc):cc=Am.uG C (s.cur i)/\Am.jb C cc=Am.uG C (s.cur i+1)/\(1:Int)<=Am.jb C cc/\Am.jb C cc<=4096:=by
 have e:=h.2.2.2.2.1;rw[Am.Gy b.z hi]at e;have h1:=Am.H8 b.ok (s.cur i+1);have h2:=Am.PK b.ok (s.cur i+1);have h3:=b.ok.m4;refine⟨e,by rw[e];exact Am.BR C _,?_,?_⟩<;>rw[e,Am.BR C]<;>omega
theorem Yg{c:Nat}{bb t cc:Int}(hp:s.pc i= .grow c bb t cc):ox C p sz n M (Am.aH C s i d) (cz S M (i:Int) D):=by
 obtain⟨w1,w2,w3⟩:=b.oR.wk i hi;rw[hp]at w3;obtain⟨a1,a2,⟨o1,o2,o3,o4⟩,a3,a4,a5,a6,a7,a8⟩:=w3;have P:=(b.dt.1 i hi).ph;unfold Am.rJ at P;rw[hp]at P;simp only at P;obtain⟨g1,g2,g3,g4⟩:=My b hi (c:=c) P;have hg:(Am.view s).g i= .push c:=by show Am.sig (s.pc i)=_;rw[hp];rfl
 have PU:Am.gen s i=s.cur i:=by unfold Am.gen;rw[hp];rfl
 obtain⟨agc,q1,q2⟩:=b.room;have R5:=b.z.aH b.ok b.dt hi d;have hsz:=On R5 q1 q2;have hlen:=b.ar.cl.len;have hss:(Am.aH C s i d).s.size=s.size+1+Am.uG C (s.cur i+1):=by unfold Am.aH;rw[hp];show s.size+1+Am.jb C cc=_;rw[g2]
 have hs:=vG o1 o2 gB gB (X8 (k:=Am.uG C (s.cur i+1)) b.ar b.cN o2 (by rw[a8];exact g2) I) (o':={(act S i).bC with J:=6,a2:=s.size}) (by
  rw[bg rfl];unfold eZ;rw[gl o2,gl o2,gl o2,gl o2,bg o2])
 have hgs:Am.gen (Am.aH C s i d).s=Am.ck (Am.gen s) i (s.cur i+1):=by
  unfold Am.aH;rw[hp];simp only
  funext j;rw[Am.cG];unfold Am.gen;simp only[Am.St.to,Am.cG]
  split
  ·next e=>subst e;rfl
  ·rfl
 have W4:=b.ar.cl.grow (s':=(Am.aH C s i d).s) b.z hi PU (λa=>by unfold Am.aH;rw[hp];cases a<;>rfl) hss (by unfold Am.aH;rw[hp];rfl) hgs;have hbs:(Am.aH C s i d).s.base=Am.ck s.base i (Am.ck (s.base i) (s.cur i+1) s.size):=by unfold Am.aH;rw[hp];rfl
 have har:AR C (Am.aH C s i d).s {nt M (M.cell++List.replicate (1+Am.uG C (s.cur i+1)) 0) 4 s.size ((1+Am.uG C (s.cur i+1):Nat):Int) 0 true with fo:=s.size+((1+Am.uG C (s.cur i+1):Nat):Int)} sz (n+1):=by
  refine⟨b.ar.size,b.ar.s1,hsz,?_,W4,?_⟩
  ·show s.size+((1+Am.uG C (s.cur i+1):Nat):Int)=(((M.cell++List.replicate _ 0).length:Nat):Int);rw[jM,od];omega
  ·have:=b.ar.lg;show(if M.watched=true then M.log++[_]else M.log).length<=_;split
   ·rw[jM];simp;omega
   ·omega
 have PR:Lg C (Am.aH C s i d).s M {nt M (M.cell++List.replicate (1+Am.uG C (s.cur i+1)) 0) 4 s.size ((1+Am.uG C (s.cur i+1):Nat):Int) 0 true with fo:=s.size+((1+Am.uG C (s.cur i+1):Nat):Int)} (Am.aaV (.cap i (s.cur i+1)) (1+Am.jb C cc)):=by
  have pl:Am.cS C (Am.aH C s i d).s (.cap i (s.cur i+1))=s.size:=by show(Am.aH C s i d).s.base i (s.cur i+1)=_;rw[hbs,Am.aC,Am.aC]
  have e:((1+Am.uG C (s.cur i+1):Nat):Int)=1+Am.jb C cc:=by rw[g2];omega
  rw[e];exact Lg.nt (M:=M) (c:=M.cell++List.replicate (1+Am.uG C (s.cur i+1)) 0) pl
 have hb:∀j g,(j≠i∨g<=s.cur i)->(Am.aH C s i d).s.base j g=s.base j g:=λj g h=>by
  rw[hbs,Am.cG];split
  ·next e=>subst e;rw[Am.aA I]
  ·rfl
 have acz:(Am.aH C s i d).s.cur=s.cur:=by unfold Am.aH;rw[hp];rfl
 have hpc:(Am.aH C s i d).s.pc=Am.ck s.pc i (.lY c bb t cc):=by unfold Am.aH;rw[hp];rfl
 have Rn:(Am.aH C s i d).ev=none:=by unfold Am.aH;rw[hp]
 have hac:(Am.aH C s i d).acc=Am.aaV (.cap i (s.cur i+1)) (1+Am.jb C cc):=by unfold Am.aH;rw[hp]
 refine ox.mk (a:={act S i with bC:={(act S i).bC with J:=6,a2:=s.size}}) b hi (by rw[Rn];exact tw b hi a2 hg hs o1 (by show(6:Int)≠0;decide)) w1 (by show(act S i).az=_;rw[w2];unfold Am.aH;rw[hp];rfl) hpc ?_ har (by rw[hac];exact PR) (by rw[Rn];trivial)
  (by unfold Am.aH;rw[hp];intros;rfl) (by unfold Am.aH;rw[hp];intros;rfl) (λj _=>by rw[acz]) hb (by unfold Am.aH;rw[hp];rfl) (by unfold Am.aH;rw[hp];rfl) (by unfold Am.aH;rw[hp];rfl)
 rw[acz];refine⟨a1,a2,⟨o1,rfl,o3,o4⟩,a3,a4,a5,?_,a7,a8,?_⟩
 ·rw[hb i (s.cur i) (.inr (gQ _))];exact a6
 ·show s.size=_;rw[hbs,Am.aC,Am.aC]
theorem PV{c:Nat}{bb t cc:Int}(hp:s.pc i= .lY c bb t cc):ox C p sz n M (Am.aH C s i d) (cz S M (i:Int) D):=by
 obtain⟨w1,w2,w3⟩:=b.oR.wk i hi;rw[hp]at w3;obtain⟨a1,a2,⟨o1,o2,o3,o4⟩,a3,a4,a5,a6,a7,a8,a9⟩:=w3;have hg:(Am.view s).g i= .push c:=by show Am.sig (s.pc i)=_;rw[hp];rfl
 have PU:s.cur i+1<=Am.gen s i:=by unfold Am.gen;rw[hp];exact gQ _
 have hs:=vG o1 o2 gB gB (PN b.ar b.z b.cN hi PU o2 a9) (o':={(act S i).bC with J:=7,i:=(act S i).bC.t}) (by
  rw[bg rfl];unfold eZ;rw[gl o2,gl o2,gl o2,gl o2,gl o2,bg o2])
 rw[a8]at hs;unfold Am.aH;rw[hp];simp only;exact .mk b hi (tw b hi a2 hg hs o1 (by show(7:Int)≠0;decide)) w1 w2 rfl ⟨a1,a2,⟨o1,rfl,o3,o4⟩,a3,a4,a5,a6,a7,a8,a9,a5⟩ (b.Ia (c:=.cap i (s.cur i+1)) rfl (by rw[hp];rfl) ⟨hi,PU⟩ _ _ _ _ _) (Lg.nt rfl) trivial
theorem Oo{c:Nat}{bb t cc m:Int}(hp:s.pc i= .js c bb t cc m):ox C p sz n M (Am.aH C s i d) (cz S M (i:Int) D):=by
 obtain⟨w1,w2,w3⟩:=b.oR.wk i hi;rw[hp]at w3;obtain⟨a1,a2,⟨o1,o2,o3,o4⟩,a3,a4,a5,a6,a7,a8,a9,W6⟩:=w3;have P:=(b.dt.1 i hi).ph;unfold Am.rJ at P;rw[hp]at P;simp only at P;obtain⟨g1,g2,g3,g4⟩:=My b hi (c:=c) P.1;have r1:=b.Ok (i:=i) (x:=m) (by rw[hp];simp[Am.gX]);have hg:(Am.view s).g i= .push c:=by show Am.sig (s.pc i)=_;rw[hp];rfl
 have hs:=vG o1 o2 gB gB (X9 b.ar b.z b.ok b.cN hi (GB s i) o2 a6 (by rw[a7];exact g1) (by rw[W6];exact r1)) (o':={(act S i).bC with J:=8,x:=s.mem (.el i (s.cur i) (Am.ix (act S i).bC.i (act S i).bC.c))}) (by
  rw[bg rfl];unfold eZ;rw[gl o2,gl o2,gl o2,gl o2,gl o2,gl o2,bg o2])
 rw[a7,W6]at hs;unfold Am.aH;rw[hp];simp only;exact .mk b hi (tw b hi a2 hg hs o1 (by show(8:Int)≠0;decide)) w1 w2 rfl ⟨a1,a2,⟨o1,rfl,o3,o4⟩,a3,a4,a5,a6,a7,a8,a9,W6,rfl⟩ (b.MT rfl (by rw[hp];rfl) _ _ _ _ _) (Lg.nt rfl) trivial
theorem Mz{c:Nat}{bb t cc m x:Int}(hp:s.pc i= .iZ c bb t cc m x):ox C p sz n M (Am.aH C s i d) (cz S M (i:Int) D):=by
 obtain⟨w1,w2,w3⟩:=b.oR.wk i hi;rw[hp]at w3;obtain⟨a1,a2,⟨o1,o2,o3,o4⟩,a3,a4,a5,a6,a7,a8,a9,W6,a11⟩:=w3;have P:=(b.dt.1 i hi).ph;unfold Am.rJ at P;rw[hp]at P;simp only at P;obtain⟨g1,g2,g3,g4⟩:=My b hi (c:=c) P.1;have r1:=b.Ok (i:=i) (x:=m) (by rw[hp];simp[Am.gX]);have hg:(Am.view s).g i= .push c:=by show Am.sig (s.pc i)=_;rw[hp];rfl
 have PU:s.cur i+1<=Am.gen s i:=by unfold Am.gen;rw[hp];exact gQ _
 have hac:=Ya b.ar b.z b.ok b.cN hi PU o2 a9 (by rw[a8];exact g2) (by rw[W6];exact r1);rw[a8,W6,a11]at hac;have hv:=(Du (x:=m) b.ar b.z b.ok hi PU g2 r1).2;have e0:=Yf o2 (v:=0) (by rw[W6];omega);have hlt:=P.2.2.2.1;unfold Am.aH;rw[hp];simp only;by_cases e:m+1<bb
 ·rw[bg e];rw[cQ (by rw[W6,a4];omega)]at e0;have hs:=vG o1 o2 gB gB hac (o':=_) (by rw[bg rfl];exact e0);exact .mk b hi (tw b hi a2 hg hs o1 (by show(7:Int)≠0;decide)) w1 w2 rfl ⟨a1,a2,⟨o1,rfl,o3,o4⟩,a3,a4,a5,a6,a7,a8,a9,by rw[<-W6]⟩ (b.Ia (c:=.el i (s.cur i+1) (Am.ix m (Am.jb C cc))) rfl (by rw[hp];rfl) hv _ _ _ _ _) (Lg.nt rfl) trivial
 ·rw[cQ e];rw[bg (by rw[W6,a4];omega)]at e0;have hs:=vG o1 o2 gB gB hac (o':=_) (by rw[bg rfl];exact e0);exact .mk b hi (tw b hi a2 hg hs o1 (by show(9:Int)≠0;decide)) w1 w2 rfl ⟨a1,a2,⟨o1,rfl,o3,o4⟩,a3,a4,a8,a9⟩ (b.Ia (c:=.el i (s.cur i+1) (Am.ix m (Am.jb C cc))) rfl (by rw[hp];rfl) hv _ _ _ _ _) (Lg.nt rfl) trivial
theorem PW{c:Nat}{bb t cc:Int}(hp:s.pc i= .lD c bb t cc):ox C p sz n M (Am.aH C s i d) (cz S M (i:Int) D):=by
 obtain⟨w1,w2,w3⟩:=b.oR.wk i hi;rw[hp]at w3;obtain⟨a1,a2,⟨o1,o2,o3,o4⟩,a3,a4,a8,a9⟩:=w3;have hg:(Am.view s).g i= .push c:=by show Am.sig (s.pc i)=_;rw[hp];rfl
 have hs:=vG o1 o2 gB gB (PO b.ar b.z b.cN hi o2 o3) (o':={(act S i).bC with J:=10,a:=(act S i).bC.a2,c:=(act S i).bC.c2}) (by
  rw[bg rfl];unfold eZ;rw[gl o2,gl o2,gl o2,gl o2,gl o2,gl o2,gl o2,gl o2,bg o2])
 unfold Am.aH;rw[hp];simp only;have hcu:Am.ck s.cur i (s.cur i+1) i=s.cur i+1:=Am.aC _ _ _;refine .mk b hi (tw b hi a2 hg hs o1 (by show(10:Int)≠0;decide)) w1 w2 (q:=.ja c bb (Am.jb C cc)) rfl ?_ ?_ ?_ trivial (hc:=λj hj=>Am.aA hj)
 ·show ph C i _ _ (Am.ck s.cur i (s.cur i+1) i) _ _;rw[hcu];exact⟨a1,a2,⟨o1,rfl,o3,o4⟩,a3,a4,a9,a8⟩
 ·rw[a9];refine b.ar.set (s':=({s.wr (.buf i) (s.base i (s.cur i+1))with cur:=Am.ck s.cur i (s.cur i+1)}:Am.St).to i (.ja c bb (Am.jb C cc))) b.z (b:=.buf i) (v:=s.base i (s.cur i+1)) hi rfl rfl rfl ?_ _ _ _ _ _
  funext j;unfold Am.gen;simp only[Am.St.to,Am.St.wr,Am.cG]
  split
  ·next e=>subst e;rw[hp];rfl
  ·rfl
 ·rw[a9];exact Lg.nt rfl
theorem Oq{c:Nat}{bb cc:Int}(hp:s.pc i= .ja c bb cc):ox C p sz n M (Am.aH C s i d) (cz S M (i:Int) D):=by
 obtain⟨w1,w2,w3⟩:=b.oR.wk i hi;rw[hp]at w3;obtain⟨a1,a2,⟨o1,o2,o3,o4⟩,a3,a4,a6,a7⟩:=w3;have P:=(b.dt.1 i hi).ph;unfold Am.rJ at P;rw[hp]at P;simp only at P;have WM:cc=Am.uG C (s.cur i):=P.2.2.2.trans (Am.Gy b.z hi);have r1:=b.Ok (i:=i) (x:=bb) (by rw[hp];simp[Am.gX]);have hg:(Am.view s).g i= .push c:=by show Am.sig (s.pc i)=_;rw[hp];rfl
 have hv:=(Du (x:=bb) b.ar b.z b.ok hi (GB s i) WM r1).2;have hs:=vG o1 o2 gB gB (Yb b.ar b.z b.ok b.cN hi (GB s i) o2 a6 (by rw[a7];exact WM) (by rw[a4];exact r1)) (o':={(act S i).bC with J:=11}) (by
  rw[bg rfl];unfold eZ;rw[gl o2,gl o2,gl o2,gl o2,gl o2,gl o2,gl o2,gl o2,gl o2,bg o2])
 rw[a7,a4,a3]at hs;unfold Am.aH;rw[hp];simp only;exact .mk b hi (tw b hi a2 hg hs o1 (by show(11:Int)≠0;decide)) w1 w2 rfl ⟨a1,a2,⟨o1,rfl,o3,o4⟩,a4⟩ (b.Ia (c:=.el i (s.cur i) (Am.ix bb cc)) rfl (by rw[hp];rfl) hv _ _ _ _ _) (Lg.nt rfl) trivial
end
theorem acA{o:cu}(hk:o.kind=1)(hb:-4000000000000<=o.b/\o.b<=4000000000000):lR o=some (o.b+1):=by
 unfold lR;rw[bg hk,fh I]
theorem acB{o:cu}(hk:o.kind=2)(hi:o.i=0):lR o=some o.b:=by
 unfold lR;rw[gl hk,bg hi]
theorem acC{o:cu}(hk:o.kind=2)(hi:o.i=1)(h:o.t<=o.b)(hb:-4000000000000<=o.t/\o.t<=4000000000000):lR o=some (o.t+1):=by
 unfold lR;rw[gl hk,gl hi,ez,fh I]
section
variable {o:cu}{v:Int}
theorem acD(ha:o.J=1)(hv:-4000000000000<=v/\v<=4000000000000):fa o v=some {o with J:=3,b:=v-1}:=by
 unfold fa;rw[bg ha,fh I]
theorem acE(ha:o.J=3):fa o v=some {o with J:=11,a:=v}:=by
 unfold fa;rw[gl ha,bg ha]
theorem VO(ha:o.J=11):fa o v=if o.i=0 then some {o with J:=2}else if o.Bi=true then some {o with J:=0,code:=4,value:=o.x}else some {o with J:=0,code:=5,value:=0}:=by
 unfold fa fy;rw[gl ha,gl ha,bg ha];rfl
theorem acF(ha:o.J=2):fa o v=if v>o.b then some {o with J:=11,t:=v,i:=1}else some {o with J:=4,t:=v,i:=1}:=by
 unfold fa;rw[gl ha,gl ha,gl ha,bg ha]
theorem acG(ha:o.J=4)(hv:1<=v):fa o v=some {o with J:=12,c:=v}:=by
 unfold fa;rw[gl ha,gl ha,gl ha,gl ha,bg ha,ez]
theorem aa1(ha:o.J=12):fa o v=if o.t<o.b then some {o with J:=0,x:=v,code:=4,value:=v}else some {o with J:=13,x:=v}:=by
 unfold fa fy;rw[gl ha,gl ha,gl ha,gl ha,gl ha,bg ha];rfl
theorem aa2(ha:o.J=13):fa o v=some {o with J:=11,Bi:=v==1}:=by
 unfold fa;rw[gl ha,gl ha,gl ha,gl ha,gl ha,gl ha,bg ha]
end
section
variable {K:Nat}{C:Am.jv}{p:aE}{s:Am.St}{S:ag}{M M':af}{sz n i:Nat}{D:aY}{d:Int}{o':cu}
theorem xx.Yh(b:xx C p s S M sz n)(hi:i<C.N):wS (⟨S.gE,S.dV⟩:gw) (i:Int)=some (⟨2+10*(C.F:Int),C.N,i,2,8,1,0,0,0,List.replicate 64 ⟨0,0⟩,⟨0,0,0,0,0,0,0,0,0,0,0,0,0,false,0,0⟩⟩:ct):=by
 have h1:=b.ok.n1;have h2:=b.ok.n64;unfold wS oM pY cH bT;rw[b.oR.lb,b.oR.lw];simp only;rw[ez,ez,ax,fh (x:=2+(C.N:Int)) I,rD,rD,uT I,ax,bg rfl]
def acH(C:Am.jv)(i:Nat):ct:=⟨2+10*(C.F:Int),C.N,i,2,8,1,0,0,0,List.replicate 64 ⟨0,0⟩,⟨0,0,0,0,0,0,0,0,0,0,0,0,0,false,0,0⟩⟩
variable (b:xx C p s S M sz n)(hi:i<C.N)
include b hi
theorem SX{c:Nat}(hc:(act S i).bW=c)(hg:(Am.view s).g i= .push c)(h1:hO M (act S i).bC=some (o',M'))(h2:o'.kind=1)(h3:o'.J=0)(h4:o'.code=2){f:Nat}(hf:(act S i).az=f) :
 cz S M (i:Int) D=some (Mw (Am.ev 2 c f (s.fr c).mN),ku S i {act S i with bC:=o',eJ:=acH C i,aO:=4},M'):=by
 have hcn:=Jw b hi hg;have hin:bJ (act S i).bW S.aM.length:=by rw[hc];exact b.task hcn
 have hw:=b.wl hi;have Ir:=(b.oR.wk i hi).self;have ht:=(b.oR.tk c hcn).mN;have hwk:=b.Yh hi;unfold cz eu nM aq;rw[di,bg hin,lO,bg hin,Dv h1 (X7 (by rw[h2];decide) h3),kW,h4,cQ gB,cQ gB,bg rfl,bg (by rw[sE];exact b.Kx hi)];rw[show J (ku S i {act S i with bC:=o' }).aj i={act S i with bC:=o' }from vl hw];have aeF:wS (⟨S.gE,S.dV⟩:gw) (act S i).bB=some (acH C i):=by rw[show(act S i).bB=i from Ir];exact hwk
 show dX (wS (⟨S.gE,S.dV⟩:gw) (act S i).bB) _=_;rw[aeF,ax];show some ((⟨0,0,2,(act S i).bW,(act S i).az,(J S.aM (act S i).bW.toNat).mN⟩:ak),({S with aj:=((S.aj.set i _).set i _).set i _}:ag),M')=_;rw[nE,nE,hf,hc,di,ht];rfl
theorem PX{c:Nat}{bb:Int}(hp:s.pc i= .nC c bb):ox C p sz n M (Am.aH C s i d) (cz S M (i:Int) D):=by
 obtain⟨w1,w2,w3⟩:=b.oR.wk i hi;rw[hp]at w3;obtain⟨a1,a2,⟨o1,o2,o3,o4⟩,a4⟩:=w3;have r1:=b.Ok (i:=i) (x:=bb) (by rw[hp];simp[Am.gX]);have hg:(Am.view s).g i= .push c:=by show Am.sig (s.pc i)=_;rw[hp];rfl
 obtain⟨f,hh⟩:=Am.ry b.fi hi (by rw[hp];rfl);have hac:=EE b.ar b.z b.cN hi o2 o3 (acA o1 (by rw[a4];omega));rw[a4]at hac;have hs:=vG o1 o2 gB gB hac (o':={(act S i).bC with J:=0,code:=2,value:=0}) (by
  rw[bg rfl];unfold eZ fy;rw[gl o2,gl o2,gl o2,gl o2,gl o2,gl o2,gl o2,gl o2,gl o2,gl o2,bg o2];rfl)
 unfold Am.aH;rw[hp];simp only[hh,pG];exact .mk b hi (SX b hi a2 hg hs o1 rfl rfl (f:=f) (by rw[show(act S i).az=fi (s.hold i)from w2,hh];rfl)) w1 w2 rfl ⟨rfl,rfl,rfl,rfl,rfl,rfl,rfl⟩ (b.Ia (c:=.bot i) rfl (by rw[hp];rfl) hi _ _ _ _ _) (Lg.nt rfl) (by show(2:Nat)≠0;decide)
theorem wZ(h1:hO M (act S i).bC=some (o',M'))(h2:o'.kind=2)(h3:o'.J≠0):dc S M (i:Int) D=some (Mw none,ku S i {act S i with bC:=o' },M'):=by
 unfold dc nM aq;rw[Dv h1 (ZS (by rw[h2];decide) h3),kW,bg rfl];rfl
theorem Ro(h1:hO M (act S i).bC=some (o',M'))(h2:o'.kind=2)(h3:o'.J=0)(h4:o'.code=4) :
 dc S M (i:Int) D=some (Mw none,ku S i {act S i with bC:=o',az:=o'.value,from_:=-1,aO:=0},M'):=by
 have hw:=b.wl hi;unfold dc nM aq;rw[Dv h1 (X7 (by rw[h2];decide) h3),kW,h4,cQ gB,bg rfl,bg (by rw[sE];exact b.Kx hi),di];rw[show J (ku S i {act S i with bC:=o' }).aj i={act S i with bC:=o' }from vl hw];show some (_,({S with aj:=(((S.aj.set i _).set i _).set i _).set i _}:ag),M')=_;rw[nE,nE,nE];rfl
theorem pop_empty(h1:hO M (act S i).bC=some (o',M'))(h2:o'.kind=2)(h3:o'.J=0)(h4:o'.code=5) :
 dc S M (i:Int) D=some (Mw none,ku S i {act S i with bC:=o',iE:=0,aO:=9},M'):=by
 have hw:=b.wl hi;unfold dc nM aq;rw[Dv h1 (X7 (by rw[h2];decide) h3),kW,h4,cQ gB,cQ gB,bg rfl,bg (by rw[sE];exact b.Kx hi),di];rw[show J (ku S i {act S i with bC:=o' }).aj i={act S i with bC:=o' }from vl hw];show some (_,({S with aj:=((S.aj.set i _).set i _).set i _}:ag),M')=_;rw[nE,nE];rfl
theorem Yi(hp:s.pc i= .Ae):ox C p sz n M (Am.aH C s i d) (dc S M (i:Int) D):=by
 obtain⟨w1,w2,w3⟩:=b.oR.wk i hi;rw[hp]at w3;obtain⟨a1,⟨o1,o2,o3,o4⟩,a3,a4⟩:=w3;have r:=b.SS (a:=.bot i) rfl;have hs:=vG o1 o2 gB gB (Rj b.ar b.z b.cN hi o2 o3) (by rw[cQ gB,bg rfl];exact acD o2 I);unfold Am.aH;rw[hp];simp only;exact .mk b hi (wZ b hi hs o1 (by show(3:Int)≠0;decide)) w1 w2 rfl ⟨a1,⟨o1,rfl,o3,o4⟩,a3,a4,rfl⟩ (b.MT rfl (by rw[hp];rfl) _ _ _ _ _) (Lg.nt rfl) trivial
theorem SY{bb:Int}(hp:s.pc i= .uL bb):ox C p sz n M (Am.aH C s i d) (dc S M (i:Int) D):=by
 obtain⟨w1,w2,w3⟩:=b.oR.wk i hi;rw[hp]at w3;obtain⟨a1,⟨o1,o2,o3,o4⟩,a3,a4,a5⟩:=w3;have hs:=vG o1 o2 gB gB (Rl b.ar b.z b.cN hi o2 o3) (by rw[cQ gB,bg rfl];exact acE o2);unfold Am.aH;rw[hp];simp only;exact .mk b hi (wZ b hi hs o1 (by show(11:Int)≠0;decide)) w1 w2 rfl ⟨a1,⟨o1,rfl,o3,o4⟩,a3,a4,a5,(b.dt.1 i hi).HJ⟩ (b.MT rfl (by rw[hp];rfl) _ _ _ _ _) (Lg.nt rfl) trivial
theorem Ot{bb:Int}(hp:s.pc i= .oh bb):ox C p sz n M (Am.aH C s i d) (dc S M (i:Int) D):=by
 obtain⟨w1,w2,w3⟩:=b.oR.wk i hi;rw[hp]at w3;obtain⟨a1,⟨o1,o2,o3,o4⟩,a3,a4,a5,a6⟩:=w3;have hac:=EE b.ar b.z b.cN hi o2 o3 (acB o1 a3);rw[a5]at hac;have hs:=vG o1 o2 gB gB hac (by rw[cQ gB,bg rfl,VO o2,bg a3]);unfold Am.aH;rw[hp];simp only;exact .mk b hi (wZ b hi hs o1 (by show(2:Int)≠0;decide)) w1 w2 rfl ⟨a1,⟨o1,rfl,o3,o4⟩,a5,a6,a4⟩ (b.Ia (c:=.bot i) rfl (by rw[hp];rfl) hi _ _ _ _ _) (Lg.nt rfl) trivial
theorem Yj{bb:Int}(hp:s.pc i= .zi bb):ox C p sz n M (Am.aH C s i d) (dc S M (i:Int) D):=by
 obtain⟨w1,w2,w3⟩:=b.oR.wk i hi;rw[hp]at w3;obtain⟨a1,⟨o1,o2,o3,o4⟩,a5,a6,a4⟩:=w3;have hac:=Rk b.ar b.z b.cN hi o2 o3;have hs:=λo' h=>vG o1 o2 gB gB hac (o':=o') (by rw[cQ gB,bg rfl];exact h);have e:=acF o2 (v:=s.mem (.top i));unfold Am.aH;rw[hp];simp only;by_cases h1:s.mem (.top i)<bb
 ·rw[bg h1];rw[cQ (by rw[a5];omega)]at e;exact .mk b hi (wZ b hi (hs _ e) o1 (by show(4:Int)≠0;decide)) w1 w2 rfl ⟨a1,⟨o1,rfl,o3,o4⟩,rfl,a5,rfl,a6⟩ (b.MT rfl (by rw[hp];rfl) _ _ _ _ _) (Lg.nt rfl) trivial
 ·rw[cQ h1];by_cases h2:s.mem (.top i)=bb
  ·rw[bg h2];rw[cQ (by rw[a5];omega)]at e;exact .mk b hi (wZ b hi (hs _ e) o1 (by show(4:Int)≠0;decide)) w1 w2 rfl ⟨a1,⟨o1,rfl,o3,o4⟩,rfl,a5,rfl,a6⟩ (b.MT rfl (by rw[hp];rfl) _ _ _ _ _) (Lg.nt rfl) trivial
  ·rw[cQ h2];rw[bg (by rw[a5];omega)]at e;exact .mk b hi (wZ b hi (hs _ e) o1 (by show(11:Int)≠0;decide)) w1 w2 rfl ⟨a1,⟨o1,rfl,o3,o4⟩,rfl,rfl,by show(act S i).bC.b<_;rw[show(act S i).bC.b=bb from a5];omega,a4⟩ (b.MT rfl (by rw[hp];rfl) _ _ _ _ _) (Lg.nt rfl) trivial
theorem Yk{tr cj:Nat}{bs:Nat->Nat->Int}{a:bK}(h1:a.aO=9)(h2:a.iE=0)(h3:tr=0):ph C i (if C.N=1 then .flag else .lS) tr cj bs a:=by
 by_cases e:C.N=1
 ·rw[bg e];exact .inl ⟨h1,e⟩
 ·rw[cQ e];exact⟨h1,by rw[h2,h3];rfl,I⟩
theorem Yl{q:Am.Pc}(h:Am.lZ q=false):Am.lZ (if C.N=1 then .flag else .lS)=Am.lZ q:=by rw[h];split<;>rfl
theorem S2{bb t:Int}(hp:s.pc i= .sD bb t):ox C p sz n M (Am.aH C s i d) (dc S M (i:Int) D):=by
 obtain⟨w1,w2,w3⟩:=b.oR.wk i hi;rw[hp]at w3;obtain⟨a1,⟨o1,o2,o3,o4⟩,a3,a4,a5,a6⟩:=w3;obtain⟨c0,c1,c2,c3⟩:=ZU b hi;have hs:=vG o1 o2 gB gB (Rm b.ar b.z b.cN hi (GB s i) o2 a6) (by rw[cQ gB,bg rfl];exact acG o2 c1);unfold Am.aH;rw[hp];simp only;exact .mk b hi (wZ b hi hs o1 (by show(12:Int)≠0;decide)) w1 w2 rfl ⟨a1,⟨o1,rfl,o3,o4⟩,a3,a4,a5,a6,rfl⟩ (b.MT rfl (by rw[hp];rfl) _ _ _ _ _) (Lg.nt rfl) trivial
theorem PY{bb t cc:Int}(hp:s.pc i= .nD bb t cc):ox C p sz n M (Am.aH C s i d) (dc S M (i:Int) D):=by
 obtain⟨w1,w2,w3⟩:=b.oR.wk i hi;rw[hp]at w3;obtain⟨a1,⟨o1,o2,o3,o4⟩,a3,a4,a5,a6,a7⟩:=w3;have P:=(b.dt.1 i hi).ph;unfold Am.rJ at P;rw[hp]at P;simp only at P;have WM:cc=Am.uG C (s.cur i):=P.2.trans (Am.Gy b.z hi);have r1:=b.Ok (i:=i) (x:=bb) (by rw[hp];simp[Am.gX]);have hac:=VH (x:=bb) b.ar b.z b.ok b.cN hi (GB s i) o2 a6 (by rw[a7];exact WM) (by rw[bg o1];exact a4.symm) r1;rw[a7]at hac;have hs:=λo' h=>vG o1 o2 gB gB hac (o':=o') (by rw[cQ gB,bg rfl];exact h);have e:=aa1 o2 (v:=s.mem (.el i (s.cur i) (Am.ix bb cc)));unfold Am.aH;rw[hp];simp only;by_cases h1:t<bb
 ·rw[bg h1];rw[bg (by rw[a4,a5];exact h1)]at e;obtain⟨x,hx,he⟩:=(P.1.2.2.2.1 h1).2.2;rw[<-P.2]at he;have hn:fi (some (s.mem (.el i (s.cur i) (Am.ix bb cc))).toNat)=s.mem (.el i (s.cur i) (Am.ix bb cc)):=by rw[he];rfl
  exact .mk b hi (Ro b hi (hs _ e) o1 rfl rfl) w1 (by show s.mem _=fi (Am.ck s.hold i _ i);rw[Am.aC];exact hn.symm) rfl ⟨rfl,rfl⟩ (b.MT rfl (by rw[hp];rfl) _ _ _ _ _) (Lg.nt rfl) trivial (hh:=λj hj=>Am.aA hj)
 ·rw[cQ h1];rw[cQ (by rw[a4,a5];exact h1)]at e;exact .mk b hi (wZ b hi (hs _ e) o1 (by show(13:Int)≠0;decide)) w1 w2 rfl ⟨a1,⟨o1,rfl,o3,o4⟩,a3,a4,a5,rfl⟩ (b.MT rfl (by rw[hp];rfl) _ _ _ _ _) (Lg.nt rfl) trivial
theorem S4{bb t x:Int}(hp:s.pc i= .qH bb t x):ox C p sz n M (Am.aH C s i d) (dc S M (i:Int) D):=by
 obtain⟨w1,w2,w3⟩:=b.oR.wk i hi;rw[hp]at w3;obtain⟨a1,⟨o1,o2,o3,o4⟩,a3,a4,a5,a6⟩:=w3;have P:=(b.dt.1 i hi).ph;unfold Am.rJ at P;rw[hp]at P;simp only at P;have r1:=b.Ok (i:=i) (x:=t) (by rw[hp];simp[Am.gX]);have hac:=Yc b.ar b.z b.cN hi o2 o3 (by rw[a5];exact r1);rw[a5]at hac;have hs:=vG o1 o2 gB gB hac (by rw[cQ gB,bg rfl];exact aa2 o2);have htb:t<=(act S i).bC.b:=by rw[show(act S i).bC.b=bb from a4];omega
 unfold Am.aH;rw[hp];simp only;by_cases h1:s.mem (.top i)=t
 ·rw[bg h1];rw[bg h1,bg h1]at hs;exact .mk b hi (wZ b hi hs o1 (by show(11:Int)≠0;decide)) w1 w2 rfl ⟨a1,⟨o1,rfl,o3,o4⟩,a3,a5,htb,a6,rfl⟩ (b.Ia (c:=.top i) rfl (by rw[hp];rfl) hi _ _ _ _ _) (by rw[show(s.mem (.top i)==t)=true by rw[h1];simp];exact Lg.nt rfl) trivial
 ·rw[cQ h1];rw[cQ h1,cQ h1]at hs;exact .mk b hi (wZ b hi hs o1 (by show(11:Int)≠0;decide)) w1 w2 rfl ⟨a1,⟨o1,rfl,o3,o4⟩,a3,a5,htb,a6,rfl⟩ (b.MT rfl (by rw[hp];rfl) _ _ _ _ _) (by rw[show(s.mem (.top i)==t)=false by simpa using h1];exact Lg.nt rfl) trivial
theorem S5{t x:Int}{Bi:Bool}(hp:s.pc i= .oP t x Bi):ox C p sz n M (Am.aH C s i d) (dc S M (i:Int) D):=by
 obtain⟨w1,w2,w3⟩:=b.oR.wk i hi;rw[hp]at w3;obtain⟨a1,⟨o1,o2,o3,o4⟩,a3,a5,a8,a6,a7⟩:=w3;have P:=(b.dt.1 i hi).ph;unfold Am.rJ at P;rw[hp]at P;simp only at P;have r1:=b.Ok (i:=i) (x:=t) (by rw[hp];simp[Am.gX]);have hac:=EE b.ar b.z b.cN hi o2 o3 (acC o1 a3 (by rw[a5];exact a8) (by rw[a5];omega));rw[a5]at hac;have e:=VO o2 (v:=0);rw[gl a3]at e;have hs:=λo' h=>vG o1 o2 gB gB hac (o':=o') (by rw[cQ gB,bg rfl];exact h);unfold Am.aH;rw[hp];simp only;cases Bi with
 | true =>
  rw[bg a7]at e;have hx:=(P.2.2.2 rfl).2;have hn:fi (some x.toNat)=x:=by show((x.toNat:Nat):Int)=x;omega
  exact .mk b hi (Ro b hi (hs _ e) o1 rfl rfl) w1 (by show(act S i).bC.x=fi (Am.ck s.hold i _ i);rw[Am.aC,show(act S i).bC.x=x from a6];exact hn.symm) rfl ⟨rfl,rfl⟩ (b.Ia (c:=.bot i) rfl (by rw[hp];rfl) hi _ _ _ _ _) (Lg.nt rfl) trivial (hh:=λj hj=>Am.aA hj) (htr:=λj hj=>Am.aA hj)
 | false =>
  rw[gl a7]at e;exact .mk b hi (pop_empty b hi (hs _ e) o1 rfl rfl) w1 w2 rfl (Yk b hi rfl rfl (Am.aC _ _ _)) (b.Ia (c:=.bot i) rfl (by rw[hp];exact Yl b hi rfl) hi _ _ _ _ _) (Lg.nt rfl) trivial (htr:=λj hj=>Am.aA hj)
end
def PZ(C:Am.jv)(k a:Int)(v:Nat)(x:Int):cu:=⟨k,a,Am.xM C v,C.most,x,0,0,0,0,0,0,0,0,false,0,0⟩
section
variable {K:Nat}{C:Am.jv}{p:aE}{s:Am.St}{S:ag}{M M':af}{sz n i:Nat}{D:aY}{d:Int}{o':cu}
variable (b:xx C p s S M sz n)(hi:i<C.N)
include b
theorem Jx(k a:Int)(v:Nat)(x:Int):pL k a (X6 C v) x=some (PZ C k a v x):=by
 have h1:=b.ok.c1;have h2:=b.ok.cm;have h3:=b.ok.m4;unfold pL X6;simp only;rw[ez,ez];rfl
include hi
end
theorem Jy{C:Am.jv}{i:Nat}(hi:i<C.N):(C.N=1/\Am.Kp C i=i)∨(1<C.N/\Am.Kp C i≠i/\ring C i (Am.Kp C i) 1):=by
 unfold Am.Kp ring;by_cases h:C.N=1
 ·left;refine⟨h,?_⟩;rw[h,Nat.mod_one];omega
 ·right
  refine⟨I,λh' => ?_,I,I,rfl⟩;rcases BZ (i+1) C.N with e | e
  ·rw[xR e]at h';omega
  ·rw[Nat.mod_eq_sub_mod e,xR I]at h';omega
section
variable {o o':ct}{M M':af}{v:Int}
theorem ZV{k a:Int}(hk:o.eL=k)(ha:o.aR=a)(U7:k≠0)(ha0:a≠0)(ha4:a≠4)(hx:ij o M=some (v,0,M'))
 (hn:(if k=1 then vj o v else if k=2 then nQ o v else if k=3 then some {o with aR:=0,gR:=if v=1 then 17 else 16,iR:=0}else nk o v)=some o'):kK M o=some (o',M'):=by
 subst hk;subst ha;unfold kK gg;rw[cQ U7,cQ ha0,gz,cQ ha4,hx,dA,bg rfl];split at hn
 ·rename_i h;rw[bg h,hn,ax]
 ·rename_i h;rw[cQ h];split at hn
  ·rename_i h;rw[bg h,hn,ax]
  ·rename_i h;rw[cQ h];split at hn
   ·rename_i h;rw[bg h,ax];by_cases e:v=1
    ·rw[bg e];rw[bg e]at hn;cases hn;rfl
    ·rw[cQ e];rw[cQ e]at hn;cases hn;rfl
   ·rename_i h;rw[cQ h,hn,ax]
theorem ZW(hk:o.eL≠0)(ha:o.aR≠0):sR o=some (0,0):=by
 unfold sR;rw[cQ hk,cQ ha]
theorem acI(hk:o.eL≠0)(ha:o.aR=0):sR o=some (o.gR,o.iR):=by
 unfold sR;rw[cQ hk,bg ha]
end
section
variable {C:Am.jv}{s:Am.St}{M:af}{sz n i:Nat}{o:ct}
theorem aeG(h:AR C s M sz n)(hz:Am.SZ C s)(hb:o.cJ=2+10*(C.F:Int)):wi (o.cJ+0)=Am.cS C s .An:=by
 refine h.cast hz (a:=.An) trivial ?_;rw[hb];show _=(2:Int)+10*C.F;omega
theorem aeH(h:AR C s M sz n)(hz:Am.SZ C s)(hb:o.cJ=2+10*(C.F:Int)):wi (o.cJ+1)=Am.cS C s .HG:=by
 refine h.cast hz (a:=.HG) trivial ?_;rw[hb];show _=(3:Int)+10*C.F;omega
theorem aeI(h:AR C s M sz n)(hz:Am.SZ C s)(hn:n<=2000000000)(hb:o.cJ=2+10*(C.F:Int))(ha:o.aR=8):ij o M=some (s.mem .An,0,nt M M.cell 0 (Am.cS C s .An) (s.mem .An) 0 true):=by
 unfold ij;rw[gl ha,gl ha,gl ha,gl ha,gl ha,gl ha,bg ha,aeG h hz hb,Db h hz hn (a:=.An) trivial,dA]
theorem acJ(h:AR C s M sz n)(hz:Am.SZ C s)(hn:n<=2000000000)(hb:o.cJ=2+10*(C.F:Int))(ha:o.aR=10):ij o M=some (0,0,nt M (M.cell.set (Am.cS C s .HG).toNat 1) 1 (Am.cS C s .HG) 1 0 true):=by
 unfold ij;rw[gl ha,gl ha,gl ha,gl ha,gl ha,gl ha,gl ha,gl ha,aeH h hz hb,yu h hz hn (a:=.HG) trivial,fQ]
end
section
variable {K:Nat}{C:Am.jv}{p:aE}{s:Am.St}{S:ag}{M M':af}{sz n i:Nat}{D:aY}{d:Int}{o':ct}
variable (b:xx C p s S M sz n)(hi:i<C.N)
include b hi
theorem VP(h1:kK M (act S i).eJ=some (o',M'))(h2:o'.eL=2)(h3:o'.aR≠0):gH S M (i:Int) D=some (Mw none,ku S i {act S i with eJ:=o' },M'):=by
 unfold gH nM aq;rw[H9 h1 (ZW (by rw[h2];decide) h3),kW,bg rfl];rfl
theorem Ta(h1:kK M (act S i).eJ=some (o',M'))(h2:o'.eL=2)(h3:o'.aR=0)(h4:o'.gR=19):gH S M (i:Int) D=some (Mw none,ku S i {act S i with eJ:=o',aO:=1},M'):=by
 have hw:=b.wl hi;unfold gH nM aq;rw[H9 h1 (acI (by rw[h2];decide) h3),kW,h4,cQ gB,cQ gB,bg rfl,bg (by rw[sE];exact b.Kx hi),di];rw[show J (ku S i {act S i with eJ:=o' }).aj i={act S i with eJ:=o' }from vl hw];show some (_,({S with aj:=(S.aj.set i _).set i _}:ag),M')=_;rw[nE];rfl
theorem Ym(hp:s.pc i= .Cs):ox C p sz n M (Am.aH C s i d) (gH S M (i:Int) D):=by
 obtain⟨w1,w2,w3⟩:=b.oR.wk i hi;rw[hp]at w3;obtain⟨a1,⟨l1,l2,l3,l4,l5,l6⟩⟩:=w3;have hs:=λo' h=>ZV l4 l5 gB gB gB (aeI b.ar b.z b.cN l1 l5) (o':=o') (by rw[cQ gB,bg rfl];exact h);have hw:∀v,nQ (act S i).eJ v=if v<=0 then some {(act S i).eJ with aR:=0,gR:=19,iR:=0}else if(act S i).eJ.cK=1 then some {(act S i).eJ with aR:=0,gR:=19,iR:=0}else some {(act S i).eJ with aR:=9}:=λv=>by
  unfold nQ gg;rw[bg l5];rfl
 have e:=hw (s.mem .An);unfold Am.aH;rw[hp];simp only;by_cases h0:0<s.mem .An/\1<C.N
 ·rw[bg h0];rw[ez,cQ (by rw[l2];omega)]at e;have hr:=(Jy hi).resolve_left (λh=>I);exact .mk b hi (VP b hi (hs _ e) l4 (by show(9:Int)≠0;decide)) w1 w2 rfl ⟨a1,1,⟨l1,l2,l3,l4,rfl,l6⟩,hr.2.2⟩ (b.MT rfl (by rw[hp];rfl) _ _ _ _ _) (Lg.nt rfl) trivial
 ·rw[cQ h0];have e:nQ (act S i).eJ (s.mem .An)=some {(act S i).eJ with aR:=0,gR:=19,iR:=0}:=by
   rw[e];by_cases h1:s.mem .An<=0
   ·rw[bg h1]
   ·rw[cQ h1,bg (by rw[l2];have:=b.ok.n1;omega)]
  exact .mk b hi (Ta b hi (hs _ e) l4 rfl rfl) w1 w2 rfl rfl (b.MT rfl (by rw[hp];rfl) _ _ _ _ _) (Lg.nt rfl) trivial
theorem VQ(h1:kK M (act S i).eJ=some (o',M'))(h2:o'.eL=4)(h3:o'.aR≠0):gI S M (i:Int) D=some (Mw none,ku S i {act S i with eJ:=o' },M'):=by
 unfold gI;rw[H9 h1 (ZW (by rw[h2];decide) h3),kW,bg rfl];rfl
theorem VR(h1:kK M (act S i).eJ=some (o',M'))(h2:o'.eL=4)(h3:o'.aR=0)(h4:o'.gR=20):gI S M (i:Int) D=some (Mw (Am.ev 10 0 0 0),ku S i {act S i with eJ:=o',aO:=13},M'):=by
 have hw:=b.wl hi;unfold gI oD;rw[H9 h1 (acI (by rw[h2];decide) h3),kW,h4,cQ gB,bg rfl,bg (by rw[sE];exact b.Kx hi),di];rw[show J (ku S i {act S i with eJ:=o' }).aj i={act S i with eJ:=o' }from vl hw,fQ];show some (_,({S with aj:=(S.aj.set i _).set i _}:ag),M')=_;rw[nE];rfl
theorem acK{o:ct}(ha:o.aR=10)(v:Int):nk o v=if o.eM>=o.cK then some {o with aR:=0,gR:=20,iR:=0}else some {o with aR:=9}:=by
 unfold nk gg;rw[bg ha,Qs];rfl
theorem Yn(hp:s.pc i= .done):ox C p sz n M (Am.aH C s i d) (gI S M (i:Int) D):=by
 obtain⟨w1,w2,w3⟩:=b.oR.wk i hi;rw[hp]at w3;obtain⟨a1,⟨l1,l2,l3,l4,l5,l6⟩⟩:=w3;have hac:=acJ b.ar b.z b.cN l1 l5;have hs:=λo' h=>ZV l4 l5 gB gB gB hac (o':=o') (by rw[cQ gB,cQ gB,cQ gB];exact h);have e:=acK b hi l5 0;unfold Am.aH;rw[hp];simp only[Am.n8];rcases Jy hi with ⟨e1,e2⟩ | ⟨e1,e2,e3⟩
 ·rw[bg (by rw[l6,l2];omega)]at e;rw[bg e2];exact .mk b hi (VR b hi (hs _ e) l4 rfl rfl) w1 w2 rfl rfl (b.Ia (c:=.HG) rfl (by rw[hp];rfl) trivial _ _ _ _ _) (Lg.nt rfl) (by show(10:Nat)≠0;decide)
 ·rw[cQ (by rw[l6,l2];omega)]at e;rw[cQ e2];exact .mk b hi (VQ b hi (hs _ e) l4 (by show(9:Int)≠0;decide)) w1 w2 rfl ⟨a1,1,⟨l1,l2,l3,l4,rfl,l6⟩,e3⟩ (b.Ia (c:=.HG) rfl (by rw[hp];rfl) trivial _ _ _ _ _) (Lg.nt rfl) trivial
end
theorem P0{α:Type}[Inhabited α]{N j:Nat}{g:Nat->α}(h:j<N):J ((List.range N).map g) j=g j:=by
 unfold J;rw[List.getD_eq_getElem?_getD,List.getElem?_map,List.getElem?_range h];rfl
theorem Ib{α:Type}[Inhabited α]{N j k:Nat}{l:List α}{y:α}(h:j<N):J (mL N l k y) j=if j=k then y else J l j:=P0 h
theorem ZX{α:Type}[Inhabited α]{N j:Nat}{ys l:List α}(h:j<N):J (E8 N ys l) j=if j<ys.length then J ys j else J l j:=P0 h
theorem aa3{α:Type}[Inhabited α]{lo m j:Nat}{l:List α}(h:j<m):J (AE l lo m) j=J l (lo+j):=P0 h
section
variable {K:Nat}{C:Am.jv}{p:aE}{s:Am.St}{S:ag}{M M':af}{sz n i:Nat}{D:aY}{d:Int}{o':ct}
variable (b:xx C p s S M sz n)(hi:i<C.N)
include b
include hi
section
variable {a:bK}
theorem Rp:J (ku S i a).aj (i:Int).toNat=a:=by rw[di];exact vl (b.wl hi)
end
theorem K8:ku S i (act S i)=S:=by
 have e:S.aj.set i (act S i)=S.aj:=by
  refine Ap λk => ?_;rw[List.getElem?_set];have hw:=b.wl hi;by_cases h:i=k
  ·subst h;rw[bg rfl,bg hw];show _=_;rw[List.getElem?_eq_getElem hw];show some (J S.aj i)=_;unfold J;rw[List.getD_eq_getElem?_getD,List.getElem?_eq_getElem hw];rfl
  ·rw[cQ h]
 show({S with aj:=S.aj.set i (act S i)}:ag)=S;rw[e]
end
section
variable {K:Nat}{C:Am.jv}{p:aE}{s:Am.St}{S:ag}{M M':af}{sz n i:Nat}{D:aY}{d:Int}{o:ct}
variable (b:xx C p s S M sz n)(hi:i<C.N)
include b hi
end
def jT(C:Am.jv)(k:Int)(f:Nat)(sl:Nat)(v:Int):bM:=⟨1,C.F,f,1,0,0,k,sl,v⟩
section
variable {C:Am.jv}{s:Am.St}{M M':af}{sz n:Nat}{o o':bM}{f:Nat}
theorem Ou(h:AR C s M sz n)(hz:Am.SZ C s)(hf:f<C.F){t:bp}(hb:t.kY=1):gK t (f:Int)=some (Am.cS C s (.join f)):=by
 have p:=h.ZR hz (a:=.join f) hf;have e:Am.cS C s (.join f)=2+10*(f:Int):=rfl;rw[e]at p;unfold gK;rw[hb,fh (x:=(1:Int)+1) I,fh (x:=(f:Int)*10) I,fh I,e];congr 1;omega
theorem ZY(h:AR C s M sz n)(hz:Am.SZ C s)(hf:f<C.F){k:Nat}(hk:k<8){t:bp}(hb:t.kY=1):kq t (f:Int) (k:Int)=some (Am.cS C s (.slot f k)):=by
 have p:=h.ZR hz (a:=.slot f k) ⟨hf,hk⟩;have e:Am.cS C s (.slot f k)=4+10*(f:Int)+k:=rfl;have e1:Am.cS C s (.join f)=2+10*(f:Int):=rfl;rw[e]at p;unfold kq;rw[Ou h hz hf hb,ax,e1,fh (x:=2+10*(f:Int)+2) I,fh I,e];congr 1;omega
theorem acL(h:AR C s M sz n)(hz:Am.SZ C s)(hf:f<C.F){t:bp}(hb:t.kY=1):nP t (f:Int)=some (Am.cS C s (.mark f)):=by
 have p:=h.ZR hz (a:=.mark f) hf;have e:Am.cS C s (.mark f)=3+10*(f:Int):=rfl;have e1:Am.cS C s (.join f)=2+10*(f:Int):=rfl;rw[e]at p;unfold nP;rw[Ou h hz hf hb,ax,e1,fh I,e];congr 1;omega
theorem P1(hC:C.OK)(hf:f<C.F){k:Int}{sl:Nat}(hs:sl<8){v:Int}:kP k (⟨1,C.F⟩:bp) (f:Int) (sl:Int) v=some (jT C k f sl v):=by
 have h1:=hC.f1;have h2:=hC.f4;unfold kP rj;simp only;rw[rD,rD,rD,rD,uT I,ax,bg rfl,ez,ez];rfl
theorem Ic(hC:C.OK)(hf:f<C.F){k v:Int}:kP k (⟨1,C.F⟩:bp) (f:Int) 0 v=some (jT C k f 0 v):=P1 (sl:=0) hC hf I
theorem MA{o:bM}(hb:o.eD=1)(hs:o.ay=0):jd o=some (o.fq,o.mH):=by
 unfold jd;rw[cQ (λe=>by rw[e]at hb;exact absurd hb gB),ez]
theorem VS{o:bM}(hb:o.eD=1)(hs:o.ay>0):jd o=some (0,0):=by
 unfold jd;rw[cQ (λe=>by rw[e]at hb;exact absurd hb gB),bg hs]
theorem FA(hs:o.ay≠0){r:Option (Int×bM×af)}(hr:r=some (0,o',M'))
 (hk:r=(if o.kind=0 then jN o M else if o.kind=1 then mz o M else if o.kind=2 then gi o M else if o.kind=3 then jr o M else if o.kind=4 then lK o M else lM o M)) :
 dg M o=some (if o'.ay>0 then({o' with ay:=wi (o'.ay+1)},M')else(o',M')):=by
 have fin:(if(0:Int)=0 then(if o'.ay>0 then some ({o' with ay:=wi (o'.ay+1)},M')else some (o',M'))else dX (eB o' 1 0) (λS=>some (S,M')))=some (if o'.ay>0 then({o' with ay:=wi (o'.ay+1)},M')else(o',M')):=by
  rw[bg rfl];split<;>rfl
 rw[hr]at hk;unfold dg;rw[cQ hs];split at hk
 ·rename_i h;rw[bg h,<-hk,dA];exact fin
 ·rename_i h;rw[cQ h];split at hk
  ·rename_i h;rw[bg h,<-hk,dA];exact fin
  ·rename_i h;rw[cQ h];split at hk
   ·rename_i h;rw[bg h,<-hk,dA];exact fin
   ·rename_i h;rw[cQ h];split at hk
    ·rename_i h;rw[bg h,<-hk,dA];exact fin
    ·rename_i h;rw[cQ h];split at hk
     ·rename_i h;rw[bg h,<-hk,dA];exact fin
     ·rename_i h;rw[cQ h,<-hk,dA];exact fin
theorem Yo(h:AR C s M sz n)(hz:Am.SZ C s)(hn:n<=2000000000)(hf:f<C.F)(hv:-1000000000000<=s.mem (.mark f)/\s.mem (.mark f)<=1000000000000) :
 dg M (jT C 4 f 0 0)=some ({jT C 4 f 0 0 with ay:=0,fq:=14,mH:=s.mem (.mark f)+1},nt M (M.cell.set (Am.cS C s (.mark f)).toNat (s.mem (.mark f)+1)) 3 (Am.cS C s (.mark f)) 1 (s.mem (.mark f)+1) true):=by
 refine FA (o':={jT C 4 f 0 0 with ay:=0,fq:=14,mH:=s.mem (.mark f)+1}) (M':=nt M (M.cell.set (Am.cS C s (.mark f)).toNat (s.mem (.mark f)+1)) 3 (Am.cS C s (.mark f)) 1 (s.mem (.mark f)+1) true) (by show(1:Int)≠0;decide) rfl ?_;show _=lK _ _;unfold lK eB;rw[show nP _ (jT C 4 f 0 0).gu=some (Am.cS C s (.mark f))from acL h hz hf rfl,ax,Ri h hz hn (a:=.mark f) hf (fh I),dA];rfl
theorem aa4(h:AR C s M sz n)(hz:Am.SZ C s)(hn:n<=2000000000)(hf:f<C.F)(hv:-1000000000000<=s.mem (.join f)/\s.mem (.join f)<=1000000000000) :
 dg M (jT C 1 f 0 0)=some ({jT C 1 f 0 0 with ay:=0,fq:=9,mH:=s.mem (.join f)+1},nt M (M.cell.set (Am.cS C s (.join f)).toNat (s.mem (.join f)+1)) 3 (Am.cS C s (.join f)) 1 (s.mem (.join f)+1) true):=by
 refine FA (o':={jT C 1 f 0 0 with ay:=0,fq:=9,mH:=s.mem (.join f)+1}) (M':=nt M (M.cell.set (Am.cS C s (.join f)).toNat (s.mem (.join f)+1)) 3 (Am.cS C s (.join f)) 1 (s.mem (.join f)+1) true) (by show(1:Int)≠0;decide) rfl ?_;show _=mz _ _;unfold mz eB;rw[show gK _ (jT C 1 f 0 0).gu=some (Am.cS C s (.join f))from Ou h hz hf rfl,ax,Ri h hz hn (a:=.join f) hf (fh I),dA];rfl
theorem VT(h:AR C s M sz n)(hz:Am.SZ C s)(hn:n<=2000000000)(hf:f<C.F)(hb:o.eD=1)(hh:o.gu=f)(hv:-1000000000000<=s.mem (.join f)/\s.mem (.join f)<=1000000000000)(c:Int) :
 jq o M c=some (0,(if s.mem (.join f)-1=0 then o else {o with ay:=0,fq:=c,mH:=s.mem (.join f)-1}),nt M (M.cell.set (Am.cS C s (.join f)).toNat (s.mem (.join f)-1)) 3 (Am.cS C s (.join f)) (-1) (s.mem (.join f)-1) true):=by
 unfold jq eB;rw[hh,Ou (t:=⟨o.eD,o.ef⟩) h hz hf hb,ax,Ri h hz hn (a:=.join f) hf (v:=s.mem (.join f)-1) (by rw[fh I];omega),dA,bg rfl];by_cases e:s.mem (.join f)-1=0
 ·rw[bg e,bg e]
 ·rw[cQ e,cQ e,ax]
theorem Rq(h:AR C s M sz n)(hz:Am.SZ C s)(hn:n<=2000000000)(hf:f<C.F)(hb:o.eD=1)(hh:o.gu=f)(c:Int) :
 iT o M c=some (0,{o with ay:=0,fq:=c,mH:=0},nt M (M.cell.set (Am.cS C s (.join f)).toNat 1) 1 (Am.cS C s (.join f)) 1 0 true):=by
 unfold iT eB;rw[hh,Ou (t:=⟨o.eD,o.ef⟩) h hz hf hb,ax,yu h hz hn (a:=.join f) hf,fQ,bg rfl,ax]
theorem Yp(h:AR C s M sz n)(hz:Am.SZ C s)(hn:n<=2000000000)(hf:f<C.F)(hv:-1000000000000<=s.mem (.join f)/\s.mem (.join f)<=1000000000000) :
 dg M (jT C 3 f 0 0)=some ((if s.mem (.join f)-1=0 then {jT C 3 f 0 0 with ay:=2}else {jT C 3 f 0 0 with ay:=0,fq:=12,mH:=s.mem (.join f)-1}),nt M (M.cell.set (Am.cS C s (.join f)).toNat (s.mem (.join f)-1)) 3 (Am.cS C s (.join f)) (-1) (s.mem (.join f)-1) true):=by
 have e:=VT (o:=jT C 3 f 0 0) h hz hn hf rfl rfl hv 12;have e2:jr (jT C 3 f 0 0) M=jq (jT C 3 f 0 0) M 12:=by unfold jr;rw[bg (show(jT C 3 f 0 0).ay=1 from rfl),e,dA]
 have:=FA (o:=jT C 3 f 0 0) (M:=M) (by show(1:Int)≠0;decide) (e2.trans e) rfl;rw[this];by_cases e:s.mem (.join f)-1=0
 ·rw[bg e,bg e,bg (by show(1:Int)>0;decide)];rfl
 ·rw[cQ e,cQ e,cQ (by show ¬(0:Int)>0;decide)]
theorem aa5(h:AR C s M sz n)(hz:Am.SZ C s)(hn:n<=2000000000)(hf:f<C.F){k:Nat}(hk:k<8)(v:Int) :
 dg M (jT C 2 f k v)=some ({jT C 2 f k v with ay:=2},nt M (M.cell.set (Am.cS C s (.slot f k)).toNat v) 1 (Am.cS C s (.slot f k)) v 0 true):=by
 have e:gi (jT C 2 f k v) M=some (0,jT C 2 f k v,nt M (M.cell.set (Am.cS C s (.slot f k)).toNat v) 1 (Am.cS C s (.slot f k)) v 0 true):=by
  unfold gi;rw[bg (show(jT C 2 f k v).ay=1 from rfl),show kq _ (jT C 2 f k v).gu (jT C 2 f k v).slot=some (Am.cS C s (.slot f k))from ZY h hz hf hk rfl,ax,show(jT C 2 f k v).NJ=v from rfl,yu h hz hn (a:=.slot f k) ⟨hf,hk⟩,fQ]
 have:=FA (o:=jT C 2 f k v) (M:=M) (by show(1:Int)≠0;decide) e rfl;rw[this,bg (by show(1:Int)>0;decide)];rfl
theorem Yq(h:AR C s M sz n)(hz:Am.SZ C s)(hn:n<=2000000000)(hf:f<C.F){k:Nat}(hk:k<8) :
 dg M (jT C 5 f k 0)=some ({jT C 5 f k 0 with ay:=0,fq:=15,mH:=s.mem (.slot f k)},nt M M.cell 0 (Am.cS C s (.slot f k)) (s.mem (.slot f k)) 0 true):=by
 have e:lM (jT C 5 f k 0) M=some (0,{jT C 5 f k 0 with ay:=0,fq:=15,mH:=s.mem (.slot f k)},nt M M.cell 0 (Am.cS C s (.slot f k)) (s.mem (.slot f k)) 0 true):=by
  unfold lM eB;rw[show kq _ (jT C 5 f k 0).gu (jT C 5 f k 0).slot=some (Am.cS C s (.slot f k))from ZY h hz hf hk rfl,ax,Db h hz hn (a:=.slot f k) ⟨hf,hk⟩,dA];rfl
 have:=FA (o:=jT C 5 f k 0) (M:=M) (by show(1:Int)≠0;decide) e rfl;rw[this,cQ (by show ¬(0:Int)>0;decide)]
theorem Yr(h:AR C s M sz n)(hz:Am.SZ C s)(hn:n<=2000000000)(hv:0<=s.mem .next/\s.mem .next<=1000000000000) :
 dg M (jT C 0 0 0 0)=some ((if s.mem .next+1<=C.F then {jT C 0 0 0 0 with ay:=0,fq:=4,mH:=s.mem .next}else {jT C 0 0 0 0 with ay:=0,fq:=3,mH:=0}),nt M (M.cell.set (Am.cS C s .next).toNat (s.mem .next+1)) 3 (Am.cS C s .next) 1 (s.mem .next+1) true):=by
 have e:jN (jT C 0 0 0 0) M=some (0,(if s.mem .next+1<=C.F then {jT C 0 0 0 0 with ay:=0,fq:=4,mH:=s.mem .next}else {jT C 0 0 0 0 with ay:=0,fq:=3,mH:=0}),nt M (M.cell.set (Am.cS C s .next).toNat (s.mem .next+1)) 3 (Am.cS C s .next) 1 (s.mem .next+1) true):=by
  unfold jN pZ eB;rw[ax,show(⟨(jT C 0 0 0 0).eD,(jT C 0 0 0 0).ef⟩:bp).kY=Am.cS C s .next from rfl,Ri h hz hn (a:=.next) trivial (fh I),dA,bg rfl,rD,ax];by_cases e:s.mem .next+1<=C.F
  ·rw[bg e,bg (by show decide (s.mem .next+1<=(C.F:Int))=true;exact uT e),fh I,show s.mem .next+1-1=s.mem .next by omega];rfl
  ·rw[cQ e,cQ (by show ¬decide (s.mem .next+1<=(C.F:Int))=true;simpa using e)];rfl
 have:=FA (o:=jT C 0 0 0 0) (M:=M) (by show(1:Int)≠0;decide) e rfl;rw[this];by_cases e:s.mem .next+1<=C.F
 ·rw[bg e,cQ (by show ¬(0:Int)>0;decide)]
 ·rw[cQ e,cQ (by show ¬(0:Int)>0;decide)]
end
section
variable {K:Nat}{C:Am.jv}{p:aE}{s:Am.St}{S:ag}{M M':af}{sz n i f:Nat}{D:aY}{d:Int}{o':bM}
variable (b:xx C p s S M sz n)(hi:i<C.N)
include b hi
theorem Ie(hb:Am.busy (Am.sig (s.pc i))=true) :∃f,s.hold i=some f/\f<s.nf/\f<C.F/\(act S i).az=f:=by
 obtain⟨f,hh⟩:=Am.ry b.fi hi hb;have h:=(Am.ou b.fi hi hh).2;exact⟨f,hh,h,Nat.lt_of_lt_of_le h b.fi.zj,by rw[show(act S i).az=fi (s.hold i)from(b.oR.wk i hi).az,hh];rfl⟩
theorem Tb:(⟨S.dB,S.cL⟩:bp)=⟨1,C.F⟩:=by rw[b.oR.tb,b.oR.tf]
theorem Ov{a:bK}{c v:Int}(h1:dg M a.dL=some (o',M'))(h2:jd o'=some (c,v)):eV (ku S i a) M (i:Int)=some (c,v,ku S i {a with dL:=o' },M'):=by
 unfold eV nM aq;rw[Rp b hi,h1,fQ];simp only;rw[h2,fQ,di];show some (_,_,({S with aj:=(S.aj.set i a).set i {a with dL:=o' }}:ag),M')=_;rw[nE];rfl
theorem VU{x:Int}(hp:s.pc i= .start x):ox C p sz n M (Am.aH C s i d) (jE S M (i:Int) D):=by
 obtain⟨w1,w2,w3⟩:=b.oR.wk i hi;obtain⟨f,hh,hn,hF,hfr⟩:=Ie b hi (by rw[hp];rfl);rw[hp]at w3;obtain⟨a1,a2⟩:=w3;have hs:=Yo b.ar b.z b.cN hF (b.SS rfl);have h:=Ov b hi (a:={act S i with dL:=jT C 4 f 0 0}) hs (MA rfl rfl);unfold Am.aH;rw[hp];simp only[hh,pG];refine .mk (a:={act S i with dL:={jT C 4 f 0 0 with ay:=0,fq:=14,mH:=s.mem (.mark f)+1},aO:=1}) b hi ?_ w1 w2 rfl rfl (b.Ia (c:=.mark f) rfl (by rw[hp];rfl) hF _ _ _ _ _) (Lg.nt rfl) (by show(1:Nat)≠0;decide);unfold jE yo nM aq;rw[Tb b hi,di,hfr,Ic b.ok hF,ax,ax];rw[show({S with aj:=S.aj.set i {J S.aj i with dL:=jT C 4 f 0 0}}:ag)=ku S i {act S i with dL:=jT C 4 f 0 0}from rfl,h,kW,bg rfl,bg (by rw[sE];exact b.Kx hi),show J (ku S i _).aj i=_ from vl (b.wl hi)];show some ((⟨0,0,1,(act S i).az,(act S i).from_,s.mem (.mark f)+1⟩:ak),({S with aj:=(S.aj.set i _).set i _}:ag),_)=_;rw[nE];refine nR some (CB ?_ rfl);show(⟨0,0,1,(act S i).az,(act S i).from_,s.mem (.mark f)+1⟩:ak)=_;rw[hfr,show(act S i).from_=x from a2];rfl
theorem Ys{c:Nat}(hp:s.pc i= .fork c):ox C p sz n M (Am.aH C s i d) (jW S M (i:Int) D):=by
 obtain⟨w1,w2,w3⟩:=b.oR.wk i hi;obtain⟨f,hh,hn,hF,hfr⟩:=Ie b hi (by rw[hp];rfl);rw[hp]at w3;obtain⟨a1,a2⟩:=w3;have hs:=aa4 b.ar b.z b.cN hF (b.SS rfl);have h:=Ov b hi (a:={act S i with dL:=jT C 1 f 0 0}) hs (MA rfl rfl);unfold Am.aH;rw[hp];simp only[hh,pG];refine .mk (a:={act S i with dL:={jT C 1 f 0 0 with ay:=0,fq:=9,mH:=s.mem (.join f)+1},bC:=PZ C 1 1 i c,aO:=3}) b hi ?_ w1 w2 rfl ⟨rfl,a2,⟨rfl,rfl,rfl,rfl⟩,rfl⟩ (b.Ia (c:=.join f) rfl (by rw[hp];rfl) hF _ _ _ _ _) (Lg.nt rfl) trivial;unfold jW zD nM aq;rw[Tb b hi,di,hfr,Ic b.ok hF,ax,ax];rw[show({S with aj:=S.aj.set i {J S.aj i with dL:=jT C 1 f 0 0}}:ag)=ku S i {act S i with dL:=jT C 1 f 0 0}from rfl,h,kW,bg rfl,bg (by rw[sE];exact b.Kx hi),show J (ku S i _).aj i=_ from vl (b.wl hi)];unfold mW BH;rw[bg (by show bJ (act S i).bB S.ei.length;rw[show(act S i).bB=i from w1];exact⟨I,by rw[b.oR.dl];omega⟩),ax];rw[show J (ku S i _).ei (Int.toNat _)=X6 C i from(by show J S.ei (act S i).bB.toNat=_;rw[show(act S i).bB=i from w1,di];exact b.oR.dq i hi)];show dX (dX (pL 1 1 (X6 C i) (act S i).bW) _) _=_;rw[show pL 1 1 (X6 C i) (act S i).bW=some (PZ C 1 1 i c) by rw[show(act S i).bW=c from a2];exact Jx b _ _ _ _,ax,ax];show some (_,({S with aj:=((S.aj.set i _).set i _).set i _}:ag),_)=_;rw[nE,nE];rfl
theorem Tc{S0:ag}{a:bK}(h0:S0=ku S i a)(ha:a.bB=i)(M':af):jK S0 M' (i:Int)=some (ku S i {a with bC:=PZ C 2 1 i 0,aO:=8}):=by
 subst h0;unfold jK mW AV nM aq;rw[Rp b hi,ha,bg (by show bJ (i:Int) S.ei.length;exact⟨I,by rw[b.oR.dl];omega⟩),ax,di,show J (ku S i a).ei i=X6 C i from b.oR.dq i hi,Jx b,ax,ax];show some ({S with aj:=((S.aj.set i _).set i _).set i _}:ag)=_;rw[nE,nE,<-ha];rfl
end
def kZ(S:ag)(T:List aX):ag:={S with aM:=T}
section
variable {K:Nat}{C:Am.jv}{p:aE}{s:Am.St}{S:ag}{M M':af}{sz n i f:Nat}{D:aY}{d:Int}{o':bM}{T:List aX}{a:bK}
variable (b:xx C p s S M sz n)(hi:i<C.N)
include b hi
theorem xy:J (ku (kZ S T) i a).aj (i:Int).toNat=a:=by rw[di];exact vl (b.wl hi)
theorem VV:bJ (i:Int) (ku (kZ S T) i a).aj.length:=by rw[sE];exact b.Kx hi
theorem yT{c v:Int}(h1:dg M a.dL=some (o',M'))(h2:jd o'=some (c,v)):eV (ku (kZ S T) i a) M (i:Int)=some (c,v,ku (kZ S T) i {a with dL:=o' },M'):=by
 unfold eV nM aq;rw[xy b hi,h1,fQ];simp only;rw[h2,fQ,di];show some (_,_,({S with aM:=T,aj:=(S.aj.set i a).set i {a with dL:=o' }}:ag),M')=_;rw[nE];rfl
theorem Yt(ha:a.bB=i)(M':af):jK (ku (kZ S T) i a) M' (i:Int)=some (ku (kZ S T) i {a with bC:=PZ C 2 1 i 0,aO:=8}):=by
 unfold jK mW AV nM aq;rw[xy b hi,bg (by rw[ha];show bJ (i:Int) S.ei.length;exact⟨I,by rw[b.oR.dl];omega⟩),ax];rw[show J (ku (kZ S T) i a).ei a.bB.toNat=X6 C i from(by rw[ha,di];exact b.oR.dq i hi),Jx b,ax,ax,di];show some ({S with aM:=T,aj:=((S.aj.set i _).set i _).set i _}:ag)=_;rw[nE,nE];rfl
theorem VW(h1:dg M a.dL=some (o',M'))(h2:o'.eD=1)(h3:o'.ay>0):dx (ku (kZ S T) i a) M (i:Int) D=some (Mw none,ku (kZ S T) i {a with dL:=o' },M'):=by
 unfold dx nM aq;rw[yT b hi h1 (VS h2 h3),kW,bg rfl];rfl
theorem Td(h1:dg M a.dL=some (o',M'))(h2:o'.eD=1)(h3:o'.ay=0)(h4:o'.fq=13)(hf:a.az=f):dx (ku (kZ S T) i a) M (i:Int) D=some (Mw (Am.ev 5 f 0 0),ku (kZ S T) i {a with dL:=o',aO:=1},M'):=by
 unfold dx nM aq;rw[yT b hi h1 (MA h2 h3),kW,h4,cQ gB,bg rfl,bg (VV b hi),xy b hi,xy b hi,di];show some ((⟨0,0,5,a.az,0,0⟩:ak),({S with aM:=T,aj:=(S.aj.set i _).set i _}:ag),M')=_;rw[nE];refine nR some (CB ?_ rfl);show(⟨0,0,5,a.az,0,0⟩:ak)=_;rw[hf];rfl
theorem Te(ha:a.bB=i)(h1:dg M a.dL=some (o',M'))(h2:o'.eD=1)(h3:o'.ay=0)(h4:o'.fq=12)(hf:a.az=f):dx (ku (kZ S T) i a) M (i:Int) D=some (Mw (Am.ev 4 f 0 0),ku (kZ S T) i {a with dL:=o',az:=-1,bC:=PZ C 2 1 i 0,aO:=8},M'):=by
 unfold dx nM aq;rw[yT b hi h1 (MA h2 h3),kW,h4,cQ gB,cQ gB,bg rfl,bg (VV b hi),xy b hi,xy b hi,di];have e:({ku (kZ S T) i {a with dL:=o' }with aj:=(ku (kZ S T) i {a with dL:=o' }).aj.set i {({a with dL:=o' }:bK)with az:=-1}}:ag)=ku (kZ S T) i {a with dL:=o',az:=-1}:=by
  show({S with aM:=T,aj:=(S.aj.set i _).set i _}:ag)=_;rw[nE];rfl
 rw[e,Yt b hi (a:={a with dL:=o',az:=-1}) ha,ax];refine nR some (CB ?_ rfl);show(⟨0,0,4,a.az,0,0⟩:ak)=_;rw[hf];rfl
theorem P2:ku (kZ S S.aM) i (act S i)=S:=K8 b hi
theorem P3(hp:s.pc i= .nB):ox C p sz n M (Am.aH C s i d) (dx S M (i:Int) D):=by
 obtain⟨w1,w2,w3⟩:=b.oR.wk i hi;obtain⟨f,hh,hn,hF,hfr⟩:=Ie b hi (by rw[hp];rfl);rw[hp]at w3;obtain⟨a1,t1,t2,t3,t4,t5⟩:=w3;have t3:(act S i).dL.gu=f:=by rw[show(act S i).dL.gu=((act S i).az.toNat:Int)from t3,hfr];rfl
 have e:=Rq (o:=(act S i).dL) b.ar b.z b.cN hF t1 t3 13;have e2:jr (act S i).dL M=iT (act S i).dL M 13:=by
  unfold jr;rw[gl t4,e,dA]
 have hs:=FA (o:=(act S i).dL) (M:=M) (by rw[t4];decide) (e2.trans e) (by rw[t5];rfl);rw[cQ (by show ¬(0:Int)>0;decide)]at hs;have h:=Td (D:=D) (T:=S.aM) (a:=act S i) b hi hs t1 rfl rfl hfr;rw[P2 b hi]at h;unfold Am.aH;rw[hp];simp only[hh,pG];exact .mk b hi h w1 w2 rfl rfl (b.Ia (c:=.join f) rfl (by rw[hp];rfl) hF _ _ _ _ _) (Lg.nt rfl) (by show(5:Nat)≠0;decide)
theorem VX(h1:dg M (act S i).dL=some (o',M'))(h2:o'.eD=1)(h3:o'.ay=0)(h4:o'.fq=10):eT S M (i:Int) D=some (Mw none,ku S i {act S i with dL:=o',bC:=PZ C 2 1 i 0,aO:=8},M'):=by
 have w1:=(b.oR.wk i hi).self;unfold eT nM aq;rw[Mx h1 (MA h2 h3),kW,h4,cQ gB,bg rfl,bg (by rw[sE];exact b.Kx hi),Tc b hi (a:={act S i with dL:=o' }) rfl w1,ax];rfl
theorem VY(h1:dg M (act S i).dL=some (o',M'))(h2:o'.eD=1)(h3:o'.ay=0)(h4:o'.fq=11)(hin:bJ (act S i).done S.aM.length):eT S M (i:Int) D=some ((⟨0,0,7,(J S.aM (act S i).done.toNat).parent,(act S i).done,0⟩:ak),ku S i {act S i with dL:=o',az:=(J S.aM (act S i).done.toNat).parent,aO:=1},M'):=by
 unfold eT eu nM aq;rw[Mx h1 (MA h2 h3),kW,h4,cQ gB,cQ gB,bg rfl,bg (by rw[sE];exact b.Kx hi),di,show J (ku S i {act S i with dL:=o' }).aj i={act S i with dL:=o' }from vl (b.wl hi)];rw[bg (by exact hin),lO,bg (by exact hin)];show some ((⟨0,0,7,(J S.aM (act S i).done.toNat).parent,(act S i).done,0⟩:ak),({S with aj:=((S.aj.set i _).set i _).set i _}:ag),_)=_;rw[nE,nE];rfl
theorem aa6{pp c:Nat}(hp:s.pc i= .out pp c):ox C p sz n M (Am.aH C s i d) (eT S M (i:Int) D):=by
 obtain⟨w1,w2,w3⟩:=b.oR.wk i hi;have hg:(Am.view s).g i= .out pp c:=by show Am.sig (s.pc i)=_;rw[hp];rfl
 obtain⟨q1,q2,q3,q4,q5,q6⟩:=b.fi.gS hi hg;have hF:pp<C.F:=Nat.lt_of_lt_of_le q3 b.fi.zj;rw[hp]at w3;obtain⟨a1,a2,t1,t2,t3,t4,t5⟩:=w3;have e:=VT (o:=(act S i).dL) b.ar b.z b.cN hF t1 t3 (b.SS rfl) 10;have e2:gi (act S i).dL M=jq (act S i).dL M 10:=by
  unfold gi;rw[gl t4,bg t4,e,dA]
 have hs:=FA (o:=(act S i).dL) (M:=M) (by rw[t4];decide) (e2.trans e) (by rw[t5];rfl);unfold Am.aH;rw[hp];simp only;by_cases h0:s.mem (.join pp)-1=0
 ·rw[bg h0];rw[bg h0,bg (by rw[t4];decide)]at hs;have hst:wi ((act S i).dL.ay+1)=3:=by rw[t4];rfl
  refine .mk (a:={act S i with dL:={(act S i).dL with ay:=wi ((act S i).dL.ay+1)}}) b hi ?_ w1 w2 rfl ⟨a1,a2,t1,t2,t3,hst,t5⟩ (b.Ia (c:=.join pp) rfl (by rw[hp];rfl) hF _ _ _ _ _) (Lg.nt rfl) trivial;unfold eT nM aq;rw[Mx hs (VS t1 (by show wi ((act S i).dL.ay+1)>0;rw[hst];decide)),kW,bg rfl];rfl
 ·rw[cQ h0];rw[cQ h0,cQ (by show ¬(0:Int)>0;decide)]at hs;exact .mk b hi (VX b hi hs t1 rfl rfl) w1 w2 rfl ⟨rfl,⟨rfl,rfl,rfl,rfl⟩,rfl,rfl⟩ (b.Ia (c:=.join pp) rfl (by rw[hp];rfl) hF _ _ _ _ _) (Lg.nt rfl) trivial
theorem Yu{pp c:Nat}(hp:s.pc i= .take pp c):ox C p sz n M (Am.aH C s i d) (eT S M (i:Int) D):=by
 obtain⟨w1,w2,w3⟩:=b.oR.wk i hi;have hg:(Am.view s).g i= .take pp c:=by show Am.sig (s.pc i)=_;rw[hp];rfl
 obtain⟨q6,q2,q4⟩:=b.fi.tp i pp c hi hg;have q3:pp<s.nf:=q4▸ b.fi.pr c q2;have hF:pp<C.F:=Nat.lt_of_lt_of_le q3 b.fi.zj;rw[hp]at w3;obtain⟨a1,a2,t1,t2,t3,t4,t5⟩:=w3;have e:=Rq (o:=(act S i).dL) b.ar b.z b.cN hF t1 t3 11;have e2:gi (act S i).dL M=iT (act S i).dL M 11:=by
  unfold gi;rw[gl t4,gl t4,e,dA]
 have hs:=FA (o:=(act S i).dL) (M:=M) (by rw[t4];decide) (e2.trans e) (by rw[t5];rfl);rw[cQ (by show ¬(0:Int)>0;decide)]at hs;have MB:(J S.aM (act S i).done.toNat).parent=pp:=by
  rw[show(act S i).done=c from a2,di,(b.oR.tk c q2).par,cQ q6];rw[show pp=(s.fr c).par from q4]
 have hin:bJ (act S i).done S.aM.length:=by rw[show(act S i).done=c from a2];exact b.task q2
 unfold Am.aH;rw[hp];simp only;refine .mk b hi ((VY b hi hs t1 rfl rfl hin).trans (nR some (CB ?_ rfl))) w1 (by show(J S.aM (act S i).done.toNat).parent=fi (Am.ck s.hold i (some pp) i);rw[MB,Am.aC];rfl) rfl rfl (b.Ia (c:=.join pp) rfl (by rw[hp];rfl) hF _ _ _ _ _) (Lg.nt rfl) (by show(7:Nat)≠0;decide) (hh:=λj hj=>Am.aA hj);show(⟨0,0,7,(J S.aM (act S i).done.toNat).parent,(act S i).done,0⟩:ak)=_;rw[MB,show(act S i).done=c from a2];rfl
end
abbrev E0:ak:=⟨0,0,0,0,0,0⟩
section
variable {K:Nat}{C:Am.jv}{p:aE}{s:Am.St}{S:ag}{M M':af}{sz n i f:Nat}{D:aY}{d:Int}{T:List aX}{a:bK}
theorem ox.Yv{o:Am.Out}{q:Am.Pc}{x:Int}{l:Bool}{r:Option (ak×ag×af)}(b:xx C p s S M sz n)(hi:i<C.N)(hr:r=some (Mw o.ev,{ku (kZ S T) i a with value:=x,left:=l},M'))
 (Ir:a.bB=i) (hfr:a.az=fi (o.s.hold i)) (hq:o.s.pc=Am.ck s.pc i q) (hph:ph C i q (o.s.iE i) (o.s.cur i) o.s.base a) (har:AR C o.s M' sz (n+1)) (PR:Lg C o.s M M' o.acc) (Rn:Yd o.ev)
 (hT:T.length=C.F) (htk:∀g,g<o.s.nf->SV (o.s.fr g) g (GX.J T g)) (hl:l=o.s.val.isSome) (hx:x=o.s.val.getD 0)
 (hh:∀j,j≠i->o.s.hold j=s.hold j:=by intros;rfl) (htr:o.s.iE=s.iE:=by rfl) (hc:o.s.cur=s.cur:=by rfl) (hb:o.s.base=s.base:=by rfl):ox C p sz n M o r:=by
 refine⟨_,_,hr,?_,har,PR,Rn⟩;have h:=b.oR;have hwl:=h.wl;refine⟨h.code,h.res,h.tb,h.tf,h.lb,h.lw,h.dl,h.dq,hT,htk,by show(ku (kZ S T) i a).aj.length=_;rw[sE];exact h.wl,λj hj => ?_,hl,hx⟩;show aOK C o.s j (GX.J (S.aj.set i a) j);by_cases e:j=i
 ·subst e;rw[rL I,bg rfl];exact⟨Ir,hfr,by rw[hq,Am.aC];exact hph⟩
 ·rw[rL I,cQ e];obtain⟨w1,w2,w3⟩:=h.wk j hj;have ep:o.s.pc j=s.pc j:=by rw[hq];exact Am.aA e
  exact⟨w1,by rw[hh j e];exact w2,by rw[ep,htr,hc,hb];exact w3⟩
theorem EF(b:xx C p s S M sz n)(hf:f<s.nf){t:aX}{y:Am.Fr}(ht:SV y f t):∀g,g<s.nf->SV (Am.ck s.fr f y g) g (GX.J (S.aM.set f t) g):=λg hg=>by
 have hl:=b.oR.tl;have hn:s.nf<=C.F:=b.fi.zj;rw[rL I,Am.cG];by_cases e:g=f
 ·subst e;rw[bg rfl,bg rfl];exact ht
 ·rw[cQ e,cQ e];exact b.oR.tk g hg
def xO(S:ag)(M:af)(i:Nat)(D:aY)(f:Nat)(ci:cr)(t:aX):Option (ak×ag×af):=
 let fr:Int:=f
 if ci.aG=0 then if bJ ci.A 16 then some (E0,kZ S ((S.aM.set f t).set f ({t with bu:=mL 16 t.bu ci.A.toNat ci.K})),M)else none
 else if ci.aG=1 then if bJ ci.B 16 then if bJ ci.A 16 then some (E0,kZ S ((S.aM.set f t).set f ({t with bu:=mL 16 t.bu ci.A.toNat (GX.J t.bu ci.B.toNat)})),M)else none else none
 else if ci.aG=2 then if bJ ci.B 16 then if bJ ci.C 16 then uE (sw ci.K (GX.J t.bu ci.B.toNat) (GX.J t.bu ci.C.toNat)) (λug EO=>if bJ ci.A 16 then some (E0,kZ S ((S.aM.set f t).set f ({t with bu:=mL 16 t.bu ci.A.toNat ug})),M)else none)else none else none
 else if ci.aG=3 then some (E0,kZ S ((S.aM.set f t).set f ({t with J:=ci.A})),M)
 else if ci.aG=4 then if bJ ci.A 16 then(if(GX.J t.bu ci.A.toNat)=0 then some (E0,kZ S (S.aM.set f t),M)else some (E0,kZ S ((S.aM.set f t).set f ({t with J:=ci.B})),M))else none
 else if ci.aG=8 then if bJ ci.A 16 then some (E0,kZ S ((S.aM.set f t).set f ({t with bu:=mL 16 t.bu ci.A.toNat t.mN})),M)else none
 else if ci.aG=7 then dX (v7 (⟨S.dB,S.cL⟩:bp) fr ci.B) (λr51=>Lp (eV (ku (kZ S (S.aM.set f t)) i {act S i with dL:=r51}) M (i:Int)) (λr54 NR FL ZE=>(if r54=15 then if bJ fr FL.aM.length then if bJ ci.A 16 then some (E0,{FL with aM:=FL.aM.set f ({GX.J FL.aM f with bu:=mL 16 (GX.J FL.aM f).bu ci.A.toNat NR})},ZE)else none else none else if bJ (i:Int) FL.aj.length then uE (dN FL ZE (i:Int)) (λWY WZ=>some (WY,WZ,ZE))else none)))
 else if ci.aG=5 then rN (mm (kZ S (S.aM.set f t)) M (i:Int) ci) (λSr J5 Ss=>some (Sr,J5,Ss))
 else if ci.aG=6 then dX (xp (⟨S.dB,S.cL⟩:bp) fr) (λW0=>rN (dx ({S with aM:=S.aM.set f t,aj:=(S.aj.set i ({act S i with dL:=W0})).set i ({({act S i with dL:=W0}:bK)with aO:=5})}) M (i:Int) D) (λZF Vm Sy=>some (ZF,Vm,Sy)))
 else if bJ ci.A 16 then rN (mo (kZ S (S.aM.set f t)) M (i:Int) (GX.J t.bu ci.A.toNat)) (λr96 S97 S98=>some (r96,S97,S98))else none
variable (b:xx C p s S M sz n)(hi:i<C.N)
include b hi
structure Ins(p:aE)(C:Am.jv)(s:Am.St)(S:ag)(i f:Nat)(ci:cr)(t:aX):Prop where
 hh:s.hold i=some f
 hn:f<s.nf
 hF:f<C.F
 fr:(act S i).az=f
 fn:(s.fr f).fn<p.ah.length
 J:(s.fr f).J<512
 ok:QX p (GX.J p.ah (s.fr f).fn) ci
 HZ:MO (GX.J p.ah (s.fr f).fn)
 kd:0<=ci.aG/\ci.aG<10
 code:C.code (s.fr f).fn (s.fr f).J=mZ ci
 t:SV {s.fr f with J:=(s.fr f).J+1} f t
theorem Yw(hp:s.pc i= .run) :∃f ci t,Ins p C s S i f ci t/\kQ S M (i:Int) D=xO S M i D f ci t:=by
 obtain⟨f,hh,hn,hF,hfr⟩:=Ie b hi (by rw[hp];rfl);obtain⟨r1,r2,r3⟩:=b.fr f hn;have r3:=r3 (Am.ou b.fi hi hh).1;have cf:=b.cf;have e1:C.Re=p.ah.length:=by rw[cf];rfl
 have e2:C.len (s.fr f).fn=(GX.J p.ah (s.fr f).fn).ai.length:=by rw[cf];rfl
 have e3:C.code (s.fr f).fn (s.fr f).J=mZ (GX.J (GX.J p.ah (s.fr f).fn).ai (s.fr f).J):=by rw[cf];rfl
 rw[e1]at r1;rw[e2]at r3;have hs:=b.vd.HZ _ r1;have hc:=b.vd.code _ r1;have c5:=hs.J4;have hk:=(Code.snd hs hc).kind ((s.fr f).J:Int) I I;rw[di]at hk;have ht:=b.oR.tk f hn;have h1:bJ (act S i).az S.aM.length:=by rw[hfr];exact b.task hn
 have h2:bJ (GX.J S.aM (act S i).az.toNat).fn S.code.length:=by rw[hfr,di,ht.fn,b.oR.code];exact⟨I,I⟩
 have h3:bJ (GX.J S.aM (act S i).az.toNat).J (GX.J S.code (GX.J S.aM (act S i).az.toNat).fn.toNat).ai.length:=by rw[hfr,di,ht.fn,ht.J,b.oR.code,di];exact⟨I,I⟩
 refine⟨f,GX.J (GX.J p.ah (s.fr f).fn).ai (s.fr f).J,{GX.J S.aM f with J:=wi ((GX.J S.aM f).J+1)},⟨hh,hn,hF,hfr,r1,I,hc.ins _ r3,hs,hk,e3,⟨ht.fn,by show wi ((GX.J S.aM f).J+1)=_;rw[ht.J,fh I];rfl,ht.par,ht.slot,ht.bD,ht.mN,ht.bu⟩⟩,?_⟩;have KO:GX.J (GX.J S.code (GX.J S.aM f).fn.toNat).ai (GX.J S.aM f).J.toNat=GX.J (GX.J p.ah (s.fr f).fn).ai (s.fr f).J:=by rw[ht.fn,ht.J,b.oR.code,di,di]
 unfold kQ eu Fg fz Es eC nM rF aq;rw[di,bg h1,lO,bg h1,bg h2,bg h3];have aeJ:(GX.J S.aj i).az=(f:Int):=hfr;rw[aeJ,di,KO]
 rfl
end
theorem Jz(r:Nat):J (List.replicate 16 (0:Int)) r=0:=by
 unfold J;rw[List.getD_eq_getElem?_getD,List.getElem?_replicate];split<;>rfl
theorem SV.Ok{x:Am.Fr}{f A:Nat}{t:aX}(h:SV x f t)(v:Int):SV {x with bu:=Am.ck x.bu A v} f {t with bu:=mL 16 t.bu A v}:=
 ⟨h.fn,h.J,h.par,h.slot,h.bD,h.mN,λr hr=>by show GX.J (mL 16 t.bu A v) r=Am.ck x.bu A v r;rw[Ib hr,Am.cG,h.bu r hr]⟩
section
variable {K:Nat}{C:Am.jv}{p:aE}{s:Am.St}{S:ag}{M M':af}{sz n i f:Nat}{D:aY}{d:Int}{T:List aX}{a:bK}{ci:cr}{t:aX}
theorem Tf(b:xx C p s S M sz n)(hi:i<C.N):ku (kZ S T) i (act S i)=kZ S T:=by
 have:=K8 b hi;show({S with aM:=T,aj:=S.aj.set i (act S i)}:ag)=_;have e:S.aj.set i (act S i)=S.aj:=nR (·.aj) this;rw[e];rfl
variable (b:xx C p s S M sz n)(hi:i<C.N)(agd:Ins p C s S i f ci t)(hp:s.pc i= .run)
include b hi agd hp
theorem BS{y:Am.Fr}{t2:aX}{o:Am.Out}{r:Option (ak×ag×af)}(hr:r=some (E0,kZ S (S.aM.set f t2),M))(ho:o=⟨s.lay f y,none,none⟩)(ht:SV y f t2):ox C p sz n M o r:=by
 subst ho;obtain⟨w1,w2,w3⟩:=b.oR.wk i hi;rw[hp]at w3;refine ox.Yv (T:=S.aM.set f t2) (a:=act S i) (x:=S.value) (l:=S.left) (q:=.run) b hi (by rw[hr,Tf b hi];rfl) w1 w2 (by rw[<-hp,Am.tv];rfl) w3 (b.ar.keep rfl rfl rfl rfl) Lg.none_ trivial (by rw[gU];exact b.oR.tl) (EF b agd.hn ht) b.oR.left b.oR.val
theorem uf:Am.aH C s i d=Am.instr C s i:=by unfold Am.aH;rw[hp]
theorem Af{A:Int}(h:uJ A (GX.J p.ah (s.fr f).fn).dh=true):bJ A 16/\A.toNat<16:=by
 have h1:=ED h;have h2:=agd.HZ.r16;exact⟨⟨I,I⟩,I⟩
theorem P4{t2:aX}:(S.aM.set f t).set f t2=S.aM.set f t2:=nE ..
theorem acM(k:ci.aG=0):ox C p sz n M (Am.aH C s i d) (xO S M i D f ci t):=by
 have ok:=agd.ok.1;unfold nv at ok;rw[bg (.inl k)]at ok;obtain⟨r1,r2⟩:=Af b hi agd hp ok;refine BS b hi agd hp (t2:={t with bu:=mL 16 t.bu ci.A.toNat ci.K}) ?_ ?_ (agd.t.Ok ci.K)
 ·unfold xO;simp only;rw[bg k,bg r1,P4 b hi agd hp]
 ·rw[uf b hi agd hp];unfold Am.instr;simp only[agd.hh,pG];rw[agd.code];unfold mZ;rw[bg k]
theorem acN(k:ci.aG=1):ox C p sz n M (Am.aH C s i d) (xO S M i D f ci t):=by
 have ok:=agd.ok.1;unfold nv at ok;rw[ez,bg k,mI]at ok;obtain⟨r1,r2⟩:=Af b hi agd hp ok.1;obtain⟨q1,q2⟩:=Af b hi agd hp ok.2;refine BS b hi agd hp (t2:={t with bu:=mL 16 t.bu ci.A.toNat (GX.J t.bu ci.B.toNat)}) ?_ ?_ (agd.t.Ok _)
 ·unfold xO;simp only;rw[ez,bg k,bg q1,bg r1,P4 b hi agd hp]
 ·rw[uf b hi agd hp];unfold Am.instr;simp only[agd.hh,pG];rw[agd.code];unfold mZ;rw[ez,bg k,agd.t.bu _ q2]
theorem acO(k:ci.aG=2):ox C p sz n M (Am.aH C s i d) (xO S M i D f ci t):=by
 have ok:=agd.ok.1;unfold nv at ok;rw[ez,ez,bg k,mI,mI,mI]at ok;obtain⟨r1,r2⟩:=Af b hi agd hp ok.1.1.1;obtain⟨q1,q2⟩:=Af b hi agd hp ok.1.1.2;obtain⟨u1,u2⟩:=Af b hi agd hp ok.1.2;have ko:=ED ok.2;have hap:C.ap=VD:=by rw[b.cf];rfl
 refine BS b hi agd hp (t2:={t with bu:=mL 16 t.bu ci.A.toNat (VD ci.K (GX.J t.bu ci.B.toNat) (GX.J t.bu ci.C.toNat))}) ?_ ?_ (agd.t.Ok _)
 ·unfold xO;simp only;rw[ez,ez,bg k,bg q1,bg u1,Jv ko.1 ko.2,fQ,bg r1,P4 b hi agd hp]
 ·rw[uf b hi agd hp];unfold Am.instr;simp only[agd.hh,pG];rw[agd.code];unfold mZ;rw[ez,ez,bg k,agd.t.bu _ q2,agd.t.bu _ u2,hap]
theorem acP(k:ci.aG=3):ox C p sz n M (Am.aH C s i d) (xO S M i D f ci t):=by
 have ok:=agd.ok.1;unfold nv at ok;rw[ez,ez,ez,bg k]at ok;have h1:=ED ok;refine BS b hi agd hp (y:={s.fr f with J:=ci.A.toNat}) (t2:={t with J:=ci.A}) ?_ ?_ ⟨agd.t.fn,by show ci.A=((ci.A.toNat:Nat):Int);omega,agd.t.par,agd.t.slot,agd.t.bD,agd.t.mN,agd.t.bu⟩
 ·unfold xO;simp only;rw[ez,ez,ez,bg k,P4 b hi agd hp]
 ·rw[uf b hi agd hp];unfold Am.instr;simp only[agd.hh,pG];rw[agd.code];unfold mZ;rw[ez,ez,ez,bg k]
theorem acQ(k:ci.aG=4):ox C p sz n M (Am.aH C s i d) (xO S M i D f ci t):=by
 have ok:=agd.ok.1;unfold nv at ok;rw[ez,ez,ez,ez,bg k,mI]at ok;obtain⟨r1,r2⟩:=Af b hi agd hp ok.1;have h1:=ED ok.2;by_cases e:(s.fr f).bu ci.A.toNat=0
 ·refine BS b hi agd hp (y:={s.fr f with J:=(s.fr f).J+1}) (t2:=t) ?_ ?_ agd.t
  ·unfold xO;simp only;rw[ez,ez,ez,ez,bg k,bg r1,bg (by rw[agd.t.bu _ r2];exact e)]
  ·rw[uf b hi agd hp];unfold Am.instr;simp only[agd.hh,pG];rw[agd.code];unfold mZ;rw[ez,ez,ez,ez,bg k];simp only;rw[cQ (by simpa using e)]
 ·refine BS b hi agd hp (y:={s.fr f with J:=ci.B.toNat}) (t2:={t with J:=ci.B}) ?_ ?_ ⟨agd.t.fn,by show ci.B=((ci.B.toNat:Nat):Int);omega,agd.t.par,agd.t.slot,agd.t.bD,agd.t.mN,agd.t.bu⟩
  ·unfold xO;simp only;rw[ez,ez,ez,ez,bg k,bg r1,cQ (by rw[agd.t.bu _ r2];exact e),P4 b hi agd hp]
  ·rw[uf b hi agd hp];unfold Am.instr;simp only[agd.hh,pG];rw[agd.code];unfold mZ;rw[ez,ez,ez,ez,bg k];simp only;rw[bg e]
theorem acR(k:ci.aG=8):ox C p sz n M (Am.aH C s i d) (xO S M i D f ci t):=by
 have ok:=agd.ok.1;unfold nv at ok;rw[bg (.inr (.inl k))]at ok;obtain⟨r1,r2⟩:=Af b hi agd hp ok;refine BS b hi agd hp (t2:={t with bu:=mL 16 t.bu ci.A.toNat t.mN}) ?_ ?_ (agd.t.Ok _)
 ·unfold xO;simp only;rw[ez,ez,ez,ez,ez,bg k,bg r1,P4 b hi agd hp]
 ·rw[uf b hi agd hp];unfold Am.instr;simp only[agd.hh,pG];rw[agd.code];unfold mZ;rw[ez,ez,ez,ez,ez,ez,ez,ez,bg k,agd.t.mN]
theorem VZ:GX.J (S.aM.set f t) f=t:=by
 have h:=b.oR.tl;have hF:=agd.hF;rw[rL I,bg rfl]
theorem acS:bJ (f:Int) (S.aM.set f t).length:=by rw[gU];exact b.task agd.hn
theorem acT(k:ci.aG=7):ox C p sz n M (Am.aH C s i d) (xO S M i D f ci t):=by
 obtain⟨w1,w2,w3⟩:=b.oR.wk i hi;rw[hp]at w3;have ok:=agd.ok.1;unfold nv at ok;rw[ez,ez,ez,ez,ez,ez,ez,bg k,mI]at ok;obtain⟨r1,r2⟩:=Af b hi agd hp ok.1;have h1:=ED ok.2;have s8:=agd.HZ.s8;obtain⟨B,hB⟩ :∃B:Nat,ci.B=B:=⟨ci.B.toNat,I⟩;have hB8:B<8:=by omega
 have hs:=Yq b.ar b.z b.cN agd.hF hB8;have h:=yT (T:=S.aM.set f t) b hi (a:={act S i with dL:=jT C 5 f B 0}) hs (MA rfl rfl);have hst:Am.aH C s i d=⟨s.lay f {s.fr f with J:=(s.fr f).J+1,bu:=Am.ck (s.fr f).bu ci.A.toNat (s.mem (.slot f B))},none,Am.rM (.slot f B) (s.mem (.slot f B))⟩:=by
  rw[uf b hi agd hp];unfold Am.instr;simp only[agd.hh,pG];rw[agd.code];unfold mZ;rw[ez,ez,ez,ez,ez,ez,ez,bg k,hB,di]
 rw[hst];refine ox.Yv (M':=nt M M.cell 0 (Am.cS C s (.slot f B)) (s.mem (.slot f B)) 0 true) (T:=S.aM.set f {t with bu:=mL 16 t.bu ci.A.toNat (s.mem (.slot f B))}) (a:={act S i with dL:={jT C 5 f B 0 with ay:=0,fq:=15,mH:=s.mem (.slot f B)}}) (x:=S.value) (l:=S.left) (q:=.run) b hi ?_ w1 w2 (by show s.pc=_;rw[<-hp,Am.tv]) w3 (b.ar.same (s':=s.lay f {s.fr f with J:=(s.fr f).J+1,bu:=Am.ck (s.fr f).bu ci.A.toNat (s.mem (.slot f B))}) rfl rfl rfl rfl _ _ _ _ _) (Lg.nt rfl) trivial (by rw[gU];exact b.oR.tl) (EF b agd.hn (agd.t.Ok _)) b.oR.left b.oR.val;unfold xO v7;simp only;rw[ez,ez,ez,ez,ez,ez,bg k,Tb b hi,hB,P1 b.ok agd.hF hB8,ax,ax,h,kW,bg rfl];rw[bg (by exact acS b hi agd hp),bg r1];rw[show(ku (kZ S (S.aM.set f t)) i _).aM=S.aM.set f t from rfl,VZ b hi agd hp,P4 b hi agd hp];rfl
theorem acU(k:ci.aG=6):ox C p sz n M (Am.aH C s i d) (xO S M i D f ci t):=by
 obtain⟨w1,w2,w3⟩:=b.oR.wk i hi;have af9:=b.fi.jn f agd.hn;have hl:s.loc f= .uy i∨s.loc f= .held i:=(b.fi.hold i f hi agd.hh).elim (λa=>.inl a.2) (λa=>.inr a.2);have hjn:0<=s.mem (.join f)-1:=by
  have hg:(Am.view s).g i= .run:=by show Am.sig (s.pc i)=_;rw[hp];rfl
  rcases b.fi.hold i f hi agd.hh with h | h
  ·rw[hg]at h;exact absurd h.1 (by simp)
  ·rw[h.2]at af9;change s.mem (.join f)=1+(((s.bD f).length:Nat):Int)at af9;omega
 have hs:=Yp b.ar b.z b.cN agd.hF (b.SS rfl);have hst:Am.aH C s i d=(if 0<s.mem (.join f)-1 then⟨((((s.wr (.join f) (s.mem (.join f)-1)).lay f {s.fr f with J:=(s.fr f).J+1}).holds i none).to i .Ae).put f .waiting,Am.ev 4 f 0 0,Am.DS (.join f) (-1) (s.mem (.join f)-1)⟩
  else ⟨((((s.wr (.join f) (s.mem (.join f)-1)).lay f {s.fr f with J:=(s.fr f).J+1}).to i .nB).put f (.uy i)),none,Am.DS (.join f) (-1) (s.mem (.join f)-1)⟩):=by
  rw[uf b hi agd hp];unfold Am.instr;simp only[agd.hh,pG];rw[agd.code];unfold mZ;rw[ez,ez,ez,ez,ez,ez,bg k]
 have hr:xO S M i D f ci t=dx (ku (kZ S (S.aM.set f t)) i {act S i with dL:=jT C 3 f 0 0,aO:=5}) M (i:Int) D:=by
  unfold xO xp;simp only;rw[ez,ez,ez,ez,ez,ez,ez,ez,bg k,Tb b hi,Ic b.ok agd.hF,ax,ax,nE];show rN (dx (ku (kZ S (S.aM.set f t)) i {act S i with dL:=jT C 3 f 0 0,aO:=5}) M (i:Int) D) _=_;cases dx (ku (kZ S (S.aM.set f t)) i {act S i with dL:=jT C 3 f 0 0,aO:=5}) M (i:Int) D<;>rfl
 rw[hr,hst];by_cases h0:0<s.mem (.join f)-1
 ·rw[bg h0];rw[ez]at hs;refine ox.Yv (T:=S.aM.set f t) (x:=S.value) (l:=S.left) (q:=.Ae) b hi (Te b hi (a:={act S i with dL:=jT C 3 f 0 0,aO:=5}) w1 hs rfl rfl rfl agd.fr) w1 (by show(-1:Int)=fi (Am.ck s.hold i none i);rw[Am.aC];rfl) rfl ⟨rfl,⟨rfl,rfl,rfl,rfl⟩,rfl,rfl⟩ (b.Ia (c:=.join f) rfl (by rw[hp];rfl) agd.hF _ _ _ _ _) (Lg.nt rfl) (by show(4:Nat)≠0;decide) (by rw[gU];exact b.oR.tl) (EF b agd.hn agd.t) b.oR.left b.oR.val (hh:=λj hj=>Am.aA hj)
 ·rw[cQ h0];rw[rD]at hs;refine ox.Yv (T:=S.aM.set f t) (x:=S.value) (l:=S.left) (q:=.nB) b hi (VW b hi (a:={act S i with dL:=jT C 3 f 0 0,aO:=5}) hs rfl (by show(2:Int)>0;decide)) w1 w2 rfl ⟨rfl,rfl,rfl,?_,rfl,rfl⟩ (b.Ia (c:=.join f) rfl (by rw[hp];rfl) agd.hF _ _ _ _ _) (Lg.nt rfl) trivial (by rw[gU];exact b.oR.tl) (EF b agd.hn agd.t) b.oR.left b.oR.val;show(f:Int)=(((act S i).az.toNat:Nat):Int);rw[agd.fr];rfl
end
def aa7(C:Am.jv)(i:Nat):ct:=⟨2+10*(C.F:Int),C.N,i,4,10,1,0,0,0,List.replicate 64 ⟨0,0⟩,⟨0,0,0,0,0,0,0,0,0,0,0,0,0,false,0,0⟩⟩
section
variable {K:Nat}{C:Am.jv}{p:aE}{s:Am.St}{S:ag}{M M':af}{sz n i f:Nat}{D:aY}{d:Int}{T:List aX}{a:bK}{ci:cr}{t:aX}
theorem Tg(b:xx C p s S M sz n)(hi:i<C.N):ua (⟨S.gE,S.dV⟩:gw) (i:Int)=some (aa7 C i):=by
 have h1:=b.ok.n1;have h2:=b.ok.n64;unfold ua oM pY cH bT;rw[b.oR.lb,b.oR.lw];simp only;rw[ez,ez,ax,fh (x:=2+(C.N:Int)) I,rD,rD,uT I,ax,bg rfl];rfl
variable (b:xx C p s S M sz n)(hi:i<C.N)(agd:Ins p C s S i f ci t)(hp:s.pc i= .run)
include b hi agd hp
theorem Ow:bJ (act S i).az (S.aM.set f t).length:=by rw[agd.fr];exact acS b hi agd hp
theorem acV(k:ci.aG=9):ox C p sz n M (Am.aH C s i d) (xO S M i D f ci t):=by
 obtain⟨w1,w2,w3⟩:=b.oR.wk i hi;have ok:=agd.ok.1;unfold nv at ok;rw[bg (.inr (.inr k))]at ok;obtain⟨r1,r2⟩:=Af b hi agd hp ok;obtain⟨v,hv⟩ :∃v,v=(s.fr f).bu ci.A.toNat:=⟨_,rfl⟩;have hst:Am.aH C s i d=(if f=0 then⟨{((((s.lay f {s.fr f with J:=(s.fr f).J+1}).wr .result v).holds i none).to i .done).put 0 (.fin i)with val:=some v},Am.ev 6 0 (-1) v,Am.tL .result v⟩
  else ⟨((((s.lay f {s.fr f with J:=(s.fr f).J+1}).wr (.slot (s.fr f).par (s.fr f).slot) v).holds i none).to i (.out (s.fr f).par f)).put f (.fin i),Am.ev 6 f (s.fr f).par v,Am.tL (.slot (s.fr f).par (s.fr f).slot) v⟩):=by
  rw[uf b hi agd hp];unfold Am.instr;simp only[agd.hh,pG];rw[agd.code];unfold mZ;rw[ez,ez,ez,ez,ez,ez,ez,ez,ez,hv]
 have hin:=Ow b hi agd hp;have hgt:GX.J (S.aM.set f t) (act S i).az.toNat=t:=by rw[agd.fr,di];exact VZ b hi agd hp
 have hr:xO S M i D f ci t=mo (kZ S (S.aM.set f t)) M (i:Int) v:=by
  unfold xO;simp only;rw[ez,ez,ez,ez,ez,ez,ez,ez,ez,bg r1,agd.t.bu _ r2,hv];cases mo (kZ S (S.aM.set f t)) M (i:Int) _<;>rfl
 rw[hr];unfold mo eu nM rF aq;rw[di,bg (by exact hin),lO,bg (by exact hin),hst];by_cases h0:f=0
 ·rw[bg h0,bg (by show(act S i).az=0;rw[agd.fr,h0];rfl)];have aeK:=yu b.ar b.z b.cN (a:=.result) trivial v;have acW:dW M (kZ S (S.aM.set f t)).result v=some (0,nt M (M.cell.set (Am.cS C s .result).toNat v) 1 (Am.cS C s .result) v 0 true):=by rw[show(kZ S (S.aM.set f t)).result=Am.cS C s .result from b.oR.res];exact aeK
  rw[acW,fQ,bg rfl];have hfi:ua (⟨(kZ S (S.aM.set f t)).gE,(kZ S (S.aM.set f t)).dV⟩:gw) (J (kZ S (S.aM.set f t)).aj i).bB=some (aa7 C i):=by
   show ua (⟨S.gE,S.dV⟩:gw) (act S i).bB=_;rw[show(act S i).bB=i from w1];exact Tg b hi
  rw[hfi,ax];refine ox.Yv (T:=S.aM.set f t) (a:={act S i with eJ:=aa7 C i,az:=-1,aO:=7}) (x:=v) (l:=true) (q:=.done) b hi ?_ w1 (by show(-1:Int)=fi (Am.ck s.hold i none i);rw[Am.aC];rfl) rfl ⟨rfl,rfl,rfl,rfl,rfl,rfl,rfl⟩ (b.Ia (c:=.result) rfl (by rw[hp];rfl) trivial _ _ _ _ _) (Lg.nt rfl) (by show(6:Nat)≠0;decide) (by rw[gU];exact b.oR.tl) (EF b agd.hn agd.t) rfl rfl (hh:=λj hj=>Am.aA hj);show some ((⟨0,0,6,0,-1,v⟩:ak),({S with aM:=S.aM.set f t,aj:=((S.aj.set i _).set i _).set i _,value:=v,left:=true}:ag),_)=_;rw[nE,nE];rfl
 ·rw[cQ h0,cQ (by show ¬(act S i).az=0;rw[agd.fr];omega)];have hfr:=b.fr f agd.hn;have Ti:(s.fr f).par<s.nf:=b.fi.pr f agd.hn;have hpF:(s.fr f).par<C.F:=Nat.lt_of_lt_of_le Ti b.fi.zj;have hs:=aa5 b.ar b.z b.cN hpF hfr.2.1 v;have htb:=yT (T:=S.aM.set f t) b hi (a:={act S i with dL:=jT C 2 (s.fr f).par (s.fr f).slot v}) hs (VS rfl (by show(2:Int)>0;decide));have hbg:u6 (⟨(kZ S (S.aM.set f t)).dB,(kZ S (S.aM.set f t)).cL⟩:bp) (J (kZ S (S.aM.set f t)).aM (J (kZ S (S.aM.set f t)).aj i).az.toNat).parent (J (kZ S (S.aM.set f t)).aM (J (kZ S (S.aM.set f t)).aj i).az.toNat).slot v=some (jT C 2 (s.fr f).par (s.fr f).slot v):=by
   have aeL:J (kZ S (S.aM.set f t)).aM (J (kZ S (S.aM.set f t)).aj i).az.toNat=t:=hgt;rw[aeL,agd.t.par,agd.t.slot,cQ h0];unfold u6;rw[show(⟨(kZ S (S.aM.set f t)).dB,(kZ S (S.aM.set f t)).cL⟩:bp)=⟨1,C.F⟩from(show(⟨S.dB,S.cL⟩:bp)=⟨1,C.F⟩from Tb b hi),P1 b.ok hpF hfr.2.1,ax]
  rw[hbg,ax];rw[show({kZ S (S.aM.set f t)with aj:=(kZ S (S.aM.set f t)).aj.set i {J (kZ S (S.aM.set f t)).aj i with dL:=jT C 2 (s.fr f).par (s.fr f).slot v}}:ag)=ku (kZ S (S.aM.set f t)) i {act S i with dL:=jT C 2 (s.fr f).par (s.fr f).slot v}from rfl,htb,kW,bg rfl,bg (VV b hi)];rw[show J (ku (kZ S (S.aM.set f t)) i {act S i with dL:={jT C 2 (s.fr f).par (s.fr f).slot v with ay:=2}}).aj i={act S i with dL:={jT C 2 (s.fr f).par (s.fr f).slot v with ay:=2}}from vl (b.wl hi)];refine ox.Yv (T:=S.aM.set f t) (a:={act S i with dL:={jT C 2 (s.fr f).par (s.fr f).slot v with ay:=2},az:=-1,done:=(act S i).az,aO:=6}) (x:=S.value) (l:=S.left) (q:=.out (s.fr f).par f) b hi ?_ w1 (by show(-1:Int)=fi (Am.ck s.hold i none i);rw[Am.aC];rfl) rfl ⟨rfl,agd.fr,rfl,rfl,rfl,rfl,rfl⟩ (b.Ia (c:=.slot (s.fr f).par (s.fr f).slot) rfl (by rw[hp];rfl) ⟨hpF,hfr.2.1⟩ _ _ _ _ _) (Lg.nt rfl) (by show(6:Nat)≠0;decide) (by rw[gU];exact b.oR.tl) (EF b agd.hn agd.t) b.oR.left b.oR.val (hh:=λj hj=>Am.aA hj);show some ((⟨0,0,6,(act S i).az,(GX.J (S.aM.set f t) (act S i).az.toNat).parent,v⟩:ak),({S with aM:=S.aM.set f t,aj:=(((S.aj.set i _).set i _).set i _).set i _}:ag),_)=_;rw[nE,nE,nE];refine nR some (CB ?_ rfl);show(⟨0,0,6,(act S i).az,(GX.J (S.aM.set f t) (act S i).az.toNat).parent,v⟩:ak)=_;rw[hgt,agd.t.par,agd.fr,cQ h0];rfl
def Rr(L:List aX)(k:Nat):List aX:=L.set k {GX.J L k with bD:=wi ((GX.J L k).bD+1)}
def EG(ci:cr)(f:Nat)(pd:Int):aX:=⟨ci.B,0,(f:Int),ci.A,0,pd,List.replicate 16 (0:Int)⟩
theorem Ox{A B Cc:Nat}{HI:aX}(hk:SV (Am.kR C (s.fr f) f A B Cc) s.nf HI)(hlt:s.nf<C.F){L:List aX}(hL:L=(S.aM.set f t).set s.nf HI) :
 ∀g,g<s.nf+1->SV (Am.ck (Am.ck (Am.ck s.fr f {s.fr f with J:=(s.fr f).J+1}) f {s.fr f with J:=(s.fr f).J+1,bD:=(s.fr f).bD+1}) s.nf (Am.kR C (s.fr f) f A B Cc) g) g (GX.J (L.set f {GX.J L f with bD:=wi ((GX.J L f).bD+1)}) g):=λg hg=>by
 subst hL;have hl:=b.oR.tl;have hne:f≠s.nf:=Nat.ne_of_lt agd.hn;have hF:=agd.hF;have hkb:=b.bd.k f;have hbn:=b.n;have e1:GX.J ((S.aM.set f t).set s.nf HI) f=t:=by rw[rL (by rw[gU];omega),cQ hne];exact VZ b hi agd hp
 rw[e1,rL (by rw[gU,gU];omega),Am.cG];by_cases e:g=s.nf
 ·rw[bg e,ez,rL (by rw[gU];omega),bg e,e];exact hk
 ·rw[cQ e,Am.cG];by_cases e2:g=f
  ·rw[bg e2,bg e2,e2];exact⟨agd.t.fn,agd.t.J,agd.t.par,agd.t.slot,by show wi (t.bD+1)=(((s.fr f).bD+1:Nat):Int);rw[show t.bD=((s.fr f).bD:Int)from agd.t.bD,fh I];rfl,agd.t.mN,agd.t.bu⟩
  ·rw[cQ e2,cQ e2,Am.aA e2,rL (by rw[gU];omega),cQ e,rL I,cQ e2];exact b.oR.tk g I
theorem acX(k:ci.aG=5):ox C p sz n M (Am.aH C s i d) (xO S M i D f ci t):=by
 obtain⟨w1,w2,w3⟩:=b.oR.wk i hi;have ok:=agd.ok.1;have cl:=agd.ok.2;unfold nv at ok;rw[ez,ez,ez,ez,ez,bg k]at ok;unfold wV at cl;rw[bg k,mI,EV,CA,mI,CA,CA]at cl;have hA:=ED ok;have hB:=ED cl.1;have s8:=agd.HZ.s8;have r16:=agd.HZ.r16;have hPs:=b.vd.HZ ci.B.toNat I;have O:=hPs.O;have p8:=hPs.p8;obtain⟨P,hP⟩ :∃P:Nat,(GX.J p.ah ci.B.toNat).aS=P:=⟨(GX.J p.ah ci.B.toNat).aS.toNat,I⟩;have hcp:C.params ci.B.toNat=P:=by rw[b.cf];show(GX.J p.ah ci.B.toNat).aS.toNat=P;omega
 have hpd:C.pd (s.fr f).mN (s.fr f).bD=wi (wi (wi ((s.fr f).mN*1000003)+((s.fr f).bD:Int))+1):=by rw[b.cf];rfl
 have hkb:=b.bd.k f;have hbn:=b.n;obtain⟨pd,acY⟩ :∃pd,pd=C.pd (s.fr f).mN (s.fr f).bD:=⟨_,rfl⟩;have aeM:0<=s.mem .next/\s.mem .next<=1000000000000:=by
  have h2:=b.SS (a:=.next) rfl;have h1:s.mem .next=s.nf∨(s.nf=C.F/\(C.F:Int)<=s.mem .next):=b.fi.nx;omega
 have hst:Am.aH C s i d=(if(C.F:Int)<=s.mem .next+1-1 then⟨{((s.wr .next (s.mem .next+1)).lay f {s.fr f with J:=(s.fr f).J+1})with Mk:=true}.to i .full,Am.ev 11 (-1) 0 0,Am.DS .next 1 (s.mem .next+1)⟩
  else ⟨{((((s.wr .next (s.mem .next+1)).lay f {s.fr f with J:=(s.fr f).J+1}).lay f {s.fr f with J:=(s.fr f).J+1,bD:=(s.fr f).bD+1}).lay s.nf (Am.kR C (s.fr f) f ci.A.toNat ci.B.toNat ci.C.toNat))with nf:=s.nf+1}.put s.nf (.bW i) |>.to i (.fork s.nf),none,Am.DS .next 1 (s.mem .next+1)⟩):=by
  rw[uf b hi agd hp];unfold Am.instr;simp only[agd.hh,pG];rw[agd.code];unfold mZ;rw[ez,ez,ez,ez,ez,bg k];rfl
 have hr:xO S M i D f ci t=mm (kZ S (S.aM.set f t)) M (i:Int) ci:=by
  unfold xO;simp only;rw[ez,ez,ez,ez,ez,ez,ez,bg k];cases mm (kZ S (S.aM.set f t)) M (i:Int) _<;>rfl
 have hs:=Yr b.ar b.z b.cN aeM;have hTl:(S.aM.set f t).length=C.F:=by rw[gU];exact b.oR.tl
 have F0:0<C.F:=by have:=b.ok.f1;omega
 rw[hr];unfold mm nM rF aq;rw[show nZ (⟨(kZ S (S.aM.set f t)).dB,(kZ S (S.aM.set f t)).cL⟩:bp)=some (jT C 0 0 0 0) by
  unfold nZ;rw[show(⟨(kZ S (S.aM.set f t)).dB,(kZ S (S.aM.set f t)).cL⟩:bp)=⟨1,C.F⟩from(show(⟨S.dB,S.cL⟩:bp)=⟨1,C.F⟩from Tb b hi)];show dX (kP 0 (⟨1,C.F⟩:bp) ((0:Nat):Int) 0 0) _=_;rw[Ic b.ok F0];rfl,ax]
 rw[show({kZ S (S.aM.set f t)with aj:=(kZ S (S.aM.set f t)).aj.set (i:Int).toNat {J (kZ S (S.aM.set f t)).aj (i:Int).toNat with dL:=jT C 0 0 0 0}}:ag)=ku (kZ S (S.aM.set f t)) i {act S i with dL:=jT C 0 0 0 0}from rfl];by_cases h0:s.mem .next+1<=C.F
 ·rw[bg h0]at hs;have htb:=yT (T:=S.aM.set f t) b hi (a:={act S i with dL:=jT C 0 0 0 0}) hs (MA rfl rfl);have JA:s.mem .next=s.nf:=by
   have h1:s.mem .next=s.nf∨(s.nf=C.F/\(C.F:Int)<=s.mem .next):=b.fi.nx;rcases h1 with h | h
   ·exact h
   ·omega
  have hlt:s.nf<C.F:=by omega
  have EZ:s.nf≠0:=by have:1<=s.nf:=b.fi.Ao;omega
  have hne:f≠s.nf:=Nat.ne_of_lt agd.hn;have hin:=Ow b hi agd hp;have acZ:bJ (s.mem .next) (S.aM.set f t).length:=by rw[JA,hTl];exact⟨I,I⟩
  have aeN:bJ ci.B S.code.length:=by rw[b.oR.code];exact⟨I,I⟩
  have MB:(GX.J S.code ci.B.toNat).aS=P:=by rw[b.oR.code];exact hP
  have hgt:GX.J (S.aM.set f t) (act S i).az.toNat=t:=by rw[agd.fr,di];exact VZ b hi agd hp
  have Zh:wi (wi (wi ((GX.J (S.aM.set f t) (act S i).az.toNat).mN*1000003)+(GX.J (S.aM.set f t) (act S i).az.toNat).bD)+1)=pd:=by
   rw[hgt,acY,hpd,show t.mN=(s.fr f).mN from agd.t.mN,show t.bD=((s.fr f).bD:Int)from agd.t.bD]
  have hkt:∀R:List Int,(∀r,r<16->GX.J R r=if r<P then(s.fr f).bu (ci.C.toNat+r)else 0)->SV (Am.kR C (s.fr f) f ci.A.toNat ci.B.toNat ci.C.toNat) s.nf {EG ci f pd with bu:=R}:=λR hR =>
   ⟨by show ci.B=((ci.B.toNat:Nat):Int);omega,rfl,by rw[cQ EZ];rfl,by show ci.A=((ci.A.toNat:Nat):Int);omega,rfl,by show pd=C.pd (s.fr f).mN (s.fr f).bD;exact acY,λr hr=>by show GX.J R r=if r<C.params ci.B.toNat then(s.fr f).bu (ci.C.toNat+r)else 0;rw[hcp];exact hR r hr⟩
  unfold eu;rw[htb,kW,cQ (by show ¬(4:Int)=3;decide),bg (by rfl),bg (VV b hi),xy b hi,di];rw[bg (by exact hin),lO,bg (by exact hin),bg (by exact acZ),lO,bg (by exact acZ)];unfold BG;rw[ax,bg (by exact aeN)];have Zd:((s.mem .next).toNat:Nat)=s.nf:=by rw[JA];rfl
  by_cases hP0:P=0
  ·rw[cQ (by show ¬(GX.J S.code ci.B.toNat).aS>0;rw[MB];omega),ax,bg (by rw[gU];exact hin),hst,ez];refine ox.Yv (T:=((S.aM.set f t).set s.nf (EG ci f pd)).set f {GX.J ((S.aM.set f t).set s.nf (EG ci f pd)) f with bD:=wi ((GX.J ((S.aM.set f t).set s.nf (EG ci f pd)) f).bD+1)}) (a:={act S i with dL:={jT C 0 0 0 0 with ay:=0,fq:=4,mH:=s.mem .next},bW:=s.mem .next,aO:=2}) (x:=S.value) (l:=S.left) (q:=.fork s.nf) b hi ?_ w1 w2 rfl ⟨rfl,JA⟩ (b.Ia (c:=.next) rfl (by rw[hp];rfl) trivial _ _ _ _ _) (Lg.nt rfl) trivial (by rw[gU,gU];exact hTl) (Ox b hi agd hp (hkt _ (λr hr=>by rw[ez];exact Jz r)) hlt rfl) b.oR.left b.oR.val;refine nR some (CB rfl (CB ?_ rfl));have hX:Rr ((S.aM.set f t).set (s.mem .next).toNat (⟨ci.B,0,(act S i).az,ci.A,0,wi (wi (wi ((GX.J (S.aM.set f t) (act S i).az.toNat).mN*1000003)+(GX.J (S.aM.set f t) (act S i).az.toNat).bD)+1),List.replicate 16 (0:Int)⟩:aX)) (act S i).az.toNat=((S.aM.set f t).set s.nf (EG ci f pd)).set f {GX.J ((S.aM.set f t).set s.nf (EG ci f pd)) f with bD:=wi ((GX.J ((S.aM.set f t).set s.nf (EG ci f pd)) f).bD+1)}:=by
    rw[Zh,Zd,agd.fr,di];rfl
   show({S with aM:=Rr ((S.aM.set f t).set (s.mem .next).toNat (⟨ci.B,0,(act S i).az,ci.A,0,wi (wi (wi ((GX.J (S.aM.set f t) (act S i).az.toNat).mN*1000003)+(GX.J (S.aM.set f t) (act S i).az.toNat).bD)+1),List.replicate 16 (0:Int)⟩:aX)) (act S i).az.toNat,aj:=((S.aj.set i _).set i _).set i _}:ag)=_;rw[hX,nE,nE];rfl
  ·have hC:=cl.2.resolve_left (by rw[hP];omega);rw[hP]at hC;have hw:wi (ci.C+(P:Int))=ci.C+P:=fh I;have hw':wi (ci.C+(GX.J S.code ci.B.toNat).aS)=ci.C+P:=by rw[MB];exact hw
   rw[bg (by show(GX.J S.code ci.B.toNat).aS>0;rw[MB];omega),bg (by show 0<=ci.C/\ci.C<=wi (ci.C+(GX.J S.code ci.B.toNat).aS)/\wi (ci.C+(GX.J S.code ci.B.toNat).aS)<=16/\ci.C<16;rw[hw'];omega),ax,bg (by rw[gU,gU];exact hin),hst,ez];refine ox.Yv (T:=((S.aM.set f t).set s.nf {EG ci f pd with bu:=E8 16 (AE t.bu ci.C.toNat ((ci.C+(P:Int)).toNat-ci.C.toNat)) (List.replicate 16 (0:Int))}).set f {GX.J ((S.aM.set f t).set s.nf {EG ci f pd with bu:=E8 16 (AE t.bu ci.C.toNat ((ci.C+(P:Int)).toNat-ci.C.toNat)) (List.replicate 16 (0:Int))}) f with bD:=wi ((GX.J ((S.aM.set f t).set s.nf {EG ci f pd with bu:=E8 16 (AE t.bu ci.C.toNat ((ci.C+(P:Int)).toNat-ci.C.toNat)) (List.replicate 16 (0:Int))}) f).bD+1)}) (a:={act S i with dL:={jT C 0 0 0 0 with ay:=0,fq:=4,mH:=s.mem .next},bW:=s.mem .next,aO:=2}) (x:=S.value) (l:=S.left) (q:=.fork s.nf) b hi ?_ w1 w2 rfl ⟨rfl,JA⟩ (b.Ia (c:=.next) rfl (by rw[hp];rfl) trivial _ _ _ _ _) (Lg.nt rfl) trivial (by rw[gU,gU];exact hTl) (Ox b hi agd hp (hkt _ (λr hr=>by
    have hm:(ci.C+(P:Int)).toNat-ci.C.toNat=P:=by omega
    rw[hm,ZX hr,Fe];by_cases e:r<P
    ·rw[bg e,bg e,aa3 e,agd.t.bu _ I]
    ·rw[cQ e,cQ e,Jz])) hlt rfl) b.oR.left b.oR.val
   refine nR some (CB rfl (CB ?_ rfl));have e1:GX.J ((S.aM.set f t).set s.nf (EG ci f pd)) f=t:=by rw[rL (by rw[hTl];omega),cQ hne];exact VZ b hi agd hp
   have hX:Rr (((S.aM.set f t).set (s.mem .next).toNat (⟨ci.B,0,(act S i).az,ci.A,0,wi (wi (wi ((GX.J (S.aM.set f t) (act S i).az.toNat).mN*1000003)+(GX.J (S.aM.set f t) (act S i).az.toNat).bD)+1),List.replicate 16 (0:Int)⟩:aX)).set (s.mem .next).toNat (⟨ci.B,0,(act S i).az,ci.A,0,wi (wi (wi ((GX.J (S.aM.set f t) (act S i).az.toNat).mN*1000003)+(GX.J (S.aM.set f t) (act S i).az.toNat).bD)+1),E8 16 (AE (GX.J ((S.aM.set f t).set (s.mem .next).toNat (⟨ci.B,0,(act S i).az,ci.A,0,wi (wi (wi ((GX.J (S.aM.set f t) (act S i).az.toNat).mN*1000003)+(GX.J (S.aM.set f t) (act S i).az.toNat).bD)+1),List.replicate 16 (0:Int)⟩:aX)) (act S i).az.toNat).bu ci.C.toNat ((wi (ci.C+(GX.J S.code ci.B.toNat).aS)).toNat-ci.C.toNat)) (List.replicate 16 (0:Int))⟩:aX)) (act S i).az.toNat=((S.aM.set f t).set s.nf {EG ci f pd with bu:=E8 16 (AE t.bu ci.C.toNat ((ci.C+(P:Int)).toNat-ci.C.toNat)) (List.replicate 16 (0:Int))}).set f {GX.J ((S.aM.set f t).set s.nf {EG ci f pd with bu:=E8 16 (AE t.bu ci.C.toNat ((ci.C+(P:Int)).toNat-ci.C.toNat)) (List.replicate 16 (0:Int))}) f with bD:=wi ((GX.J ((S.aM.set f t).set s.nf {EG ci f pd with bu:=E8 16 (AE t.bu ci.C.toNat ((ci.C+(P:Int)).toNat-ci.C.toNat)) (List.replicate 16 (0:Int))}) f).bD+1)}:=by
    rw[Zh,Zd,hw',agd.fr,di,nE,show(⟨ci.B,0,(f:Int),ci.A,0,pd,List.replicate 16 (0:Int)⟩:aX)=EG ci f pd from rfl,e1];rfl
   show({S with aM:=Rr (((S.aM.set f t).set (s.mem .next).toNat (⟨ci.B,0,(act S i).az,ci.A,0,wi (wi (wi ((GX.J (S.aM.set f t) (act S i).az.toNat).mN*1000003)+(GX.J (S.aM.set f t) (act S i).az.toNat).bD)+1),List.replicate 16 (0:Int)⟩:aX)).set (s.mem .next).toNat (⟨ci.B,0,(act S i).az,ci.A,0,wi (wi (wi ((GX.J (S.aM.set f t) (act S i).az.toNat).mN*1000003)+(GX.J (S.aM.set f t) (act S i).az.toNat).bD)+1),E8 16 (AE (GX.J ((S.aM.set f t).set (s.mem .next).toNat (⟨ci.B,0,(act S i).az,ci.A,0,wi (wi (wi ((GX.J (S.aM.set f t) (act S i).az.toNat).mN*1000003)+(GX.J (S.aM.set f t) (act S i).az.toNat).bD)+1),List.replicate 16 (0:Int)⟩:aX)) (act S i).az.toNat).bu ci.C.toNat ((wi (ci.C+(GX.J S.code ci.B.toNat).aS)).toNat-ci.C.toNat)) (List.replicate 16 (0:Int))⟩:aX)) (act S i).az.toNat,aj:=((S.aj.set i _).set i _).set i _}:ag)=_;rw[hX,nE,nE];rfl
 ·rw[cQ h0]at hs;have htb:=yT (T:=S.aM.set f t) b hi (a:={act S i with dL:=jT C 0 0 0 0}) hs (MA rfl rfl);rw[htb,kW,bg (by rfl),bg (VV b hi),xy b hi,di,hst,rD];refine ox.Yv (T:=S.aM.set f t) (a:={act S i with dL:={jT C 0 0 0 0 with ay:=0,fq:=3,mH:=0},aO:=14}) (x:=S.value) (l:=S.left) (q:=.full) b hi ?_ w1 w2 rfl rfl (b.Ia (c:=.next) rfl (by rw[hp];rfl) trivial _ _ _ _ _) (Lg.nt rfl) (by show(11:Nat)≠0;decide) hTl (EF b agd.hn agd.t) b.oR.left b.oR.val;show some (_,({S with aM:=S.aM.set f t,aj:=(S.aj.set i _).set i _}:ag),_)=_;rw[nE];rfl
end
end Mo
end
end Go.Proofs.YtaiffafelihaaaaGreatDoor

/- A part of the proof of what U6 states. Conditions: none. -/
import Derived.Test.YtpikpffbcjpmcaaGreatDoorU4
set_option linter.unusedVariables false
set_option linter.unusedSimpArgs false
set_option linter.unusedSectionVars false
set_option maxRecDepth 100000
set_option maxHeartbeats 4000000
set_option autoImplicit true
set_option relaxedAutoImplicit true
namespace Go.Proofs.YtpikpffbcjpmcaaGreatDoor
open Proofs.Tryz
section
namespace Mo
open Go SL GX
section
variable {K:Nat}{p:aE}{N F f m:Nat}
structure TR(x:Am.TS)(d me:Int)(T:fC):Prop where
 pt:T.At=(x.J:Int)
 rg:∀r,r<16->GX.J T.rV r=x.bD r
 sg:∀s,s<8->GX.J T.mQ s=x.sl s
 kd:T.Kids=(x.bC:Int)
 WM:T.Me=me
 dp:T.iv=d
structure SIn(x:Am.TS):Prop where
 r:∀r,r<16->uW (x.bD r)
 s:∀s,s<8->uW (x.sl s)
theorem Az(hv:Valid p)(KP:P64 p){g a:Nat}(hg:g<p.ah.length)(ha:a<(GX.J p.ah g).ai.length) :
 let c:=GX.J (GX.J p.ah g).ai a
 nH (GX.J p.ah g) c=true/\wz p (GX.J p.ah g) c=true/\uW c.K/\(GX.J p.ah g).dw<=16/\(GX.J p.ah g).bM<=8/\
 (c.aN=0∨c.aN=1∨c.aN=2∨c.aN=3∨c.aN=4∨c.aN=5∨c.aN=6∨c.aN=7∨c.aN=8∨c.aN=9)/\(c.aN≠3->c.aN≠9->a+1<(GX.J p.ah g).ai.length):=by
 have hs:=hv.G3 g hg;have hc:=hv.code g hg;have hk:=(Code.snd hs hc).kind (a:Int) I I;rw[cQ]at hk;refine⟨(hc.ins a ha).1,(hc.ins a ha).2,(KP.c _ (sB hg) _ (sB ha)).2.2.2,hs.r16,hs.s8,I,λh3 h9=>Vl hc hs ha h3 h9⟩
theorem abb(hv:Valid p)(KP:P64 p){g:Nat}(hg:g<p.ah.length){x y:Am.TS}{pd:Int}(hx:x.J<(GX.J p.ah g).ai.length)(h:Am.Mn (cfg p N F f m) g pd x=some y)(i:SIn x)(TG:uW pd) :
 y.J<(GX.J p.ah g).ai.length/\SIn y:=by
 obtain⟨a1,a2,a3,a4,a5,hk,hl⟩:=Az hv KP hg hx;have h:(match nE (GX.J (GX.J p.ah g).ai x.J)with
  | .const a k=>some {x with J:=x.J+1,bD:=Am.cI x.bD a k}
  | .move a b=>some {x with J:=x.J+1,bD:=Am.cI x.bD a (x.bD b)}
  | .arith op a b c=>some {x with J:=x.J+1,bD:=Am.cI x.bD a (Vk op (x.bD b) (x.bD c))}
  | .jump a=>some {x with J:=a}
  | .branch a b=>some {x with J:=if x.bD a≠0 then b else x.J+1}
  | .lX a=>some {x with J:=x.J+1,bD:=Am.cI x.bD a pd}
  | .load a s=>some {x with J:=x.J+1,bD:=Am.cI x.bD a (x.sl s)}
  | .sync=>some {x with J:=x.J+1}
  | .spawn _ _ _=>none
  | .ret _=>none)=some y:=h
 generalize GX.J (GX.J p.ah g).ai x.J=c at *;have up:∀(a:Nat) (v:Int),uW v->SIn {x with J:=x.J+1,bD:=Am.cI x.bD a v}:=λa v hv=>⟨λr hr=>by
  show uW (Am.cI x.bD a v r);rw[Am.cS];split
  ·exact hv
  ·exact i.r r hr,i.s⟩
 unfold nH at a1;unfold nE at h;rcases hk with k | k | k | k | k | k | k | k | k | k<;>simp[k,uf]at a1 h hl
 ·subst h;exact⟨hl,up _ _ a3⟩
 ·subst h;exact⟨hl,up _ _ (i.r _ I)⟩
 ·subst h;exact⟨hl,up _ _ (adW I I (i.r _ I) (i.r _ I))⟩
 ·subst h;exact⟨by show c.A.toNat<_;omega,i.r,i.s⟩
 ·subst h;refine⟨?_,i.r,i.s⟩;show(if x.bD c.A.toNat=0 then x.J+1 else c.B.toNat)<_;split<;>omega
 ·subst h;exact⟨hl,i.r,i.s⟩
 ·subst h;exact⟨hl,up _ _ (i.s _ I)⟩
 ·subst h;exact⟨hl,up _ _ TG⟩
theorem Wj(hv:Valid p)(KP:P64 p)(hK:100<K){g:Nat}(hg:g<p.ah.length){x y:Am.TS}{pd d me:Int}{T:fC}{S:cy}
 (hx:x.J<(GX.J p.ah g).ai.length) (h:Am.Mn (cfg p N F f m) g pd x=some y) (h6:¬(GX.J (GX.J p.ah g).ai x.J).aN=6)
 (t:TR {x with J:=x.J+1} d me T) (i:SIn x) (hme:0<=me) (hm:me<S.bQ.length) (hp:(GX.J S.bQ me.toNat).Hh=pd) :
 ∃T',lV K S p.ah T (GX.J (GX.J p.ah g).ai x.J)=some T'/\TR y d me T':=by
 obtain⟨a1,a2,a3,a4,a5,hk,hl⟩:=Az hv KP hg hx;have h:(match nE (GX.J (GX.J p.ah g).ai x.J)with
  | .const a k=>some {x with J:=x.J+1,bD:=Am.cI x.bD a k}
  | .move a b=>some {x with J:=x.J+1,bD:=Am.cI x.bD a (x.bD b)}
  | .arith op a b c=>some {x with J:=x.J+1,bD:=Am.cI x.bD a (Vk op (x.bD b) (x.bD c))}
  | .jump a=>some {x with J:=a}
  | .branch a b=>some {x with J:=if x.bD a≠0 then b else x.J+1}
  | .lX a=>some {x with J:=x.J+1,bD:=Am.cI x.bD a pd}
  | .load a s=>some {x with J:=x.J+1,bD:=Am.cI x.bD a (x.sl s)}
  | .sync=>some {x with J:=x.J+1}
  | .spawn _ _ _=>none
  | .ret _=>none)=some y:=h
 generalize GX.J (GX.J p.ah g).ai x.J=c at *;have up:∀(a:Nat) (v:Int),TR {x with J:=x.J+1,bD:=Am.cI x.bD a v} d me {T with rV:=mN 16 T.rV a v}:=λa v=>⟨t.pt,λr hr=>by
  show GX.J (mN 16 T.rV a v) r=Am.cI x.bD a v r;rw[Fc hr,Am.cS,t.rg r hr],t.sg,t.kd,t.WM,t.dp⟩
 have rg:∀r,r<16->GX.J T.rV r=x.bD r:=t.rg;have sg:∀s,s<8->GX.J T.mQ s=x.sl s:=t.sg;unfold nH at a1;unfold nE at h;unfold lV;rcases hk with k | k | k | k | k | k | k | k | k | k
 ·simp[k,uf]at a1 h;rw[aP k,aP ⟨I,I⟩];subst h;exact⟨_,rfl,up _ _⟩
 ·simp[k,uf]at a1 h;rw[ef,aP k,aP ⟨I,I⟩,aP ⟨I,I⟩,rg _ I];subst h;exact⟨_,rfl,up _ _⟩
 ·simp[k,uf]at a1 h;have e:=P7 (K:=K) (op:=c.K) (x:=x.bD c.B.toNat) (y:=x.bD c.C.toNat) I I (i.r _ I) (i.r _ I) hK;rw[I4 I I]at e;rw[ef,ef,aP k,aP ⟨I,I⟩,aP ⟨I,I⟩,rg _ I,rg _ I,e,eR,aP ⟨I,I⟩];subst h;exact⟨_,rfl,up _ _⟩
 ·simp[k,uf]at a1 h;rw[ef,ef,ef,ef,ef,aP k];subst h;exact⟨_,rfl,by show c.A=(c.A.toNat:Int);omega,t.rg,t.sg,t.kd,t.WM,t.dp⟩
 ·simp[k,uf]at a1 h;rw[ef,ef,ef,ef,ef,ef,aP k,aP ⟨I,I⟩,rg _ I];subst h;by_cases e:x.bD c.A.toNat=0
  ·rw[aP e];exact⟨_,rfl,by show T.At=((if x.bD c.A.toNat=0 then x.J+1 else c.B.toNat:Nat):Int);rw[aP e];exact t.pt,t.rg,t.sg,t.kd,t.WM,t.dp⟩
  ·rw[cu e];exact⟨_,rfl,by show c.B=((if x.bD c.A.toNat=0 then x.J+1 else c.B.toNat:Nat):Int);rw[cu e];omega,t.rg,t.sg,t.kd,t.WM,t.dp⟩
 ·simp[k]at h
 ·exact absurd k h6
 ·simp[k,uf]at a1 h;rw[ef,ef,ef,aP k,aP ⟨I,I⟩,aP ⟨I,I⟩,sg _ I];subst h;exact⟨_,rfl,up _ _⟩
 ·simp[k,uf]at a1 h;rw[ef,ef,ef,ef,aP k,aP ⟨by rw[t.WM];exact hme,by rw[t.WM];exact hm⟩,aP ⟨I,I⟩,show(GX.J S.bQ T.Me.toNat).Hh=pd by rw[t.WM];exact hp];subst h;exact⟨_,rfl,up _ _⟩
 ·simp[k]at h
theorem Wk{args:List Int}(hn:args.length<=16):∀(e k g:Nat) (l:List Int),g+e=args.length->e<k->(∀r,r<16->GX.J l r=if r<g then GX.J args r else 0)->
 ∃l',iz K args k l (g:Int)=some l'/\∀r,r<16->GX.J l' r=if r<args.length then GX.J args r else 0
 | e,k,g,l,he,hk,hl=>by
  obtain⟨k,rfl⟩ :∃n,k=n+1:=⟨k-1,I⟩;rw[iz];by_cases hg:g<args.length
  ·obtain⟨e,rfl⟩ :∃n,e=n+1:=⟨e-1,I⟩;rw[p7,aP ⟨I,I⟩,aP ⟨I,I⟩,cQ,AX I];exact Wk hn e k (g+1) _ I I (λr hr=>by
    rw[Fc hr,hl r hr];by_cases e:r=g
    ·subst e;rw[aP rfl,p7]
    ·rw[cu e];by_cases e':r<g
     ·rw[aP e',p7]
     ·rw[cu e',ef])
  ·rw[ef];have:g=args.length:=by omega
   subst this;exact⟨l,rfl,hl⟩
theorem Wl{nd:gi}{T:fC}{x:Am.TS}{B C n g0:Nat}(hgf:nd.Func=(g0:Int))(hB:(GX.J (GX.J p.ah g0).ai T.At.toNat).B=(B:Int))(hBl:B<p.ah.length)(hC:n=0∨(GX.J (GX.J p.ah g0).ai T.At.toNat).C=(C:Int))(hP:(GX.J p.ah B).aS=(n:Int))(h16:n=0∨C+n<=16)(hn:n<=16)(hr:∀r,r<16->GX.J T.rV r=x.bD r) :
 ∀(e k g:Nat) (l:List Int),g+e=n->e<k->l.length=g->(∀r,r<g->GX.J l r=x.bD (C+r))->
 ∃l',iA K p.ah nd T k l (g:Int)=some l'/\l'.length=n/\∀r,r<n->GX.J l' r=x.bD (C+r)
 | e,k,g,l,he,hk,hl,hh=>by
  obtain⟨k,rfl⟩ :∃n,k=n+1:=⟨k-1,I⟩;rw[iA,hgf,cQ,hB,aP ⟨I,I⟩,cQ,hP];by_cases hg:g<n
  ·obtain⟨e,rfl⟩ :∃n,e=n+1:=⟨e-1,I⟩;have hC':(GX.J (GX.J p.ah g0).ai T.At.toNat).C=(C:Int):=by rcases hC with h | h;omega;exact h
   have agL:C+n<=16:=by rcases h16 with h | h;omega;exact h
   have ew:wi ((C:Int)+(g:Int))=((C+g:Nat):Int):=by rw[eO I];omega
   rw[p7,hC',ew,aP ⟨I,I⟩,p7,cQ,hr _ I,AX I];exact Wl hgf hB hBl hC hP h16 hn hr e k (g+1) _ I I (by simp[hl]) (λr GK=>by
    by_cases e:r=g
    ·subst e;have:GX.J (l++[x.bD (C+r)]) r=x.bD (C+r):=by
      unfold GX.J;rw[List.getD_eq_getElem?_getD,List.getElem?_append_right I,hl,Nat.sub_self];rfl
     exact this
    ·have:GX.J (l++[x.bD (C+g)]) r=GX.J l r:=by
      unfold GX.J;rw[List.getD_eq_getElem?_getD,List.getD_eq_getElem?_getD,List.getElem?_append_left I]
     rw[this];exact hh r I)
  ·rw[ef];exact⟨l,rfl,I,λr GK=>hh r I⟩
structure SO(S S':cy)(n t:Nat):Prop where
 er:S'.zO=0
 lf:S'.Left=S.Left-n
 nn:S'.bQ.length=S.bQ.length+t
 pd:∀i,i<S.bQ.length->(GX.J S'.bQ i).Hh=(GX.J S.bQ i).Hh
structure Wm(S:cy)(n:Nat):Prop where
 er:S.zO=0
 lf:(n:Int)<=S.Left
 l2:S.Left<=4194304
 nn:(S.bQ.length:Int)+S.Left<=9000000
def xL(S:cy)(me:Nat):cy:={S with Left:=wi (S.Left-1),bQ:=S.bQ.set me ({GX.J S.bQ me with mK:=wi ((GX.J S.bQ me).mK+1)})}
theorem Og{S:cy}{me n:Nat}(h:Wm S (n+1))(hm:me<S.bQ.length):SO S (xL S me) 1 0/\Wm (xL S me) n/\(xL S me).bQ.length=S.bQ.length:=by
 have e1:=h.lf;have e2:=h.l2;have e3:=h.nn;have el:(xL S me).Left=S.Left-1:=eO I;have en:(xL S me).bQ.length=S.bQ.length:=by show(S.bQ.set _ _).length=_;rw[hU]
 refine⟨⟨h.er,by rw[el];rfl,by rw[en];rfl,λi hi => ?_⟩,⟨h.er,by rw[el];omega,by rw[el];omega,by rw[el,en];omega⟩,en⟩;show(GX.J (S.bQ.set me _) i).Hh=_;rw[rf hm];split
 ·next e=>subst e;rfl
 ·rfl
theorem SO.refl{S:cy}(h:S.zO=0):SO S S 0 0:=⟨h,I,rfl,λ_ _=>rfl⟩
theorem SO.trans{S S' S'':cy}{n t n' t':Nat}(a:SO S S' n t)(b:SO S' S'' n' t'):SO S S'' (n+n') (t+t'):=
 ⟨b.er,by rw[b.lf,a.lf];omega,by rw[b.nn,a.nn];omega,λi hi=>by rw[b.pd i (by rw[a.nn];omega),a.pd i hi]⟩
theorem Wm.mono{S:cy}{n k:Nat}(h:Wm S n)(hk:k<=n):Wm S k:=⟨h.er,by have:=h.lf;omega,h.l2,h.nn⟩
theorem SO.sg{S S':cy}{n t k:Nat}(o:SO S S' n t)(h:Wm S (n+k))(ht:t<=n):Wm S' k:=by
 have e1:=h.lf;have e2:=h.l2;have e3:=h.nn;exact⟨o.er,by rw[o.lf];omega,by rw[o.lf];omega,by rw[o.lf,o.nn];omega⟩
theorem P8{C:Am.kY}{g:Nat}{pd:Int}{d:Nat}{x y:Am.TS}{n t:Nat}(h:Am.Pre C g pd d x y n t):t<=n/\y.bC<=x.bC+n:=by
 induction h with
 | nil=>exact⟨jU _,jU _⟩
 | Mn h e ih =>
  refine⟨I,?_⟩;rename_i y z _ _;have:z.bC=y.bC:=by
   unfold Am.Mn at e;split at e<;>first | (cases e;rfl) | cases e
  omega
 | spawn h e hd h1 e1 ih Wr=>exact⟨I,by show _+1<=_;omega⟩
def Fol(K:Nat)(p:aE)(g:Nat)(pd:Int)(d:Nat)(x y:Am.TS)(n t:Nat):Prop:=
 ∀(D:Nat) (nd:gi) (S:cy) (T:fC) (me:Nat),g<p.ah.length->4098<=D+d->nd.Func=(g:Int)->x.J<(GX.J p.ah g).ai.length->SIn x->uW pd->x.bC=0->TR x (d:Int) (me:Int) T->Wm S n->me<S.bQ.length->(GX.J S.bQ me).Hh=pd->
 y.J<(GX.J p.ah g).ai.length/\SIn y/\∃S' T' own,own<=n/\SO S S' n t/\TR y (d:Int) (me:Int) T'/\∀k,dB K p.ah nd (fW K D) (k+own) S T=dB K p.ah nd (fW K D) k S' T'
theorem Oh(hv:Valid p)(KP:P64 p)(hK:4200000<K){g:Nat}{pd:Int}{d:Nat}{a0:Nat->Int}{z:Am.TS}{n t a:Nat}(hF:Fol K p g pd d (Am.ent a0) z n t)(hg:g<p.ah.length)(e1:nE (GX.J (GX.J p.ah g).ai z.J)= .ret a)
 {D:Nat} (hD:4098<=D+d) {nd:gi} {S:cy} {args:List Int} (hf:nd.Func=(g:Int)) (TG:nd.Hh=pd) (hs:uW pd) (ha:args.length<=16) (hr:∀r,r<16->(if r<args.length then GX.J args r else 0)=a0 r) (h0:∀r,r<16->uW (a0 r)) (hG:Wm S (n+1)) (YK:(S.bQ.length:Int)+1+S.Left<=9000000) :
 ∃cnt S',fW K (D+1) S p.ah nd args (d:Int)=some (z.bD a,cnt,S')/\SO S S' (n+1) (t+1)/\uW (z.bD a):=by
 have g1:=hG.lf;have g2:=hG.l2;have g3:=hG.nn;obtain⟨l,Gy,Fy⟩:=Wk (K:=K) ha args.length K 0 (List.replicate 16 (0:Int)) I I (λr hr=>by
  rw[ef];unfold GX.J;rw[List.getD_eq_getElem?_getD,List.getElem?_replicate];split<;>rfl)
 have WT:=(hv.G3 g hg).c1;rw[fW]
 dsimp only
 have Gy:iz K args K (List.replicate 16 (0:Int)) 0=some l:=Gy;rw[Gy,au,aP ⟨I,I⟩];have af6 :∃v,(if((args.length:Nat):Int)=0 then some 0 else some (GX.J l 0))=some v:=by split<;>exact⟨_,rfl⟩
 obtain⟨v,hv0⟩:=af6;rw[hv0,au,p7];generalize hS1:({S with bQ:=S.bQ++[{nd with Arg:=v}],Deep:=if(d:Int)>S.Deep then(d:Int)else S.Deep}:cy)=S1;have n1:S1.bQ=S.bQ++[{nd with Arg:=v}]:=by rw[<-hS1]
 have n1l:S1.bQ.length=S.bQ.length+1:=by rw[n1,j6];rfl
 have n1f:S1.Left=S.Left:=by rw[<-hS1]
 have n1e:S1.zO=0:=by rw[<-hS1];exact hG.er
 have n1p:∀i,i<S.bQ.length->GX.J S1.bQ i=GX.J S.bQ i:=λi hi=>by
  rw[n1];unfold GX.J;rw[List.getD_eq_getElem?_getD,List.getD_eq_getElem?_getD,List.getElem?_append_left hi]
 have n1q:(GX.J S1.bQ S.bQ.length).Hh=pd:=by
  rw[n1];unfold GX.J;rw[List.getD_eq_getElem?_getD,List.getElem?_append_right I,Nat.sub_self];exact TG
 obtain⟨b1,b2,S2,T2,own,hown,o,tr,hl⟩:=hF D nd S1 ⟨((S.bQ.length:Nat):Int),(d:Int),l,List.replicate 8 (0:Int),0,0,0,0⟩ S.bQ.length hg hD hf (by show 0<_;omega)
  ⟨λr hr=>h0 r hr,λs _=>by show uW 0;unfold uW;omega⟩ hs rfl ⟨rfl,λr GK=>by rw[Fy r GK,hr r GK];rfl,λs hs=>by
   show GX.J (List.replicate 8 (0:Int)) s=0;unfold GX.J;rw[List.getD_eq_getElem?_getD,List.getElem?_replicate];split<;>rfl,rfl,rfl,rfl⟩ ⟨n1e,by rw[n1f];omega,by rw[n1f];exact g2,by rw[n1f,n1l];omega⟩ I n1q
 have hk:=hl (K-own-1+1);rw[show K-own-1+1+own=K by omega]at hk;rw[hk];obtain⟨a1,a2,a3,a4,a5,kk,a7⟩:=Az hv KP hg b1;have k9:(GX.J (GX.J p.ah g).ai z.J).aN=9/\(GX.J (GX.J p.ah g).ai z.J).A.toNat=a:=by
  unfold nE at e1;rcases kk with k | k | k | k | k | k | k | k | k | k<;>simp[k]at e1
  exact⟨k,e1⟩
 have hA:0<=(GX.J (GX.J p.ah g).ai z.J).A/\(GX.J (GX.J p.ah g).ai z.J).A<16:=by
  unfold nH at a1;simp[k9.1,uf]at a1;omega
 have o1:=o.er;have o2:=o.lf;have o3:=o.nn;obtain⟨Me,iv,rV,mQ,At,eA,End,Kids⟩:=T2;have q1:At=(z.J:Int):=tr.pt;have q2:Me=((S.bQ.length:Nat):Int):=tr.WM;have q3:∀r,r<16->GX.J rV r=z.bD r:=tr.rg;subst q1 q2;have e9:=k9.1;have FT:=k9.2;rw[dB,aP o1,ef,hf];simp only[cQ];rw[aP ⟨I,I⟩,aP ⟨I,I⟩,aP ⟨I,I⟩,ef,ef,aP e9,aP ⟨hA.1,I⟩,aP ⟨I,by rw[hU];omega⟩,q3 _ I,FT];refine⟨_,_,rfl,⟨o1,?_,?_,λi hi => ?_⟩,b2.r _ I⟩
 ·show wi (S2.Left-1)=_;rw[eO I];omega
 ·show((S2.bQ.set _ _).set _ _).length=_;rw[hU,hU];omega
 ·show(GX.J ((S2.bQ.set _ _).set _ _) i).Hh=_;rw[rf (by rw[hU];omega),ef,rf I,ef,o.pd i I,n1p i hi]
theorem follow(hv:Valid p)(KP:P64 p)(hK:4200000<K){g:Nat}{pd:Int}{d:Nat}{x y:Am.TS}{n t:Nat}(h:Am.Pre (cfg p N F f m) g pd d x y n t):Fol K p g pd d x y n t:=by
 induction h with
 | nil g pd d x =>
  intro D nd S T me hg hD hf hx hi hp hk tr ag2 hm TG;exact⟨hx,hi,S,T,0,jU _,SO.refl ag2.er,tr,λk=>rfl⟩
 | Mn h e ih =>
  rename_i g pd d x y z n t;intro D nd S T me hg hD hf hx hi hp hk tr ag2 hm TG;obtain⟨b1,b2,S1,T1,own,hown,o,Mp,hl⟩:=ih D nd S T me hg hD hf hx hi hp hk tr (ag2.mono (Nat.le_succ _)) hm TG;obtain⟨c1,c2⟩:=abb hv KP hg b1 e b2 hp;have G1:Wm S1 1:=o.sg ag2 (P8 h).1;have hm1:me<S1.bQ.length:=by rw[o.nn];omega
  obtain⟨w1,w2,w3⟩:=Og G1 hm1;have adY:=(hv.G3 g hg).IE;have hp1:(GX.J (xL S1 me).bQ me).Hh=pd:=by rw[w1.pd me hm1,o.pd me hm,TG]
  obtain⟨a1,a2,a3,a4,a5,kk,a7⟩:=Az hv KP hg b1;have g1:=G1.lf;have k59:¬(GX.J (GX.J p.ah g).ai y.J).aN=5/\¬(GX.J (GX.J p.ah g).ai y.J).aN=9:=by
   constructor<;>intro k<;>(
    have e:(match nE (GX.J (GX.J p.ah g).ai y.J)with
     | .const a k=>some {y with J:=y.J+1,bD:=Am.cI y.bD a k}
     | .move a b=>some {y with J:=y.J+1,bD:=Am.cI y.bD a (y.bD b)}
     | .arith op a b c=>some {y with J:=y.J+1,bD:=Am.cI y.bD a (Vk op (y.bD b) (y.bD c))}
     | .jump a=>some {y with J:=a}
     | .branch a b=>some {y with J:=if y.bD a≠0 then b else y.J+1}
     | .lX a=>some {y with J:=y.J+1,bD:=Am.cI y.bD a pd}
     | .load a s=>some {y with J:=y.J+1,bD:=Am.cI y.bD a (y.sl s)}
     | .sync=>some {y with J:=y.J+1}
     | .spawn _ _ _=>none
     | .ret _=>none)=some z:=e
    unfold nE at e;simp[k]at e)
  obtain⟨Me,iv,rV,mQ,At,eA,End,Kids⟩:=T1;have q1:At=(y.J:Int):=Mp.pt;have q2:Me=((me:Nat):Int):=Mp.WM;subst q1 q2;have pre:∀k R,dB K p.ah nd R (k+1) S1 ⟨(me:Int),iv,rV,mQ,(y.J:Int),eA,End,Kids⟩ =
   (if(GX.J (GX.J p.ah g).ai y.J).aN=6 then dB K p.ah nd R k (xL S1 me) ⟨(me:Int),iv,rV,mQ,wi ((y.J:Int)+1),wi ((if End>eA then End else eA)+1),0,Kids⟩
   else ei (lV K (xL S1 me) p.ah ⟨(me:Int),iv,rV,mQ,wi ((y.J:Int)+1),wi (eA+1),End,Kids⟩ (GX.J (GX.J p.ah g).ai y.J)) (λO9=>dB K p.ah nd R k (xL S1 me) O9)):=λk R=>by
   rw[dB,aP G1.er,ef,hf];simp only[cQ];rw[aP ⟨I,I⟩,aP ⟨I,I⟩,aP ⟨I,I⟩,cu k59.1];by_cases k6:(GX.J (GX.J p.ah g).ai y.J).aN=6
   ·rw[aP k6,aP k6];rfl
   ·rw[cu k6,cu k6,cu k59.2];rfl
  by_cases k6:(GX.J (GX.J p.ah g).ai y.J).aN=6
  ·have ez:z={y with J:=y.J+1}:=by
    have e:(match nE (GX.J (GX.J p.ah g).ai y.J)with
     | .const a k=>some {y with J:=y.J+1,bD:=Am.cI y.bD a k}
     | .move a b=>some {y with J:=y.J+1,bD:=Am.cI y.bD a (y.bD b)}
     | .arith op a b c=>some {y with J:=y.J+1,bD:=Am.cI y.bD a (Vk op (y.bD b) (y.bD c))}
     | .jump a=>some {y with J:=a}
     | .branch a b=>some {y with J:=if y.bD a≠0 then b else y.J+1}
     | .lX a=>some {y with J:=y.J+1,bD:=Am.cI y.bD a pd}
     | .load a s=>some {y with J:=y.J+1,bD:=Am.cI y.bD a (y.sl s)}
     | .sync=>some {y with J:=y.J+1}
     | .spawn _ _ _=>none
     | .ret _=>none)=some z:=e
    unfold nE at e;simp[k6]at e;exact e.symm
   refine⟨c1,c2,xL S1 me,⟨(me:Int),iv,rV,mQ,wi ((y.J:Int)+1),wi ((if End>eA then End else eA)+1),0,Kids⟩,own+1,I,o.trans w1,?_,λk => ?_⟩
   ·rw[ez];exact⟨AX I,Mp.rg,Mp.sg,Mp.kd,rfl,Mp.dp⟩
   ·rw[show k+(own+1)=k+1+own by omega,hl,pre,aP k6]
  ·obtain⟨T',Y,p2⟩:=Wj (T:=⟨(me:Int),iv,rV,mQ,wi ((y.J:Int)+1),wi (eA+1),End,Kids⟩) (S:=xL S1 me) (me:=(me:Int)) (d:=(d:Int)) (K:=K) hv KP I hg b1 e k6 ⟨AX I,Mp.rg,Mp.sg,Mp.kd,rfl,Mp.dp⟩ b2 I I (by rw[cQ];exact hp1);exact⟨c1,c2,xL S1 me,T',own+1,I,o.trans w1,p2,λk=>by rw[show k+(own+1)=k+1+own by omega,hl,pre,cu k6,Y,au]⟩
 | spawn h e hd h1 e1 ih Wr =>
  rename_i g pd d x y z n t s f0 c n1 t1 a;intro D nd S T me hg hD hf hx hi hp hk tr ag2 hm TG;obtain⟨b1,b2,S1,T1,own,hown,o,Mp,hl⟩:=ih D nd S T me hg hD hf hx hi hp hk tr (ag2.mono I) hm TG;have G1:Wm S1 (n1+1+1):=o.sg (ag2.mono I) (P8 h).1;have agM:=(P8 h).2;have gg1:=ag2.lf;have gg2:=ag2.l2;have hm1:me<S1.bQ.length:=by rw[o.nn];omega
  obtain⟨w1,w2,w3⟩:=Og G1 hm1;have adY:=(hv.G3 g hg).IE;have hp1:(GX.J (xL S1 me).bQ me).Hh=pd:=by rw[w1.pd me hm1,o.pd me hm,TG]
  obtain⟨a1,a2,a3,a4,a5,kk,a7⟩:=Az hv KP hg b1;have g1:=G1.lf;have g2:=G1.l2;have g3:=G1.nn;have e:nE (GX.J (GX.J p.ah g).ai y.J)= .spawn s f0 c:=e;have k5:(GX.J (GX.J p.ah g).ai y.J).aN=5/\(GX.J (GX.J p.ah g).ai y.J).A.toNat=s/\(GX.J (GX.J p.ah g).ai y.J).B.toNat=f0/\(GX.J (GX.J p.ah g).ai y.J).C.toNat=c:=by
   unfold nE at e;rcases kk with k | k | k | k | k | k | k | k | k | k<;>simp[k]at e
   exact⟨k,e⟩
  obtain⟨k5,kA,kB,kC⟩:=k5;unfold nH at a1;unfold wz at a2;simp[k5,uf]at a1 a2;obtain⟨⟨B0,B1⟩,a2⟩:=a2;have hsf:=hv.G3 f0 I;obtain⟨P,hP⟩ :∃P:Nat,(GX.J p.ah f0).aS=(P:Int):=⟨(GX.J p.ah f0).aS.toNat,by have:=hsf.O;omega⟩;have hP8:=hsf.p8;rw[kB,hP]at a2;obtain⟨D,rfl⟩ :∃D',D=D'+1:=⟨D-1,I⟩;obtain⟨Me,iv,rV,mQ,At,eA,End,Kids⟩:=T1;have q1:At=(y.J:Int):=Mp.pt;have q2:Me=((me:Nat):Int):=Mp.WM;have q3:iv=(d:Int):=Mp.dp;have q4:Kids=(y.bC:Int):=Mp.kd;subst q1 q2 q3 q4;obtain⟨l,l1,l2,l3⟩:=Wl (K:=K) (p:=p) (nd:=nd) (T:=⟨(me:Int),(d:Int),rV,mQ,(y.J:Int),eA,End,(y.bC:Int)⟩) (x:=y) (B:=f0) (C:=c) (n:=P) hf (by show(GX.J (GX.J p.ah g).ai ((y.J:Int)).toNat).B=_;rw[cQ];omega) I (by show _∨(GX.J (GX.J p.ah g).ai ((y.J:Int)).toNat).C=_;rw[cQ];omega) hP I I Mp.rg P K 0 [] I I rfl (λr hr=>I);have l1:iA K p.ah nd ⟨(me:Int),(d:Int),rV,mQ,(y.J:Int),eA,End,(y.bC:Int)⟩ K [] 0=some l:=l1;have af7:∀r,r<16->(if r<l.length then GX.J l r else 0)=Am.arg (cfg p N F f m) y.bD f0 c r:=λr hr=>by
   have:(cfg p N F f m).params f0=P:=by show(GX.J p.ah f0).aS.toNat=P;omega
   unfold Am.arg;rw[this,l2];split
   ·next hh=>rw[l3 r hh]
   ·rfl
  have af8:∀r,r<16->uW (Am.arg (cfg p N F f m) y.bD f0 c r):=λr hr=>by
   have:(cfg p N F f m).params f0=P:=by show(GX.J p.ah f0).aS.toNat=P;omega
   unfold Am.arg;rw[this];split
   ·exact b2.r _ I
   ·unfold uW;omega
  obtain⟨cnt,S3,r1,r2,r3⟩:=Oh (D:=D) (nd:=(⟨(me:Int),(y.bC:Int),(GX.J (GX.J p.ah g).ai y.J).B,0,(cfg p N F f m).pd pd y.bC,0,0⟩:gi)) (S:=xL S1 me) (args:=l) hv KP hK Wr I e1 I (by show(GX.J (GX.J p.ah g).ai y.J).B=_;omega) rfl (Hl _) I af7 af8 w2 (by
   have e4:(xL S1 me).Left=S1.Left-1:=eO I;rw[e4,w3];omega)
  refine⟨by show y.J+1<_;exact a7 I I,⟨b2.r,λs' hs' => ?_⟩,S3,⟨(me:Int),(d:Int),rV,mN 8 mQ (GX.J (GX.J p.ah g).ai y.J).A.toNat (z.bD a),wi ((y.J:Int)+1),wi (eA+1),(if(wi ((wi (eA+1))+cnt))>End then(wi ((wi (eA+1))+cnt))else End),wi ((y.bC:Int)+1)⟩,own+1,I,?_,?_,λk => ?_⟩
  ·show uW (Am.cI y.sl s (z.bD a) s');rw[Am.cS];split
   ·exact r3
   ·exact b2.s s' hs'
  ·have:=o.trans (w1.trans r2);rw[show n+1+(n1+1)=n+(1+(n1+1)) by omega,show t+(t1+1)=t+(0+(t1+1)) by omega];exact this
  ·refine⟨AX I,Mp.rg,λs' hs' => ?_,AX I,rfl,rfl⟩;show GX.J (mN 8 mQ _ _) s'=Am.cI y.sl s (z.bD a) s';rw[Fc hs',Am.cS,kA,Mp.sg s' hs']
  ·rw[show k+(own+1)=k+1+own by omega,hl,dB,aP G1.er,ef,hf];simp only[cQ];rw[aP ⟨I,I⟩,aP ⟨I,I⟩,aP ⟨I,I⟩,aP k5,ef,l1,au,aP ⟨I,by rw[hU];omega⟩];have r1:fW K (D+1) (xL S1 me) p.ah (⟨(me:Int),(y.bC:Int),(GX.J (GX.J p.ah g).ai y.J).B,0,(cfg p N F f m).pd pd y.bC,0,0⟩:gi) l (wi ((d:Int)+1))=some (z.bD a,cnt,S3):=by rw[AX I];exact r1
   have hp2:uM (GX.J (S1.bQ.set me ({GX.J S1.bQ me with mK:=wi ((GX.J S1.bQ me).mK+1)})) me).Hh (y.bC:Int)=some ((cfg p N F f m).pd pd y.bC):=by
    have:(GX.J (S1.bQ.set me ({GX.J S1.bQ me with mK:=wi ((GX.J S1.bQ me).mK+1)})) me).Hh=pd:=hp1;rw[this];rfl
   rw[hp2,au];refine(nV (λo=>qd o _) r1).trans ?_;rw[dr,aP ⟨I,I⟩]
end
section
variable {K:Nat}{C:Am.kY}
def RB(args:List Int):Am.Dsc:=⟨0,1,1,λr=>if(0:Nat)=0 then GX.J args r else 0⟩
def SJ(args:List Int)(C:Am.kY)(s:Am.St)(l:List aq)(g:Nat):Prop:=
 (∃(φ:Am.P3 C) (σ:Nat->Nat->Nat) (γ:Am.SG),Am.SL C φ s σ/\Am.SI C (RB args) s γ g)/\∀e∈l,e.aN=6->e.Frame=0->∃n t,Am.Dn C (RB args) (e.V,n,t)/\n<=g
theorem YA{p:aE}{N F f m:Nat}{args:List Int}(hv:Valid p):SJ args (cfg p N F f m) (init (cfg p N F f m) args) [] 0:=by
 obtain⟨φ,_⟩:=Yy (N:=N) (F:=F) (f:=f) (m:=m) hv;refine⟨⟨φ,λ_ _=>1,⟨λ_ _=>none,λ_=>RB args,λ_=>0,λ_=>0⟩,⟨?_,?_,?_,?_,?_⟩,⟨?_,?_,rfl,?_,?_,?_,?_⟩⟩,λe he=>by cases he⟩
 ·intro f' hf _ c hc;exact φ.r0 0 hv.n1 c hc
 ·intro f' _ _ k hk;cases hk
 ·intro i c _ h;have h:(if i=0 then Am.Pc.start (-1)else .oB)= .fork c:=h;split at h<;>cases h
 ·intro f' k hk;cases hk
 ·intro i c _ h;have h:(if i=0 then Am.Pc.start (-1)else .oB)= .fork c:=h;split at h<;>cases h
 ·intro k hk _ _;have hk:k<1:=hk;have e:k=0:=by omega
  subst e;intro vs _;exact Am.Pre.nil _ _ _ _
 ·intro k hk;have hk:k<1:=hk;have e:k=0:=by omega
  subst e;exact⟨rfl,rfl,jU _⟩
 ·intro k x c h;cases h
 ·intro c h0 hc _;have hc:c<1:=hc;omega
 ·intro k _;exact⟨λ_=>rfl,rfl,rfl,λ_=>rfl⟩
 ·exact jU _
theorem YB{args:List Int}{p:aE}{s:Am.St}{S:ag}{M:af}{sz g i:Nat}{l:List aq}{d:Int}(b:xJ C p s S M sz g)(j:SJ args C s l g)(hi:i<C.N):SJ args C (Am.aJ C s i d).s (Jg g i l (Am.aJ C s i d).ev) (g+1):=by
 obtain⟨⟨φ,σ,γ,sl,si⟩,j2⟩:=j;obtain⟨σ',sl'⟩:=sl.aJ b.ok b.fr b.fi b.dt hi d;obtain⟨⟨γ',si'⟩,rt⟩:=si.aJ b.ok sl b.fr b.fi b.dt hi d;refine⟨⟨φ,σ',γ',sl',si'⟩,λe he h6 h0 => ?_⟩;rcases KO he with he | ⟨x,hx,rfl⟩
 ·obtain⟨n,t,a1,a2⟩:=j2 e he h6 h0;exact⟨n,t,a1,I⟩
 ·exact rt x hx (by have h6:(x.kind:Int)=6:=h6;omega) h0
theorem Wn{c:bO}{r:List aq}{b:Bool}(e:lN K c=some (r,true,b)):iO K c=some 0:=by
 unfold lN at e;cases h1:ow K c with
 | none=>rw[h1]at e;cases e
 | some t =>
  rw[h1,au]at e;cases h2:sv K (⟨t.bS⟩:aE) t.oQ t.di (⟨t.eL,t.fD,t.gJ⟩:eP) (⟨t.dx,t.fB⟩:mj)with
  | none=>rw[h2]at e;cases e
  | some q =>
   obtain⟨q1,q2,q3⟩:=q;rw[h2,dr]at e;cases h3:iO K c with
   | none=>rw[h3]at e;cases e
   | some z =>
    rw[h3,au]at e;split at e
    ·split at e
     ·next a b=>rw[<-a,b]
     ·cases e
    ·cases e
theorem Tn{c:bO}(e:iO K c=some 0) :∃x,j4 K (⟨c.bS⟩:aE)=some x/\x.zO=0:=by
 unfold iO at e;cases h1:od (⟨c.dx,c.fB⟩:mj)with
 | none=>rw[h1]at e;cases e
 | some t =>
  rw[h1,au]at e;split at e
  ·cases e
  ·unfold mD at e;cases h2:j4 K (⟨c.bS⟩:aE)with
   | none=>rw[h2]at e;cases e
   | some x =>
    refine⟨x,rfl,?_⟩;rw[h2,au]at e;by_cases hx:x.zO=0
    ·exact hx
    ·rw[cu hx]at e;cases e
theorem YC{p:aE}{N F f m:Nat}{args:List Int}{DR:Int}{v:Int}{n t:Nat}(hv:Valid p)(KP:P64 p)(abc:∀x∈args,JC x)(hK:4200000<K)(hc :∃x,j4 K p=some x/\x.zO=0)(ha:(args.length:Int)=(GX.J p.ah 0).aS)(hp:DR<=1048576)
 (h:Am.Dn (cfg p N F f m) (RB args) (v,n,t)) (hn:(n:Int)<=DR) :∃r,pI K p args DR=some (r,0)/\r.V=v:=by
 obtain⟨x,c1,c2⟩:=hc;obtain⟨z,a,n',t',h1,h2,h3⟩:=h;injection h3 with h3 h4
 injection h4 with h4 h5
 have hR:oM K p args DR=some 0:=by
  unfold oM;have:=hv.n1;rw[c1,au,aP c2,aP ⟨I,I⟩,aP ha,ef,ef]
 have s0:=hv.G3 0 hv.n1;have hp8:=s0.p8;obtain⟨D,hD⟩ :∃D,K=D+1:=⟨K-1,I⟩;obtain⟨cnt,S',r1,r2,_⟩:=Oh (K:=K) (p:=p) (g:=0) (pd:=1) (d:=1) (D:=D) (nd:=(⟨-1,0,0,0,1,0,0⟩:gi)) (S:=(⟨DR,0,([]:List gi),0⟩:cy)) (args:=args) hv KP hK (follow hv KP hK h1) hv.n1 h2 I rfl rfl (by unfold uW;omega) I
  (λr hr=>by
   show _=(if(0:Nat)=0 then GX.J args r else 0);rw[aP rfl];split
   ·rfl
   ·next hh=>unfold GX.J;rw[List.getD_eq_getElem?_getD,List.getElem?_eq_none I];rfl)
  (λr hr=>by
   show uW (if(0:Nat)=0 then GX.J args r else 0);rw[aP rfl];by_cases hh:r<args.length
   ·have:=abc _ (sB hh);unfold JC at this;unfold uW;omega
   ·unfold GX.J;rw[List.getD_eq_getElem?_getD,List.getElem?_eq_none I];show uW 0;unfold uW;omega)
  ⟨rfl,by show((n'+1:Nat):Int)<=DR;omega,by show DR<=4194304;omega,by show((0:Nat):Int)+DR<=9000000;omega⟩ (by show((0:Nat):Int)+1+DR<=9000000;omega)
 have r1:oe K (⟨DR,0,([]:List gi),0⟩:cy) p.ah (⟨-1,0,0,0,1,0,0⟩:gi) args 1=some (z.bD a,cnt,S'):=by
  unfold oe;rw[<-hD]at r1;exact r1
 unfold pI tU;rw[hR,au,aP rfl,r1,dr,aP r2.er,dr];exact⟨_,rfl,h3.symm⟩
theorem Oi{c:bO}{r:List aq}(hb:r.length<=1048576)(hr:∀e∈r,e.aN=6->e.Frame=0->∃x,pI K (⟨c.bS⟩:aE) c.oQ ((c.dx.length:Nat):Int)=some (x,0)/\x.V=e.V) :
 ∀(e k g:Nat),g+e=r.length->e<k->gW K c r k (g:Int)=some true
 | e,k,g,he,hk=>by
  obtain⟨k,rfl⟩ :∃m,k=m+1:=⟨k-1,I⟩;rw[gW];by_cases hg:g<r.length
  ·obtain⟨e,rfl⟩ :∃m,e=m+1:=⟨e-1,I⟩;have ih:=Oi hb hr e k (g+1) I I;rw[p7,aP ⟨I,I⟩,cQ];by_cases h6:(GX.J r g).aN=6
   ·rw[aP h6,au];by_cases h0:(GX.J r g).Frame=0
    ·rw[aP (by rw[h0];rfl)];obtain⟨x,x1,x2⟩:=hr _ (sB hg) h6 h0;rw[x1,eR,aP rfl,aP ⟨I,I⟩,x2];simp
    ·rw[cu (by simp[h0]),AX I];exact ih
   ·rw[cu h6,au,cu eC,AX I];exact ih
  ·rw[ef]
theorem Oj{c:bO}(h:Small c)(KP:P64 ⟨c.bS⟩)(abc:∀x∈c.oQ,JC x)(hK:4200000<K):lC K c=some true:=by
 unfold lC;rcases Yw (K:=K) h I (agZ:=SJ c.oQ) (λN F f m hv _=>YA hv) (λC p s S M sz l g i d b j hi=>YB b j hi)with ⟨r,e⟩ | ⟨r,C,s,g,e,j,hr,hF,h1,h4,hgp,hv,ha,hCO,N,F,f,m,hC,hN⟩
 ·rw[e,dr,aP rfl,cu eC,KV]
 ·rw[e,dr,aP rfl,aP rfl,fA];have hp:=h.p;have:=Oi (K:=K) (c:=c) hr (λe' he h6 h0=>by
   obtain⟨n,t,d1,d2⟩:=j.2 e' he h6 h0;rw[hC]at d1;exact YC (p:=⟨c.bS⟩) hv KP abc hK (Tn (Wn e)) ha I d1 I) r.length K 0 I I
  rw[pL]at this;exact this
end
end Mo
end
end Go.Proofs.YtpikpffbcjpmcaaGreatDoor

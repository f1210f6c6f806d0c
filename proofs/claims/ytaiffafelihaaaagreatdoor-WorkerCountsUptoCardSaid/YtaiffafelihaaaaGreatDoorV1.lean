/- plunderlaw11.WorkerCounts answers true for every input of the bulk that the statement names, and leaves its input alone. Conditions: none. -/
import Derived.Test.YtaiffafelihaaaaGreatDoorV0
set_option linter.unusedVariables false
set_option linter.unusedSimpArgs false
set_option linter.unusedSectionVars false
set_option maxRecDepth 100000
set_option maxHeartbeats 4000000
set_option autoImplicit true
set_option relaxedAutoImplicit true
namespace Go.Proofs.YtaiffafelihaaaaGreatDoor
section
namespace Mo
open Go Go.RowKit SL GX
structure aV where
 rest:List Int
deriving Inhabited,DecidableEq
def BU(x:aV):Int:=x.rest.headD 0
def I3(x:aV):aV:=⟨x.rest.tail⟩
def xo(b:Nat)(x:aV):bu:=exs λk:Nat=>exs λpa:Nat=>exs λpl:Nat=>exs λpg:Nat=>exs λca:gF=>exs λcc:Nat=>exs λl:List Int =>
 aG [SF (k<=l.length/\l.length*8<=140737488355328/\x.rest=l.drop k),pts b (.cells #[.func (.func 65) #[] #[pA pa 0,pA pl 0,pA pg 0]] 158),pts pa (.cells #[Z k] 3),pts pl (.cells #[.slice ca l.length cc] 28),rowOf 3 1 aO (.slice ca l.length cc) l,pts pg (.cells #[vB false] 4)]
theorem TA{l:List Int}{k:Nat}(hk:k<=l.length)(hb:l.length*8<=140737488355328):Md.u5 (k:Int) l false=some (if k=l.length then(0,(k:Int))else(J l k,((k+1:Nat):Int))):=by
 have e1:wi ((k:Int)+1)=((k+1:Nat):Int):=by rw[eO I];omega
 have e2:wi (((k+1:Nat):Int)-1)=(k:Int):=by rw[eO I];omega
 unfold Md.u5;by_cases c:k=l.length
 ·subst c;simp[eA]
 ·have c':¬(k:Int)=((l.length:Nat):Int):=by omega
  have hi:bM (k:Int) l.length:=by unfold bM;omega
  simp only[bZ c',bZ c,eA,e1,e2,aM hi,cL]
theorem TB{l:List Int}{k:Nat}{x:aV}(hk:k<=l.length)(hx:x.rest=l.drop k):(if k=l.length then(0,(k:Int))else(J l k,((k+1:Nat):Int)))=(BU x,(((if k=l.length then k else k+1):Nat):Int))/\(if k=l.length then k else k+1)<=l.length/\(I3 x).rest=l.drop (if k=l.length then k else k+1):=by
 unfold BU I3;rw[hx];by_cases c:k=l.length
 ·subst c;simp
 ·have hlt:k<l.length:=by omega
  simp only[bZ c];refine⟨?_,I,by rw[List.tail_drop]⟩;rw[Te hlt,PS hlt];rfl
theorem Rm{z w:World}{L:List bu}{α:Type}{b:Nat}{E:TypeId}{sz:Nat}{enc:α->List Value}(h:Fit z (aG (pts b (.cells #[] E)::L)) w):Fit z (aG (rowOf E sz enc (.slice (some ⟨b,0,none⟩) 0 0) ([]:List α)::L)) w:=
 h.head λy hy=>.inr ⟨b,0,#[],rfl,ja _,by simp[maxLen],by simp,by simp,hy⟩
theorem TC{z w:World}{L:List bu}{va:gF}{vc:Nat}{l:List Int}(hv:cx L 1 aO va l)(h:Fit z (aG L) w)(hb:l.length*8<=140737488355328) :
 Calls Tryz.prog 64 #[.slice va l.length vc] w λe w =>∃ca cc,e= .returned (.slice ca l.length cc)/\Fit z (aG (rowOf 3 1 aO (.slice ca l.length cc) l::L)) w:=by
 refine ke Tryz.func64 8 rfl λj=>ks<|ko [U]<|G<|wq <| ?_
 cases va with
 | none =>
  have hl:l=[]:=by
   cases l with
   | nil=>rfl
   | cons x xs=>exact absurd (hv.ne (by simp)) (by simp)
  subst hl;refine ks<|ko [U,vB true]<|G<|λ_ r=>hJ r (b:=true) rfl<|qq r<|ks<|ko [U]<|G<|wr<|tr <| ?_
  exact xy2 none 0 h.kR
 | some ad =>
  refine ks<|ko [U,vB false]<|G<|λ_ r=>jb r (b:=false) rfl<|qq r<|wk<|tn<|ks<|λ_ r=>YO (wn rfl) r h (λb=>.slice (some ⟨b,0,none⟩) 0 0) #[] 3 λb w _ h r => ?_;refine qq r<|ko [U]<|λ_ r=>Ai (m0:=0) (n0:=0) (ca:=some ⟨b,0,none⟩) (cc:=0) (c:=vc) (va:=some ad) (bytes:=8) (wn rfl) rfl rfl r rfl aY (news:=l) aY aL (E:=3) (xs:=([]:List Int)) aY aY (Rm h) hv (by simpa using hb) rfl λca cc w _ h r => ?_;rw[CF]at h r;refine qq r<|ko [U]<|G<|wr <| ?_
  exact xy2 ca cc h
theorem HP{z w:World}{L:List bu}{b:Nat}{x:aV}(h:Fit z (aG (xo b x::L)) w) :
 Calls Tryz.prog 214 #[pA b 0] w λe w=>e= .returned (Z (BU x))/\Fit z (aG (xo b (I3 x)::L)) w:=by
 obtain⟨k,h⟩:=h.nR;obtain⟨pa,h⟩:=h.nR;obtain⟨pl,h⟩:=h.nR;obtain⟨pg,h⟩:=h.nR;obtain⟨ca,h⟩:=h.nR;obtain⟨cc,h⟩:=h.nR;obtain⟨l,h⟩:=h.nR;have h:=h.uJ;obtain⟨⟨hk,hb,hx⟩,h⟩:=h.BN;obtain⟨e1,e2,e3⟩:=TB hk hx;have H:=TA hk hb;rw[e1]at H;generalize hm:(if k=l.length then k else k+1)=m at *;refine ke Tryz.func214 17 rfl λj=>ks<|ko [U]<|G<|wq<|ks<|ko [U,vB false,vB false]<|cW (rfl:false=false) [6,7,8] [pA b 0,pA b 0,pA b 0]<|vL (rfl:false=false) h 0<|cW (rfl:false=false) [10] [vB false]<|oG (rfl:false=false) (vB false)<|G<|λ_ r=>jb r (b:=false) rfl<|qq r<|wk<|tn<|ks<|ko [U,U,U]<|kL h 0<|qh h.m4.m4.m4.m4 λh=>fe (Md.En (H:=H) (h:=h) :) λw h=>ko [U]<|G<|wr <| ?_;exact fX (Fit.jR m<|Fit.jR pa<|Fit.jR pl<|Fit.jR pg<|Fit.jR ca<|Fit.jR cc<|Fit.jR l<|Fit.tv _ L<|Fit.zo ⟨e2,hb,e3⟩ h.m4)
theorem TD{z w:World}{L:List bu}{va:gF}{vc:Nat}{l:List Int}(hv:cx L 1 aO va l)(h:Fit z (aG L) w)(hb:l.length*8<=140737488355328) :
 Calls Tryz.prog 39 #[.slice va l.length vc,vB false] w λe w =>∃b,e= .returned (pA b 0)/\Fit z (aG (xo b ⟨l⟩::L)) w:=by
 refine ke Tryz.func39 12 rfl λj=>ks<|kN h #[vB false] 4 λpg w h=>ko [U]<|G<|ks<|ko [U]<|Vy (TC (va:=va) (vc:=vc) (cx.up (L':=pts pg (.cells #[vB false] 4)::L) 1 hv) h hb :) λca cc w h=>kN h #[.slice none 0 0] 28 λpl w h=>kS h 0 (pts pl (.cells #[.slice ca l.length cc] 28)) λw h=>G<|ks<|kN h #[Z 0] 3 λpa w h=>kS h 0 (pts pa (.cells #[Z 0] 3)) λw h=>G<|ks<|ko [U,U]<|kN h #[.func (.func 65) #[] #[pA pa 0,pA pl 0,pA pg 0]] 158 λb w h=>ko [U]<|G<|wr <| ?_
 exact xy1 b (Fit.jR 0<|Fit.jR pa<|Fit.jR pl<|Fit.jR pg<|Fit.jR ca<|Fit.jR cc<|Fit.jR l<|Fit.tv _ L<|Fit.zo ⟨xM _,hb,rfl⟩ h)
theorem HQ{z w:World}{L:List bu}{va:gF}{c:Nat}{l:List Int}(h:Fit z (aG L) w)(hv:cx L 1 aO va l)(hb:l.length*8<=140737488355328) :
 Calls Tryz.prog 16 #[.slice va l.length c] w λe w =>∃b,e= .returned (pA b 0)/\Fit z (aG (xo b ⟨l⟩::L)) w:=by
 refine ke Tryz.func16 5 rfl λj=>ks<|ko [U]<|G<|ks<|ko [U]<|xc1 (TD (vc:=c) hv h hb :) λb w h=>ko [U]<|G<|wr <| ?_
 exact xy1 b h
end Mo
end
section
namespace GX
open Go Go.RowKit SL
def zC{α:Type}[Inhabited α](l:List α)(lo m:Nat):List α:=(List.range m).map λj=>J l (lo+j)
theorem Eo{α:Type}[Inhabited α](l:List α)(lo m:Nat):(zC l lo m).length=m:=by simp[zC]
theorem XU{α:Type}{enc:α->List Value}(he:uv enc 1):∀(m:List α) (k:Nat),(m.drop k).flatMap enc=(m.flatMap enc).drop k
 | [],k=>by simp
 | x::m,0=>by simp
 | x::m,k+1=>by
  obtain⟨u,hu⟩:=List.length_eq_one_iff.1 (he.len x);rw[rR,XU he m k,N6,hu];rfl
theorem TE{α:Type}{enc:α->List Value}(he:uv enc 1):∀(m:List α) (k:Nat),(m.take k).flatMap enc=(m.flatMap enc).take k
 | [],k=>by simp
 | x::m,0=>by simp
 | x::m,k+1=>by
  obtain⟨u,hu⟩:=List.length_eq_one_iff.1 (he.len x);rw[pV,N6,TE he m k,N6,hu];rfl
theorem Y1{α:Type}[Inhabited α]{A:List Value}{N f lo m:Nat}{enc:α->List Value}{l:List α}(he:uv enc 1)(hA:A.length=f)(hm:lo+m<=N):((A++ef N enc l).drop (f+lo)).take m=(zC l lo m).flatMap enc:=by
 subst hA;rw[List.drop_append,PO I,CF,Nat.add_sub_cancel_left,Cw,<-XU he,<-TE he]
 congr 1
 apply L2
 ·simp[zC];omega
 ·intro i h1 h2;simp[zC]
section
variable {P:Program}{ops:Array Oper}{Q:Exit->Act->World->Prop}{a:Act}{w w0 w1:World}{rest:List Oper}{o:Oper}{n d t T T2:Nat}{v:Value}{l:List (Nat×Value)}{j e:Nat->Value}{L:List bu}{Df:List Deferred}
theorem abu{x y y':Operand}{k k':IntKind}{lo hi:Int}{B off N:Nat}{E:TypeId}{w':World}(ho:o.op= .slice t x (some y) (some y') none)(hx:eV e x= .pointer (some ⟨B,off,none⟩))(hy:eV e y= .int k lo)(hy':eV e y'= .int k' hi)
 (ht:P.underlying t=some (.array N E)) (hs:(P.info? E).map (·.size)=some 1) (hg:0<=lo/\lo<=hi/\hi<=N/\lo<N):(execOp (eV e) o).run P w'= .ok (.value (.slice (some ⟨B,off+lo.toNat,none⟩) (hi.toNat-lo.toNat) (N-lo.toNat))) w':=by
 obtain⟨h0,h1,h2,h3⟩:=hg;obtain⟨p,rfl⟩:=Int.eq_ofNat_of_zero_le h0;obtain⟨q,rfl⟩:=Int.eq_ofNat_of_zero_le (Int.le_trans h0 h1);have g1:p<=q:=by omega
 have g2:q<=N:=by omega
 have g6:¬N=p:=by omega
 unfold execOp;cases hq:P.info? E with
 | none=>simp[hq]at hs
 | some z =>
  simp[hq]at hs;simp[ho,hx,hy,hy',Instr.sliceAt,Instr.slice,Instr.sliceBounds,Instr.sliceBound,run_underlying ht,asIntOf,asAddr,g1,g2,g6,sizeOf,typeInfo,hq,hs,w4,Instr.sureAddr]
theorem Om{s x:Operand}{α β:Type}{sz n0 cc i f N cv i2 f2 lo m:Nat}{enc:α->List Value}{nS:β->List Value}{xs:List α}{ca:gF}{ys:List β}{E afW:TypeId}{p q p2:α}(hw:vt o ops a)(hd:o.dst=some d)(hn:Nat.blt d n=true)(hr:cP Df n (lk l j) a)
 (ho:o.op= .call {callee:=.builtin .copy,args:=#[s,x],argTypes:=#[t,t]}) (hs:eV (lk l j) s= .slice (some ⟨dR ca,i*sz+f,none⟩) N N) (hx:eV (lk l j) x= .slice (some ⟨dR ca,i2*sz+f2+lo,none⟩) m cv)
 (he:uv enc sz) (hi:uv nS 1) (hty:P.underlying t=some (.slice afW)) (hsz:(P.info? afW).map (·.size)=some 1) (hm:ys.length=m) (hlen:m<=N)
 (hF:Fit w0 (aG (rowOf E sz enc (.slice ca n0 cc) xs::L)) w) (hp2:xs[i2]? = some p2) (hcs:((enc p2).drop (f2+lo)).take m=ys.flatMap nS) (hp:xs[i]? = some p) (hfit:f+m<=sz) (hq:enc q=(enc p).take f++ys.flatMap nS++(enc p).drop (f+m))
 (k:∀w1 a,Fit w0 (aG (rowOf E sz enc (.slice ca n0 cc) (xs.set i q)::L)) w1->cP Df n (lk ((d,.int .i64 ((m:Nat):Int))::l) j) a->wpList P ops Q rest a w1):wpList P ops Q (o::rest) a w:=by
 subst hm;have XV:=hF.HG he (f:=f2+lo) (xs:=ys.flatMap nS) hp2 (by rw[show(ys.flatMap nS).length=ys.length by rw[hi.flat ys,Nat.mul_one]];exact hcs);rw[<-Nat.add_assoc]at XV;have Hf:i<xs.length:=(List.getElem?_eq_some_iff.1 hp).1;have hn':=hF.s6;obtain⟨hca,Fa⟩:=hF.ud I;obtain⟨Ht,F7⟩:=Fa.Ad;obtain⟨cur,YB,NZ,hP⟩:=Fa.sH;have hle:i*sz+sz<=xs.length*sz:=by
  have:(i+1)*sz<=xs.length*sz:=rQ _ Hf;rw[uB]at this;omega
 have YC:xs.length*sz<=cc*sz:=rQ _ Ht;have hfl:(ys.flatMap nS).length=ys.length:=by rw[hi.flat ys,Nat.mul_one]
 have hmin:Nat.min ys.length N=ys.length:=yu hlen;have hcells:(Builtin.firstCells 1 ys.length (.slice (some ⟨dR ca,i2*sz+f2+lo,none⟩) ys.length cv)).run P w= .ok (ys.flatMap nS).toArray w:=
  run_firstCells_some (P:=P) w 1 ys.length _ _ _ (ys.flatMap nS) (by rw[hfl,Nat.mul_one]) (vH XV)
 have hst:=run_storeCells_at P (dR ca) (i*sz+f) E (ys.flatMap nS) 0 cur w hP.block (by rw[hfl];omega) (hi.BO ys);simp only[w5]at hst;refine tw (w1:=w.setRow (dR ca) (cur.toList.take (i*sz+f)++ys.flatMap nS++cur.toList.drop (i*sz+f+(ys.flatMap nS).length)).toArray) (v:=.int .i64 ((ys.length:Nat):Int)) hw hd hn hr ?_ (λa hr=>k _ a (Fit.zw ?_ hca (by rw[gV];exact hn')) hr)
 ·unfold execOp;cases Dx:P.info? afW with
  | none=>simp[Dx]at hsz
  | some q =>
   simp[Dx]at hsz;simp only[ho,resolve,invoke,builtin,ou,uW,ox,JQ,C4,Ea,hs,hx];simp[Builtin.copy_,run_underlying hty,Builtin.lenOf,sizeOf,typeInfo,Dx,hsz,hmin,hcells,hst,goInt]
 ·refine(hP.turn (w':=w.setRow (dR ca) (cur.toList.take (i*sz+f)++ys.flatMap nS++cur.toList.drop (i*sz+f+(ys.flatMap nS).length)).toArray) (setRow_heap w (dR ca) cur _ E (0,0) hP.block) (λk hk _=>setRow_other w (dR ca) k _ hk) rfl rfl rfl (by simp)).head λz hz=>⟨by simpa using Ht,F7,_,?_,?_,hz⟩
  ·simp only[D8,kQ,uV,C3,vy];omega
  ·have XR:((xs.flatMap enc).drop (i*sz)).take sz=enc p:=by
    apply zm
    intro k;rw[List.getElem?_take];by_cases hk:k<sz
    ·rw[aM hk,List.getElem?_drop];exact he.get xs i k p hp hk
    ·rw[bZ hk,List.getElem?_eq_none (by rw[he.len];omega)]
   rw[<-hfl]at hq hfit;generalize ys.flatMap nS=vs at hq hfit hst⊢;rw[gV,he.set xs i q Hf,hq,<-XR,DB _ _ _ _ _ hfit (by rw[he.flat];exact hle),<-NZ];have hA:(cur.toList.take (i*sz+f)).length=i*sz+f:=by rw[uV,vy];omega
   have e1:(cur.toList.take (i*sz+f)++vs++cur.toList.drop (i*sz+f+vs.length)).take (xs.length*sz)=cur.toList.take (i*sz+f)++vs++(cur.toList.drop (i*sz+f+vs.length)).take (xs.length*sz-(i*sz+f+vs.length)):=by
    rw[JO,FT (by rw[kQ,hA];omega),kQ,hA]
   rw[LZ,e1,List.take_take,yu I,JP]
end
end GX
end
section
namespace Mo
open Go Go.RowKit SL GX
noncomputable section
variable {z w:World}{L:List bu}
structure cG where
 aP:Int
 A:Int
 B:Int
 C:Int
 K:Int
deriving Inhabited,DecidableEq
def cS(x:cG):List Value:=[Z x.aP,Z x.A,Z x.B,Z x.C,Z x.K]
abbrev gP(x:cG):List Value:=[Z x.aP,Z x.A,Z x.B,Z x.C,Z x.K]
abbrev mI(x:cG):Array Value:=#[Z x.aP,Z x.A,Z x.B,Z x.C,Z x.K]
abbrev gQ(x:cG):Value:=.agg #[Z x.aP,Z x.A,Z x.B,Z x.C,Z x.K]
theorem kF:uv cS 5:=⟨λ_=>rfl,λx u h=>by simp only[cS,tX,tY,tZ]at h;rcases h with rfl | rfl | rfl | rfl | rfl<;>rfl,dO⟩
structure aD where
 aS:Int
 cZ:Int
 bP:Int
 ai:List cG
deriving Inhabited,DecidableEq
structure gh where
 ig:List aD
 zD:List Int
 di:Int
 gw:Int
 gG:Int
 jf:Int
 gH:List Int
 qZ:List Int
deriving Inhabited,DecidableEq
def Wi(a:gF)(c:Nat)(x:aD):List Value:=[Z x.aS,Z x.cZ,Z x.bP,.slice a x.ai.length c]
abbrev Bk(L:List bu)(va:gF)(hs:Nat->Option Addr×Nat)(l:List aD):Prop:=Aj L 4 5 Wi cS aD.ai va hs l
structure eL where
 ck:Int
 dU:Int
 kB:Int
deriving Inhabited,DecidableEq
abbrev Ga(x:eL):List Value:=[Z x.ck,Z x.dU,Z x.kB]
abbrev mY(x:eL):Array Value:=#[Z x.ck,Z x.dU,Z x.kB]
abbrev lT(x:eL):Value:=.agg #[Z x.ck,Z x.dU,Z x.kB]
abbrev On(B:Nat)(S:eL):bu:=pts B (.cells #[Z S.ck,Z S.dU,Z S.kB] 27)
structure bl where
 uR:Int
 aP:Int
 Addr:Int
 A:Int
 B:Int
 OK:Bool
deriving Inhabited,DecidableEq
def ry(x:bl):List Value:=[Z x.uR,Z x.aP,Z x.Addr,Z x.A,Z x.B,vB x.OK]
theorem CG:uv ry 6:=⟨λ_=>rfl,λx u h=>by simp only[ry,tX,tY,tZ]at h;rcases h with rfl | rfl | rfl | rfl | rfl | rfl<;>rfl,dO⟩
structure ag where
 oN:Int
 fP:Int
 cell:List Int
 log:List bl
 u4:Int
 watched:Bool
deriving Inhabited,DecidableEq
abbrev adL(B:Nat)(S:ag)(a2:gF)(c2:Nat)(a3:gF)(c3:Nat):bu:=pts B (.cells #[Z S.oN,Z S.fP,.slice a2 S.cell.length c2,.slice a3 S.log.length c3,Z S.u4,vB S.watched] 78)
abbrev ro2(a:gF)(c:Nat)(l:List Int):bu:=rowOf 2 1 aO (.slice a l.length c) l
abbrev abv(a:gF)(c:Nat)(l:List bl):bu:=rowOf 269 6 ry (.slice a l.length c) l
structure aH where
 ah:List aD
deriving Inhabited,DecidableEq
abbrev sn(B:Nat)(S:aD)(a3:gF)(c3:Nat):bu:=pts B (.cells #[Z S.aS,Z S.cZ,Z S.bP,.slice a3 S.ai.length c3] 85)
structure eM where
 wQ:Int
 Func:Int
 At:Int
deriving Inhabited,DecidableEq
abbrev BV(x:eM):Value:=.agg #[Z x.wQ,Z x.Func,Z x.At]
abbrev vA(B:Nat)(S:cG):bu:=pts B (.cells #[Z S.aP,Z S.A,Z S.B,Z S.C,Z S.K] 132)
abbrev GI(a:gF)(c:Nat)(l:List Int):bu:=rowOf 3 1 aO (.slice a l.length c) l
def jS(x:List Int)(cs:List Value):bu:=exs λuD:gF=>exs λuE:Nat=>aG [SF (cs=[.slice uD x.length uE]),GI uD uE x]
theorem nU{x:List Int}{cs:List Value}(h:Fit z (aG (jS x cs::L)) w) :∃uD:gF,∃uE:Nat,cs=[.slice uD x.length uE]/\Fit z (aG (GI uD uE x::L)) w:=by
 unfold jS at h;obtain⟨uD,h⟩:=h.nR;obtain⟨uE,h⟩:=h.nR;have h:=h.uJ;obtain⟨e,h⟩:=h.BN;exact⟨uD,uE,e,h⟩
theorem iQ{x:List Int}{uD:gF}{uE:Nat}(h:Fit z (aG (GI uD uE x::L)) w):Fit z (aG (jS x [.slice uD x.length uE]::L)) w:=by
 unfold jS;refine Fit.jR uD<|Fit.jR uE<|Fit.tv (SF (([.slice uD x.length uE]:List Value)=[.slice uD x.length uE])::GI uD uE x::[]) L<|?_;exact h.zo rfl
abbrev KD(a:gF)(c:Nat)(l:List (List Int)):bu:=vu 28 1 jS (.slice a l.length c) l
abbrev abw(B:Nat)(S:eM):bu:=pts B (.cells #[Z S.wQ,Z S.Func,Z S.At] 81)
structure vM where
 a:Int
 b:Int
 c:Int
 k:Int
 next:Bool
deriving Inhabited,DecidableEq
def iu(x:vM):List Value:=[Z x.a,Z x.b,Z x.c,Z x.k,vB x.next]
abbrev KE(x:vM):List Value:=[Z x.a,Z x.b,Z x.c,Z x.k,vB x.next]
abbrev KG(x:vM):Value:=.agg #[Z x.a,Z x.b,Z x.c,Z x.k,vB x.next]
def yy:List vM:=[⟨1,0,0,0,true⟩,⟨1,1,0,0,true⟩,⟨1,1,1,5,true⟩,⟨3,0,0,0,false⟩,⟨1,3,0,0,true⟩,⟨2,4,0,0,true⟩,⟨0,0,0,0,true⟩,⟨1,2,0,0,true⟩,⟨1,0,0,0,true⟩,⟨1,0,0,0,false⟩]
abbrev TF(B:Nat)(S:vM):bu:=pts B (.cells #[Z S.a,Z S.b,Z S.c,Z S.k,vB S.next] 215)
structure nK where
 Ff:Int
 DD:Int
 HR:Int
deriving Inhabited,DecidableEq
abbrev AY(x:nK):Value:=.agg #[Z x.Ff,Z x.DD,Z x.HR]
structure aT where
 J:Int
 state:Int
deriving Inhabited,DecidableEq
def dL(x:aT):List Value:=[Z x.J,Z x.state]
abbrev Gb(x:aT):List Value:=[Z x.J,Z x.state]
abbrev Gc(x:aT):Array Value:=#[Z x.J,Z x.state]
abbrev wU(x:aT):Value:=.agg #[Z x.J,Z x.state]
theorem oB:uv dL 2:=⟨λ_=>rfl,λx u h=>by simp only[dL,tX,tY,tZ]at h;rcases h with rfl | rfl<;>rfl,dO⟩
theorem Gd(x y:aT):uZ (dL x) (dL y)=decide (x=y):=by
 rw[Bool.eq_iff_iff];cases x;cases y;simp[dL,uZ]
theorem KH:Mw Tryz.prog 221 dL:=⟨aY,aY,λx y=>aY,Gd⟩
abbrev P6(B:Nat)(S:aT):bu:=pts B (.cells #[Z S.J,Z S.state] 221)
structure aU where
 fn:Int
 J:Int
 parent:Int
 slot:Int
 bt:Int
 k8:Int
 bw:List Int
deriving Inhabited,DecidableEq
def cI(x:aU):List Value:=[Z x.fn,Z x.J,Z x.parent,Z x.slot,Z x.bt,Z x.k8]++ef 16 aO x.bw
abbrev oT(x:aU):List Value:=[Z x.fn,Z x.J,Z x.parent,Z x.slot,Z x.bt,Z x.k8]++ef 16 aO x.bw
theorem bR:uv (cI) 22:=zz.enc (N:=6+16*1) (λx=>(show zz (cI x) (6+16*1)from((zz.lit 6 (by rfl)).app (GH 16 aL _)))) dO (by rfl)
abbrev rV(a:gF)(c:Nat)(l:List aU):bu:=rowOf 100 22 cI (.slice a l.length c) l
abbrev P7(a:gF)(c:Nat)(l:List cG):bu:=rowOf 132 5 cS (.slice a l.length c) l
def oZ(x:aD)(cs:List Value):bu:=exs λuD:gF=>exs λuE:Nat=>aG [SF (cs=[Z x.aS,Z x.cZ,Z x.bP,.slice uD x.ai.length uE]),P7 uD uE x.ai]
theorem yz{x:aD}{cs:List Value}(h:Fit z (aG (oZ x cs::L)) w) :∃uD:gF,∃uE:Nat,cs=[Z x.aS,Z x.cZ,Z x.bP,.slice uD x.ai.length uE]/\Fit z (aG (P7 uD uE x.ai::L)) w:=by
 unfold oZ at h;obtain⟨uD,h⟩:=h.nR;obtain⟨uE,h⟩:=h.nR;have h:=h.uJ;obtain⟨e,h⟩:=h.BN;exact⟨uD,uE,e,h⟩
theorem fF{x:aD}{uD:gF}{uE:Nat}(h:Fit z (aG (P7 uD uE x.ai::L)) w):Fit z (aG (oZ x [Z x.aS,Z x.cZ,Z x.bP,.slice uD x.ai.length uE]::L)) w:=by
 unfold oZ;refine Fit.jR uD<|Fit.jR uE<|Fit.tv (SF (([Z x.aS,Z x.cZ,Z x.bP,.slice uD x.ai.length uE]:List Value)=[Z x.aS,Z x.cZ,Z x.bP,.slice uD x.ai.length uE])::P7 uD uE x.ai::[]) L<|?_;exact h.zo rfl
abbrev uF(a:gF)(c:Nat)(l:List aD):bu:=vu 85 4 oZ (.slice a l.length c) l
structure cw where
 lj:Int
 kB:Int
deriving Inhabited,DecidableEq
def bz(x:cw):List Value:=[Z x.lj,Z x.kB]
abbrev mg(x:cw):List Value:=[Z x.lj,Z x.kB]
abbrev oU(x:cw):Array Value:=#[Z x.lj,Z x.kB]
abbrev gZ(x:cw):Value:=.agg #[Z x.lj,Z x.kB]
theorem fQ:uv bz 2:=⟨λ_=>rfl,λx u h=>by simp only[bz,tX,tY,tZ]at h;rcases h with rfl | rfl<;>rfl,dO⟩
structure bV where
 kind:Int
 J:Int
 oe:Int
 oH:Int
 v:Int
 t:Int
 b:Int
 a:Int
 c:Int
 a2:Int
 c2:Int
 i:Int
 x:Int
 Al:Bool
 code:Int
 value:Int
deriving Inhabited,DecidableEq
def bD(x:bV):List Value:=[Z x.kind,Z x.J,Z x.oe,Z x.oH,Z x.v,Z x.t,Z x.b,Z x.a,Z x.c,Z x.a2,Z x.c2,Z x.i,Z x.x,vB x.Al,Z x.code,Z x.value]
abbrev jx(x:bV):List Value:=[Z x.kind,Z x.J,Z x.oe,Z x.oH,Z x.v,Z x.t,Z x.b,Z x.a,Z x.c,Z x.a2,Z x.c2,Z x.i,Z x.x,vB x.Al,Z x.code,Z x.value]
abbrev nL(x:bV):Array Value:=#[Z x.kind,Z x.J,Z x.oe,Z x.oH,Z x.v,Z x.t,Z x.b,Z x.a,Z x.c,Z x.a2,Z x.c2,Z x.i,Z x.x,vB x.Al,Z x.code,Z x.value]
abbrev fa(x:bV):Value:=.agg #[Z x.kind,Z x.J,Z x.oe,Z x.oH,Z x.v,Z x.t,Z x.b,Z x.a,Z x.c,Z x.a2,Z x.c2,Z x.i,Z x.x,vB x.Al,Z x.code,Z x.value]
theorem yA:uv bD 16:=⟨λ_=>rfl,λx u h=>by simp only[bD,tX,tY,tZ]at h;rcases h with rfl | rfl | rfl | rfl | rfl | rfl | rfl | rfl | rfl | rfl | rfl | rfl | rfl | rfl | rfl | rfl<;>rfl,dO⟩
theorem Dg(x y:bV):uZ (bD x) (bD y)=decide (x=y):=by
 rw[Bool.eq_iff_iff];cases x;cases y;simp[bD,uZ,and_assoc]
structure bL where
 ez:Int
 dV:Int
 gy:Int
 az:Int
 fh:Int
 mC:Int
 kind:Int
 slot:Int
 ML:Int
deriving Inhabited,DecidableEq
def mZ(x:bL):List Value:=[Z x.ez,Z x.dV,Z x.gy,Z x.az,Z x.fh,Z x.mC,Z x.kind,Z x.slot,Z x.ML]
abbrev kG(x:bL):List Value:=[Z x.ez,Z x.dV,Z x.gy,Z x.az,Z x.fh,Z x.mC,Z x.kind,Z x.slot,Z x.ML]
abbrev BW(x:bL):Array Value:=#[Z x.ez,Z x.dV,Z x.gy,Z x.az,Z x.fh,Z x.mC,Z x.kind,Z x.slot,Z x.ML]
abbrev kH(x:bL):Value:=.agg #[Z x.ez,Z x.dV,Z x.gy,Z x.az,Z x.fh,Z x.mC,Z x.kind,Z x.slot,Z x.ML]
theorem DE:uv mZ 9:=⟨λ_=>rfl,λx u h=>by simp only[mZ,tX,tY,tZ]at h;rcases h with rfl | rfl | rfl | rfl | rfl | rfl | rfl | rfl | rfl<;>rfl,dO⟩
theorem HS(x y:bL):uZ (mZ x) (mZ y)=decide (x=y):=by
 rw[Bool.eq_iff_iff];cases x;cases y;simp[mZ,uZ,and_assoc]
structure bQ where
 bT:Int
 cg:Int
 gz:Int
 dg:Int
 ay:Int
 da:Int
 jM:Int
 dX:Int
 fm:Int
 dw:List cw
 look:bV
deriving Inhabited,DecidableEq
def ue(x:bQ):List Value:=[Z x.bT,Z x.cg,Z x.gz,Z x.dg,Z x.ay,Z x.da,Z x.jM,Z x.dX,Z x.fm]++ef 64 bz x.dw++bD x.look
abbrev mJ(x:bQ):List Value:=[Z x.bT,Z x.cg,Z x.gz,Z x.dg,Z x.ay,Z x.da,Z x.jM,Z x.dX,Z x.fm]++ef 64 bz x.dw++bD x.look
abbrev oI(x:bQ):Array Value:=([Z x.bT,Z x.cg,Z x.gz,Z x.dg,Z x.ay,Z x.da,Z x.jM,Z x.dX,Z x.fm]++ef 64 bz x.dw++bD x.look).toArray
abbrev iS(x:bQ):Value:=.agg ([Z x.bT,Z x.cg,Z x.gz,Z x.dg,Z x.ay,Z x.da,Z x.jM,Z x.dX,Z x.fm]++ef 64 bz x.dw++bD x.look).toArray
theorem Fg:uv (ue) 153:=zz.enc (N:=9+64*2+16) (λx=>(show zz (ue x) (9+64*2+16)from(((zz.lit 9 (by rfl)).app (GH 64 fQ _)).app (yA.p _)))) dO (by rfl)
structure bE where
 bx:Int
 aK:Int
 ax:Int
 from_:Int
 bW:Int
 done:Int
 fW:Int
 fE:Int
 bq:bV
 dB:bL
 cF:bQ
 parked:Bool
deriving Inhabited,DecidableEq
def lW(B:Nat)(x:bE):List Value:=[pA B 0,Z x.bx,Z x.aK,Z x.ax,Z x.from_,Z x.bW,Z x.done,Z x.fW,Z x.fE]++bD x.bq++mZ x.dB++ue x.cF++[vB x.parked]
theorem ak(B:Nat):uv (lW B) 188:=zz.enc (N:=9+16+9+153+1) (λx=>(show zz (lW B x) (9+16+9+153+1)from(((((zz.lit 9 (by rfl)).app (yA.p _)).app (DE.p _)).app (Fg.p _)).app (zz.lit 1 (by rfl))))) dO (by rfl)
structure af where
 code:List aD
 result:Int
 dx:Int
 cJ:Int
 fo:Int
 cH:Int
 dw:List cw
 aJ:List aU
 aj:List bE
 value:Int
 left:Bool
deriving Inhabited,DecidableEq
structure bj where
 lj:Int
 ck:Int
deriving Inhabited,DecidableEq
abbrev yB(x:bj):List Value:=[Z x.lj,Z x.ck]
abbrev hO(x:bj):Array Value:=#[Z x.lj,Z x.ck]
abbrev fG(x:bj):Value:=.agg #[Z x.lj,Z x.ck]
structure fc where
 lj:Int
 di:Int
deriving Inhabited,DecidableEq
abbrev I4(x:fc):List Value:=[Z x.lj,Z x.di]
abbrev uf(x:fc):Array Value:=#[Z x.lj,Z x.di]
abbrev qJ(x:fc):Value:=.agg #[Z x.lj,Z x.di]
abbrev rz(a:gF)(c:Nat)(l:List cw):bu:=rowOf 104 2 bz (.slice a l.length c) l
abbrev rA(B:Nat)(a:gF)(c:Nat)(l:List bE):bu:=rowOf 117 188 (lW B) (.slice a l.length c) l
abbrev MM(B:Nat)(S:cw):bu:=pts B (.cells #[Z S.lj,Z S.kB] 104)
abbrev jg(B:Nat)(S:bL):bu:=pts B (.cells #[Z S.ez,Z S.dV,Z S.gy,Z S.az,Z S.fh,Z S.mC,Z S.kind,Z S.slot,Z S.ML] 110)
abbrev An(B:Nat)(S:af)(k0:Value)(a1:gF)(c1:Nat)(a7:gF)(c7:Nat)(a8:gF)(c8:Nat)(a9:gF)(c9:Nat):bu:=pts B (.cells #[k0,.slice a1 S.code.length c1,Z S.result,Z S.dx,Z S.cJ,Z S.fo,Z S.cH,.slice a7 S.dw.length c7,.slice a8 S.aJ.length c8,.slice a9 S.aj.length c9,Z S.value,vB S.left] 96)
abbrev Wj(B:Nat)(S:gh)(a0:gF)(c0:Nat)(a1:gF)(c1:Nat)(a6:gF)(c6:Nat)(a7:gF)(c7:Nat):bu:=pts B (.cells #[.slice a0 S.ig.length c0,.slice a1 S.zD.length c1,Z S.di,Z S.gw,Z S.gG,Z S.jf,.slice a6 S.gH.length c6,.slice a7 S.qZ.length c7] 32)
def So:List Bool:=[false,false,false,false,false,false,false,false,false,false,false,false,false,true,true]
structure aB where
 At:Int
 uR:Int
 aP:Int
 Frame:Int
 X:Int
 V:Int
deriving Inhabited,DecidableEq
abbrev dJ(x:aB):List Value:=[Z x.At,Z x.uR,Z x.aP,Z x.Frame,Z x.X,Z x.V]
abbrev fH(x:aB):Value:=.agg #[Z x.At,Z x.uR,Z x.aP,Z x.Frame,Z x.X,Z x.V]
abbrev fT(B:Nat)(S:aB):bu:=pts B (.cells #[Z S.At,Z S.uR,Z S.aP,Z S.Frame,Z S.X,Z S.V] 47)
abbrev dA(B:Nat)(S:bV):bu:=pts B (.cells #[Z S.kind,Z S.J,Z S.oe,Z S.oH,Z S.v,Z S.t,Z S.b,Z S.a,Z S.c,Z S.a2,Z S.c2,Z S.i,Z S.x,vB S.Al,Z S.code,Z S.value] 106)
abbrev iD(B:Nat)(S:bQ):bu:=pts B (.cells ([Z S.bT,Z S.cg,Z S.gz,Z S.dg,Z S.ay,Z S.da,Z S.jM,Z S.dX,Z S.fm]++ef 64 bz S.dw++bD S.look).toArray 115)
abbrev adM(B:Nat)(S:fc):bu:=pts B (.cells #[Z S.lj,Z S.di] 92)
end
noncomputable section
variable {z w:World}{L:List bu}
abbrev an (p:af) (i:Int):=J p.aj i.toNat
abbrev qK (p:af) (i:Int):=J p.aJ (J p.aj i.toNat).ax.toNat
abbrev jT (p:af) (i:Int) (a:bE):=p.aj.set i.toNat a
theorem _root_.Go.Proofs.YtaiffafelihaaaaGreatDoor.SL.Fit.gf{B:Nat}{z w:World}{L:List bu}{ca:gF}{n cc:Nat}{l:List bE}{x:bE}(h:Fit z (aG (rowOf 117 188 (lW B) (.slice ca n cc) l::L)) w)(f:Nat)(i:Int)(hx:l[i.toNat]?=some x)(xs:List Value)(hxs:(((lW B) x).drop f).take xs.length=xs:=by kernel_rfl):rm w (dR ca) (i.toNat*188+f) xs:=h.HG (sz:=188) (i:=i.toNat) (ak B) (f:=f) hx hxs
theorem _root_.Go.Proofs.YtaiffafelihaaaaGreatDoor.SL.Fit.Ge{z w:World}{L:List bu}{ca:gF}{n cc:Nat}{l:List aU}{x:aU}(h:Fit z (aG (rowOf 100 22 cI (.slice ca n cc) l::L)) w)(f:Nat)(i:Int)(hx:l[i.toNat]?=some x)(xs:List Value)(hxs:((cI x).drop f).take xs.length=xs:=by kernel_rfl):rm w (dR ca) (i.toNat*22+f) xs:=h.HG (sz:=22) (i:=i.toNat) bR (f:=f) hx hxs
section
variable {P:Program}{ops:Array Oper}{Q:Exit->Act->World->Prop}{a:Act}{w w0 w1:World}{rest:List Oper}{o:Oper}{n d t:Nat}{v:Value}{l:List (Nat×Value)}{j e:Nat->Value}{L:List bu}{Df:List Deferred}{α:Type}{E:TypeId}{sz n0 cc:Nat}{enc:α->List Value}{xs:List α}{ca:gF}
theorem oC{x y:Operand}(hr:cP Df n (lk l j) a)(ho:o.op=.store t x y)(v:Value)(he:uv enc sz)(hF:Fit w0 (aG (rowOf E sz enc (.slice ca n0 cc) xs::L)) w)(i f:Nat)(p q:α)(hp:xs[i]?=some p)(k:∀ w1,Fit w0 (aG (rowOf E sz enc (.slice ca n0 cc) (xs.set i q)::L)) w1->wpList P ops Q rest a w1)(hf:f<sz:=by decide)(hx:eV (lk l j) x=.pointer (some ⟨dR ca,i*sz+f,none⟩):=by kernel_rfl)(hy:eV (lk l j) y=v:=by kernel_rfl)(hs:(P.info? t).map (·.size)=some 1:=by kernel_rfl)(hq:enc q=(enc p).set f v:=by kernel_rfl)(hw:Region.wanted o (yielded ops a.tmps)=true:=by exact wn rfl)(hd:o.dst=none:=by rfl)(hv:v.cells=#[v]:=by rfl)(h1:v.oneCell'=true:=by rfl):wpList P ops Q (o::rest) a w:=qm hw hd hr ho hx hy hv h1 hs he hF hp hf hq k
theorem xS{w':World}{x y:Operand}{i:Int}[Inhabited α](E:TypeId)(ho:o.op=.indexAddr t x y)(hF:Fit w0 (aG (rowOf E sz enc (.slice ca n cc) xs::L)) w)(hi:bM i xs.length)(hx:eV e x=.slice ca n cc:=by kernel_rfl)(hy:eV e y=.int .i64 i:=by kernel_rfl)(ht:P.underlying t=some (.slice E):=by kernel_rfl)(hs:(P.info? E).map (·.size)=some sz:=by kernel_rfl):(execOp (eV e) o).run P w'=.ok (.value (.pointer (some ⟨dR ca,i.toNat*sz,none⟩))) w':=Ah ho hx hy ht hs hF hi
theorem I5{x y:Operand}{i:Int}{b N R off:Nat}{w':World}(E:TypeId)(ho:o.op=.indexAddr t x y)(hi:bM i N)(hx:eV e x=.pointer (some ⟨b,R+off,none⟩):=by kernel_rfl)(hy:eV e y=.int .i64 i:=by kernel_rfl)(ht:P.underlying t=some (.array N E):=by kernel_rfl)(hs:(P.info? E).map (·.size)=some sz:=by kernel_rfl):(execOp (eV e) o).run P w'=.ok (.value (.pointer (some ⟨b,R+(off+i.toNat*sz),none⟩))) w':=YS ho hx hy ht hs hi
theorem qY{fn:Func}{R:Ending->World->Prop}{t T b off u:Nat}(cs:List Value)(v:Value)(hres:fn.results=#[.cell t T,.tmp u])(hr:mF n e a)(hc:rm w b off cs)(h:R (.returned (.tuple #[.agg cs.toArray,v])) w)(hv:e t=.pointer (some ⟨b,off,none⟩):=by kernel_rfl)(Sk:e u=v:=by kernel_rfl)(hu:uC (P.underlying T)=true:=by kernel_rfl)(hs:(P.info? T).map (·.size)=some cs.length:=by kernel_rfl):bodyPost P fn R .ret a w:=Rb hres hr hv Sk hu hs hc h
theorem iK[hp:PI Q]{D:World->Prop}{E:List Nat}{aQ:Array Bool}(fuel i:Nat)(hi:ops[i]?=some o)(v:Value)(k:KK Df n ((dn o,v)::l) j (eP P .any ops Q D E fuel (aQ.setIfInBounds i true)) w)(hg:o.guard=none:=by rfl)(hB:okB ops E aQ i=true:=by kernel_rfl)(hrun:∀ w,(execOp (eV (lk l j)) o).run P w=.ok (.value v) w:=by intro w;kernel_rfl)(hd:o.dst=some (dn o):=by rfl)(hn:Nat.blt (dn o) n=true:=by rfl):KK Df n l j (eP P .any ops Q D E (fuel+1) aQ) w:=λa r=>evs fuel i hi (wn hg) r v k hB hrun hd hn
theorem nZ[hp:PI Q]{D:List (Nat×Nat×List Value)}{E:List Nat}{aQ:Array Bool}(hd:HL D w)(f i:Nat)(hi:ops[i]?=some o)(v:Value)(hrun:∀ w,(execOp (eV (lk l j)) o).run P w=.ok (.value v) w)(k:KK Df n ((dn o,v)::l) j (eP P .any ops Q (HL D) E f (aQ.setIfInBounds i true)) w)(hg:o.guard=none:=by rfl)(hB:YP ops E aQ i=true:=by kernel_rfl)(h1:o.dst=some (dn o):=by rfl)(hn:Nat.blt (dn o) n=true:=by rfl):KK Df n l j (eP P .any ops Q (HL D) E (f+1) aQ) w:=λa r=>Rh hd f i hi (wn hg) r v k hB hrun h1 hn
theorem sX{fn:Func}{R:Ending->World->Prop}(v:Value)(hres:fn.results=#[.tmp t])(hr:mF n e a)(h:R (.returned v) w)(hv:e t=v:=by kernel_rfl):bodyPost P fn R .ret a w:=zp hres hr hv h
theorem DF{fn:Func}{R:Ending->World->Prop}{t':Nat}(v v':Value)(hres:fn.results=#[.tmp t,.tmp t'])(hr:mF n e a)(h:R (.returned (.tuple #[v,v'])) w)(hv:e t=v:=by kernel_rfl)(Sk:e t'=v':=by kernel_rfl):bodyPost P fn R .ret a w:=Ec hres hr hv Sk h
theorem wu{x y:Operand}{i i':Int}(ho:o.op=.index t x y)(hi:i=i')(hy:eV e y=.int .i64 i:=by kernel_rfl)(hrun:(Instr.index t (eV e x) (.int .i64 i')).run P w=.ok v w:=by kernel_rfl):(execOp (eV e) o).run P w=.ok (.value v) w:=adH ho hy hi hrun
theorem DG{β:Type}[Inhabited α]{x y:Operand}{i:Int}{m yh:Nat}{enc:gF->Nat->α->List Value}{nS:β->List Value}{J3:α->List β}{va:gF}{hs:Nat->Option Addr×Nat}(E:TypeId)(cc:Nat)(ho:o.op=.indexAddr t x y)(GB:m=xs.length)(hF:Aj L sz yh enc nS J3 va hs xs)(hi:bM i xs.length)(hx:eV e x=.slice va m cc:=by kernel_rfl)(hy:eV e y=.int .i64 i:=by kernel_rfl)(ht:P.underlying t=some (.slice E):=by kernel_rfl)(hs':(P.info? E).map (·.size)=some sz:=by kernel_rfl):(execOp (eV e) o).run P w=.ok (.value (.pointer (some ⟨dR va,kz va+i.toNat*sz,none⟩))) w:=abq ho hx hy GB ht hs' hF hi
theorem HU[Inhabited α]{x y:Operand}{i:Int}{m:Nat}{va:gF}(E:TypeId)(cc:Nat)(ho:o.op=.indexAddr t x y)(GB:m=xs.length)(hF:cx L sz enc va xs)(hi:bM i xs.length)(hx:eV e x=.slice va m cc:=by kernel_rfl)(hy:eV e y=.int .i64 i:=by kernel_rfl)(ht:P.underlying t=some (.slice E):=by kernel_rfl)(hs:(P.info? E).map (·.size)=some sz:=by kernel_rfl):(execOp (eV e) o).run P w=.ok (.value (.pointer (some ⟨dR va,kz va+i.toNat*sz,none⟩))) w:=XM ho hx hy GB ht hs hF hi
end
abbrev iV(z:World)(l:List bu)(w:World):Prop:=Fit z (aG l) w
abbrev nM(f:FuncId)(a:Array Value)(w z:World)(v:Value)(l:List bu):Prop:=Calls Tryz.prog f a w λe w=>e=.returned v/\Fit z (aG l) w
abbrev c2_{α β:Type}(f:FuncId)(a:Array Value)(w z:World)(v:Value)(l:α->β->List bu):Prop:=Calls Tryz.prog f a w λe w=>∃x y,e=.returned v/\Fit z (aG (l x y)) w
abbrev yC{α β γ δ:Type}(f:FuncId)(a:Array Value)(w z:World)(v:Value)(l:α->β->γ->δ->List bu):Prop:=Calls Tryz.prog f a w λe w=>∃x y x' y',e=.returned v/\Fit z (aG (l x y x' y')) w
section
variable {P:Program}{ops:Array Oper}{Q:Exit->Act->World->Prop}{a:Act}{w w0 w1:World}{rest:List Oper}{o:Oper}{n d t:Nat}{v:Value}{l:List (Nat×Value)}{j e:Nat->Value}{L:List bu}{Df:List Deferred}{α:Type}{E:TypeId}{sz n0 cc:Nat}{enc:α->List Value}{xs:List α}{ca:gF}
theorem mK{i:Nat}{E:List Nat}{D:World->Prop}{X:Act->World->Prop}(k:KK Df n l j X w)(hB:¬i∈E:=by decide):KK Df n l j (λa w=>(i∈E->D w)/\X a w) w:=λa r=>⟨λh=>absurd h hB,k a r⟩
theorem nk{E:List Nat}{aQ:Array Bool}{D:World->Prop}{fuel:Nat}(k:KK Df n l j (Q .normal) w)(hrd:Region.ready .any ops aQ=[]:=by kernel_rfl):KK Df n l j (eP P .any ops Q D E fuel aQ) w:=λa r=>yK (k a r) hrd
theorem mh{E:List Nat}{aQ:Array Bool}(i:Nat){D:World->Prop}{fuel:Nat}(hi:ops[i]?=some o)(k:KK Df n l j (wpList P ops (Exit.then (λa w=>(i∈E->D w)/\eP P .any ops Q D E fuel (aQ.setIfInBounds i true) a w) Q) [o]) w)(hrd:Region.ready .any ops aQ=[i]:=by kernel_rfl):KK Df n l j (eP P .any ops Q D E (fuel+1) aQ) w:=λa r=>lQ i hi (k a r) hrd
theorem vN{i:Nat}{E:List Nat}{D:World->Prop}{X:Act->World->Prop}(hd:D w)(k:D w->KK Df n l j X w):KK Df n l j (λa w=>(i∈E->D w)/\X a w) w:=λa r=>⟨λ_=>hd,k hd a r⟩
theorem nc{id:Nat}{lo:List Oper}{H:bu}(D:List (Nat×Nat×List Value))(E:List Nat)(N:Nat)(hF:Fit w0 H w)(hd:∀{w},Fit w0 H w->HL D w)(k:∀w,Fit w0 H w->HL D w->KK Df n l j (eP P .any lo.toArray Q (HL D) E N (Array.replicate N false)) w)(hm:P.follows .mixedOrders=true:=by kernel_rfl)(hN:lo.toArray.size=N:=by rfl):KK Df n l j ((Code.region id lo.toArray true).wp P Q) w:=λa r=>DA D E N hF hd (λw h hd=>k w h hd a r) hm hN
theorem Aa{x:Operand}{ad:Addr}(v:Value)(hc:w.cell? ad=some v)(k:KK Df n ((d,v)::l) j (wpList P ops Q rest) w)(hw:o.guard=none:=by rfl)(hd:o.dst=some d:=by rfl)(hn:Nat.blt d n=true:=by rfl)(ho:o.op=.load t x:=by rfl)(hx:eV (lk l j) x=.pointer (some ad):=by kernel_rfl)(hu:xO (P.underlying t)=true:=by kernel_rfl):KK Df n l j (wpList P ops Q (o::rest)) w:=λ_ r=>ld (wn hw) r v hc k hd hn ho hx hu
theorem xG{x:Operand}{b off:Nat}{cs:List Value}(v:Value)(hc:rm w b off cs)(k:KK Df n ((d,v)::l) j (wpList P ops Q rest) w)(hv:.agg cs.toArray=v:=by rfl)(hw:o.guard=none:=by rfl)(hd:o.dst=some d:=by rfl)(hn:Nat.blt d n=true:=by rfl)(ho:o.op=.load t x:=by rfl)(hx:eV (lk l j) x=.pointer (some ⟨b,off,none⟩):=by kernel_rfl)(hu:uC (P.underlying t)=true:=by kernel_rfl)(hs:(P.info? t).map (·.size)=some cs.length:=by kernel_rfl):KK Df n l j (wpList P ops Q (o::rest)) w:=λ_ r=>ldm (wn hw) r v hc k hv hd hn ho hx hu hs
def Y2(b:Nat)(afV:List (List Nat×Value)):List (Nat×Nat×Value):=afV.flatMap λg=>g.1.map λk=>(k,b+k,g.2)
theorem mD{E:List Nat}{aQ:Array Bool}{N:Nat}{D:List (Nat×Nat×List Value)}[hp:PI Q](hd:HL D w)(f b:Nat)(afV:List (List Nat×Value))(k:KK Df n (Ta (Y2 b afV) l) j (eP P .any ops Q (HL D) E f (S5 (Y2 b afV) aQ)) w)(hN:f+(Y2 b afV).length=N:=by kernel_rfl)(hB:okE ops E n (Y2 b afV) aQ=true:=by kernel_rfl)(hrun:∀w,Kv P ops (Y2 b afV) l j w=Eg (Y2 b afV) w:=by intro w;kernel_rfl):KK Df n l j (eP P .any ops Q (HL D) E N aQ) w:=nB hd f (Y2 b afV) k hN hB hrun
theorem bS{os:List Oper}(k:KK Df n (adA P j os [U] l) j (wpList P ops Q (os.drop 1)) w)(hrun:YV P n j w os [U] l=YW P j w os [U] l:=by kernel_rfl):KK Df n l j (wpList P ops Q os) w:=ko [U] k hrun
theorem aN{S2:Nat}{y:Code}{os:List Oper}(vs:List Value)(k:KK Df n (adA P j os vs l) j (wpList P os.toArray (Exit.then (y.wp P Q) Q) (os.drop vs.length)) w)(hrun:YV P n j w os vs l=YW P j w os vs l:=by kernel_rfl):KK Df n l j ((Code.seq (.region S2 os.toArray false) y).wp P Q) w:=ks (ko vs k hrun)
theorem iv{S2:Nat}{y:Code}{o:Oper}(k:KK Df n (adA P j [o] [U] l) j (y.wp P Q) w)(hrun:YV P n j w [o] [U] l=YW P j w [o] [U] l:=by kernel_rfl):KK Df n l j ((Code.seq (.region S2 [o].toArray false) y).wp P Q) w:=ks (ko [U] (G k) hrun)
theorem cr(k:KK Df n l j (Q .ret) w):KK Df n l j (wpList P ops (Exit.then (Code.ret.wp P Q) Q) []) w:=G (wr k)
theorem gC{K:Act->World->Prop}(k:KK Df n l j K w):KK Df n l j (Code.skip.wp P (Exit.then K Q)) w:=wk (tn k)
theorem eR{E:List Nat}{aQ:Array Bool}{D:List (Nat×Nat×List Value)}{v:Value}[hp:PI Q](hd:HL D w)(q f i:Nat){b off:Nat}{x:Operand}(h:(ops[i]?,D[q]?)=(some o,some (b,off,[v])))(k:KK Df n ((dn o,v)::l) j (eP P .any ops Q (HL D) E f (aQ.setIfInBounds i true)) w)(hg:o.guard=none:=by rfl)(hB:(okB ops E aQ i&&Db .any ops E aQ i)=true:=by kernel_rfl)(ho:o.op=.load t x:=by rfl)(hx:eV (lk l j) x=.pointer (some ⟨b,off,none⟩):=by kernel_rfl)(hu:xO (P.underlying t)=true:=by kernel_rfl)(h1:o.dst=some (dn o):=by rfl)(hn:Nat.blt (dn o) n=true:=by rfl):KK Df n l j (eP P .any ops Q (HL D) E (f+1) aQ) w:=kx hd q f i (nu (·.1) h) (nu (·.2) h) k hg hB ho hx hu h1 hn
end
abbrev nI(a:gF)(i:Int)(s:Nat):Value:=pA (dR a) (i.toNat*s)
abbrev bO(a:gF)(n c:Nat):Value:=.slice a n c
abbrev if_(n:Nat)(v:Value):Value:=.iface n v
abbrev pe(a:Array Value):Value:=.agg a
abbrev gS(b:Nat)(c:Array Value)(t:Nat):bu:=pts b (.cells c t)
abbrev vv(a:gF)(i:Int)(s f:Nat):Value:=pA (dR a) (i.toNat*s+f)
abbrev ey (p:af) (i:Int):aU:={qK p i with J:=wi ((qK p i).J+1)}
abbrev DH (p:af) (i:Int):aD:=J p.code (qK p i).fn.toNat
abbrev fC (p:af) (i:Int):cG:=J (DH p i).ai (qK p i).J.toNat
abbrev Ep (p:af) (i:Int) (a:aU):=p.aJ.set (an p i).ax.toNat a
def js(O:eL):Option (Bool):=
 (if O.ck<1 then some true else(if O.ck>4096 then some true else(if O.dU<1 then some true else(if O.dU>O.kB then some true else some (decide (O.kB>4096))))))
abbrev dk:List Value:=[U,U]
theorem tK(H:js O=some r0)(h:iV z (L) w) :
 nM 33 #[lT O] w z (vB r0) (L):=by
 unfold js at H;refine ke Tryz.func33 28 rfl λj=>ks<|kN h (mY O) 27 λb1 w h=>bS<|G<|aN [U]<|kL h 0<|ko [dm (O.ck<1),dm (O.ck<1)]<|qI H (λc2 H=>?_) λc2 H=>?_
 ·refine cu (dT c2) [7,8,9]<|oM (dT c2) (vB true)<|bS<|cu (rfl:true=true) [12,13,14]<|ko dk<|cu (rfl:true=true) [17,18,19,20,21]<|ko dk<|cu (rfl:true=true) [24,25,26]<|ko dk<|cr<|?_;cases H;exact fX (h.se 1 [])
 refine cW (dF c2) [7] [pA b1 0]<|vL (dF c2) h 0<|cW (dF c2) [9] [dm (O.ck>4096)]<|oG (dF c2) (dm (O.ck>4096))<|ko [dm (O.ck>4096)]<|qI H (λc3 H=>?_) λc3 H=>?_
 ·refine cu (dT c3) [12,13,14]<|oM (dT c3) (vB true)<|bS<|cu (rfl:true=true) [17,18,19,20,21]<|ko dk<|cu (rfl:true=true) [24,25,26]<|ko dk<|cr<|?_;cases H;exact fX (h.se 1 [])
 refine cW (dF c3) [12] [pA b1 1]<|vL (dF c3) h 1<|cW (dF c3) [14] [dm (O.dU<1)]<|oG (dF c3) (dm (O.dU<1))<|ko [dm (O.dU<1)]<|qI H (λc4 H=>?_) λc4 H=>?_
 ·refine cu (dT c4) [17,18,19,20,21]<|oM (dT c4) (vB true)<|bS<|cu (rfl:true=true) [24,25,26]<|ko dk<|cr<|?_;cases H;exact fX (h.se 1 [])
 refine cW (dF c4) [17] [pA b1 1]<|vL (dF c4) h 1<|cW (dF c4) [19] [pA b1 2]<|vL (dF c4) h 2<|cW (dF c4) [21] [dm (O.dU>O.kB)]<|oG (dF c4) (dm (O.dU>O.kB))<|ko [dm (O.dU>O.kB)]<|qI H (λc5 H=>?_) λc5 H=>?_
 ·refine cu (dT c5) [24,25,26]<|oM (dT c5) (vB true)<|bS<|cr<|?_;cases H;exact fX (h.se 1 [])
 refine cW (dF c5) [24] [pA b1 2]<|vL (dF c5) h 2<|cW (dF c5) [26] [dm (O.kB>4096)]<|oG (dF c5) (dm (O.kB>4096))<|ko [dm (O.kB>4096)]<|cr<|?_;cases H;exact fX (h.se 1 [])
def ia(K:Nat)(Y:Int):Nat->Int->Int->Option (Int)
 | 0,_,_=>none
 | k1+1,g1,g2=>(if g2<Y then(ia K Y k1 (wi ((wi (g1+1))+(if Y<(wi ((2:Int)*g2))then Y else(wi ((2:Int)*g2))))) (if Y<(wi ((2:Int)*g2))then Y else(wi ((2:Int)*g2))))else some g1)
def n4(K:Nat)(O:Int)(Y:Int):Option (Int):=
 (ia K Y K (wi ((4:Int)+O)) O)
theorem xT(H:n4 K O Y=some r0)(h:iV z (L) w) :
 nM 34 #[Z O,Z Y] w z (Z r0) (L):=by
 unfold n4 at H;refine ke Tryz.func34 22 rfl λj=>iv<|aN [U,Z (wi ((4:Int)+O)),Z (wi ((4:Int)+O))]<|G<|wq<|aN dk<|G<|wb<|λ_ r=>eD (β:=Nat) id (λm a w=>∃g1:Int,∃g2:Int,(ia K Y m g1 g2)=some r0/\∃j,mF 22 (lk [(1,Z Y),(5,Z g1),(6,Z g2)] j) a/\Fit z (aG (L)) w) K ⟨(wi ((4:Int)+O)),O,H,r.fj h⟩<|?_;clear h r H;rintro k1 a w ⟨g1,g2,H,j,r,h⟩;cases k1 with
 | zero=>exact absurd H (by simp[ia])
 | succ k1 =>
  rw[ia]at H;refine qq r<|wq<|aN [U,U,dm (g2<Y)]<|G<|dQ H (λc3 H=>?_) λc3 H=>?_
  ·refine gC<|wb<|aN [U,Z (wi ((2:Int)*g2)),U,Z (if Y<(wi ((2:Int)*g2))then Y else(wi ((2:Int)*g2))),Z (if Y<(wi ((2:Int)*g2))then Y else(wi ((2:Int)*g2)))]<|G<|wl<|ko [U,Z (wi (g1+1)),Z (if Y<(wi ((2:Int)*g2))then Y else(wi ((2:Int)*g2))),Z (wi ((wi (g1+1))+(if Y<(wi ((2:Int)*g2))then Y else(wi ((2:Int)*g2))))),Z (wi ((wi (g1+1))+(if Y<(wi ((2:Int)*g2))then Y else(wi ((2:Int)*g2)))))]<|kl<|bn<|tn<|?_;exact λ_ r=>⟨_,⟨(wi ((wi (g1+1))+(if Y<(wi ((2:Int)*g2))then Y else(wi ((2:Int)*g2))))),(if Y<(wi ((2:Int)*g2))then Y else(wi ((2:Int)*g2))),H,r.fj h⟩,jG _⟩
  refine wx<|te<|te<|bh<|tn<|aN dk<|cr<|?_;cases H;exact fX h
def mL(K:Nat)(O:Int)(Y:eL):Option (Int):=
 Ag ((if O<1 then some (.inr 0)else(if O>64 then some (.inr 0)else eA (js Y) (λr6=>(if r6=true then some (.inr 0)else some (.inl ())))))) (eA (n4 K Y.dU Y.kB) (λr9=>some (wi ((wi ((wi ((wi ((2:Int)+(wi (Y.ck*10))))+2))+O))+(wi (O*r9))))))
theorem BX(H:mL K O Y=some r0)(h:iV z (L) w) :
 nM 13 #[Z O,lT Y] w z (Z r0) (L):=by
 unfold mL at H;refine ke Tryz.func13 30 rfl λj=>ks<|kN h (mY Y) 27 λb1 w h=>bS<|G<|?_;obtain⟨o3,H,Fh⟩:=F8 H;refine λ_ r=>dz (β:=Unit) (λ_ a w=>.inl ()=o3/\∃j,mF 30 (lk [(0,Z O),(3,pA b1 0)] j) a/\Fit z (aG (On b1 Y::L)) w) ?_ ?_
 ·refine qq r<|aN [U,dm (O<1),dm (O<1)]<|qI H (λc4 H=>?_) λc4 H=>?_
  ·refine cu (dT c4) [8,9]<|oM (dT c4) (vB true)<|bS<|cu (rfl:true=true) [12,13]<|bS<|G<|λ_ r=>hJ r (b:=true) rfl<|qq r<|iv<|wr<|tr<|λ_ r=>sX (Z 0) rfl r<|?_;replace H:=xm H Fh;cases H;exact⟨rfl,h.se 1 []⟩
  refine cW (dF c4) [8,9] [Z O,dm (O>64)]<|oG (dF c4) (dm (O>64))<|ko [dm (O>64)]<|qI H (λc5 H=>?_) λc5 H=>?_
  ·refine cu (dT c5) [12,13]<|oM (dT c5) (vB true)<|G<|λ_ r=>hJ r (b:=true) rfl<|qq r<|iv<|wr<|tr<|λ_ r=>sX (Z 0) rfl r<|?_;replace H:=xm H Fh;cases H;exact⟨rfl,h.se 1 []⟩
  refine λ_ r=>ldm (sY r (dF c5)) r (lT Y) (cs:=Ga Y) (h.held 0 rfl)<|?_;refine gg H λr6 e7 H=>YX (dF c5) (tK e7 h :) λw h=>oG (dF c5) (vB r6)<|G<|FZ H (λc8 H=>?_) λc8 H=>?_
  ·refine iv<|wr<|tr<|λ_ r=>sX (Z 0) rfl r<|?_;replace H:=xm H Fh;cases H;exact⟨rfl,h.se 1 []⟩
  refine gC<|?_;exact λ_ r=>⟨(),gN H,r.fj h⟩
 clear h r;rintro _ a w ⟨rfl,j,r,h⟩;replace H:=F9 Fh;refine qq r<|wq<|gg H λr9 Fi H=>nc [(b1,0,[Z Y.ck]),(b1,1,[Z Y.dU]),(b1,2,[Z Y.kB])] [0,2,3,4,6,8,10,12,13] 16 h (λh=>⟨⟨h.cell 0 rfl,bU⟩,⟨h.cell 1 rfl,bU⟩,⟨h.cell 2 rfl,bU⟩,bU⟩) λw h hd =>mD hd 11 15 [([0],pA b1 0),([5,7],Z O),([8],pA b1 1),([10],pA b1 2)]<|eR hd 0 10 1 rfl<|nB hd 6 [(2,17,Z (wi (Y.ck*10))),(3,18,Z (wi ((2:Int)+(wi (Y.ck*10))))),(4,19,Z (wi ((wi ((2:Int)+(wi (Y.ck*10))))+2))),(6,21,Z (wi ((wi ((wi ((2:Int)+(wi (Y.ck*10))))+2))+O)))]<|eR hd 1 5 9 rfl<|eR hd 2 4 11 rfl<|mh 12 rfl<|fe (xT Fi h :) λw h=>G<|vN ⟨⟨h.cell 0 rfl,bU⟩,⟨h.cell 1 rfl,bU⟩,⟨h.cell 2 rfl,bU⟩,bU⟩ λhd =>nB hd 0 [(13,28,Z (wi (O*r9))),(14,29,Z (wi ((wi ((wi ((wi ((2:Int)+(wi (Y.ck*10))))+2))+O))+(wi (O*r9))))),(15,4,Z (wi ((wi ((wi ((wi ((2:Int)+(wi (Y.ck*10))))+2))+O))+(wi (O*r9)))))]<|nk<|tn<|wr<|?_;cases H;exact fX (h.se 1 [])
def xU(O:Int):Option (Bool):=
 (if O>=0 then some (decide (O<=1048576))else some false)
theorem Dh(H:xU O=some r0)(h:iV z (L) w) :
 nM 32 #[Z O] w z (vB r0) (L):=by
 unfold xU at H;refine ke Tryz.func32 9 rfl λj=>iv<|aN [U,dm (O>=0),dm (O>=0)]<|qI H (λc1 H=>?_) λc1 H=>?_
 ·refine cW (dT c1) [6,7] [Z O,dm (O<=1048576)]<|oM (dT c1) (dm (O<=1048576))<|ko [dm (O<=1048576)]<|cr<|?_;cases H;exact fX h
 refine cu (dF c1) [6,7]<|oG (dF c1) (vB false)<|bS<|cr<|?_;cases H;exact fX h
def vO(O:Int):Option ((Option ag)×Int):=
 eA (xU O) (λr1=>(if r1=true then some (some (⟨O,0,([]:List Int),([]:List bl),0,false⟩:ag),0)else some (none,3)))
abbrev lI:List Value:=[U,U,U]
abbrev hU (B:Nat) (S:ag) (a:gF) (c:Nat) (d:gF) (e:Nat) (L:List bu):List bu:=adL B S a c d e::ro2 a c S.cell::abv d e S.log::L
theorem I6{O r1:Int}{r0:ag}(H:vO O=some ((some r0),r1))(h:iV z (L) w) :
 Calls Tryz.prog 12 #[Z O] w λe w=>∃XW y1 y2 y3 y4,e=.returned (.tuple #[pA XW 0,Z r1])/\Fit z (aG (hU XW r0 y1 y2 y3 y4 L)) w:=by
 unfold vO at H;refine ke Tryz.func12 11 rfl λj=>aN dk<|G<|wq<|ks<|gg H λr1 e2 H=>bS<|fe (Dh e2 h :) λw h=>ko [vB (!r1)]<|G<|IJ H (λc3 H=>?_) λc3 H=>?_
 ·refine gC<|aN lI<|kN h (#[Z O,Z 0,bO none 0 0,bO none 0 0,Z 0,vB false]) 78 λb4 w h=>ko dk<|cr<|λ_ r=>DF (pA b4 0) (Z 0) rfl r<|?_;replace h:=h.kR (e:=2) (sz:=1) (enc:=aO);replace h:=h.kR (e:=269) (sz:=6) (enc:=ry);cases H;exact⟨b4,none,0,none,0,rfl,h.se 3 [2,1,0]⟩
 refine aN dk<|cr<|tr<|λ_ r=>DF pN (Z 3) rfl r<|?_;cases H
theorem I7{O r1:Int}(H:vO O=some (none,r1))(h:iV z (L) w) :
 nM 12 #[Z O] w z (.tuple #[pN,Z r1]) (L):=by
 unfold vO at H;refine ke Tryz.func12 11 rfl λj=>aN dk<|G<|wq<|ks<|gg H λr1 e2 H=>bS<|fe (Dh e2 h :) λw h=>ko [vB (!r1)]<|G<|IJ H (λc3 H=>?_) λc3 H=>?_
 ·refine gC<|aN lI<|kN h (#[Z O,Z 0,bO none 0 0,bO none 0 0,Z 0,vB false]) 78 λb4 w h=>ko dk<|cr<|λ_ r=>DF (pA b4 0) (Z 0) rfl r<|?_;replace h:=h.kR (e:=2) (sz:=1) (enc:=aO);replace h:=h.kR (e:=269) (sz:=6) (enc:=ry);cases H
 refine aN dk<|cr<|tr<|?_;cases H;exact KB h
def kI(O:aD):Option (Bool):=
 Ag ((if O.aS<0 then some (.inr false)else(if O.aS>8 then some (.inr false)else(if O.cZ<1 then some (.inr false)else(if O.cZ<O.aS then some (.inr false)else(if O.cZ>16 then some (.inr false)else some (.inl ()))))))) ((if O.bP>=0 then(if O.bP<=8 then(if((O.ai.length:Nat):Int)>=1 then some (decide (((O.ai.length:Nat):Int)<=512))else some false)else some false)else some false))
theorem vC(H:kI O=some r0)(h:iV z (L) w)(cE:cx L 5 cS bA O.ai) :
 nM 49 #[pe #[Z O.aS,Z O.cZ,Z O.bP,bO bA O.ai.length bX]] w z (vB r0) (L):=by
 unfold kI at H;refine ke Tryz.func49 48 rfl λj=>ks<|kN h (#[Z O.aS,Z O.cZ,Z O.bP,bO bA O.ai.length bX]) 85 λb1 w h=>bS<|G<|?_;obtain⟨o3,H,Fh⟩:=F8 H;refine λ_ r=>dz (β:=Unit) (λ_ a w=>.inl ()=o3/\∃j,mF 48 (lk [(1,pA b1 0)] j) a/\Fit z (aG (sn b1 O bA bX::L)) w) ?_ ?_
 ·refine qq r<|aN [U]<|kL h 0<|ko [dm (O.aS<0),dm (O.aS<0)]<|qI H (λc4 H=>?_) λc4 H=>?_
  ·refine cu (dT c4) [7,8,9]<|oM (dT c4) (vB true)<|bS<|cu (rfl:true=true) [12,13,14]<|ko dk<|cu (rfl:true=true) [17,18,19,20,21]<|ko dk<|cu (rfl:true=true) [24,25,26]<|bS<|G<|λ_ r=>hJ r (b:=true) rfl<|qq r<|iv<|wr<|tr<|λ_ r=>sX (vB false) rfl r<|?_;replace H:=xm H Fh;cases H;exact⟨rfl,h.se 1 []⟩
  refine cW (dF c4) [7] [pA b1 0]<|vL (dF c4) h 0<|cW (dF c4) [9] [dm (O.aS>8)]<|oG (dF c4) (dm (O.aS>8))<|ko [dm (O.aS>8)]<|qI H (λc5 H=>?_) λc5 H=>?_
  ·refine cu (dT c5) [12,13,14]<|oM (dT c5) (vB true)<|bS<|cu (rfl:true=true) [17,18,19,20,21]<|ko dk<|cu (rfl:true=true) [24,25,26]<|bS<|G<|λ_ r=>hJ r (b:=true) rfl<|qq r<|iv<|wr<|tr<|λ_ r=>sX (vB false) rfl r<|?_;replace H:=xm H Fh;cases H;exact⟨rfl,h.se 1 []⟩
  refine cW (dF c5) [12] [pA b1 1]<|vL (dF c5) h 1<|cW (dF c5) [14] [dm (O.cZ<1)]<|oG (dF c5) (dm (O.cZ<1))<|ko [dm (O.cZ<1)]<|qI H (λc6 H=>?_) λc6 H=>?_
  ·refine cu (dT c6) [17,18,19,20,21]<|oM (dT c6) (vB true)<|bS<|cu (rfl:true=true) [24,25,26]<|bS<|G<|λ_ r=>hJ r (b:=true) rfl<|qq r<|iv<|wr<|tr<|λ_ r=>sX (vB false) rfl r<|?_;replace H:=xm H Fh;cases H;exact⟨rfl,h.se 1 []⟩
  refine cW (dF c6) [17] [pA b1 1]<|vL (dF c6) h 1<|cW (dF c6) [19] [pA b1 0]<|vL (dF c6) h 0<|cW (dF c6) [21] [dm (O.cZ<O.aS)]<|oG (dF c6) (dm (O.cZ<O.aS))<|ko [dm (O.cZ<O.aS)]<|qI H (λc7 H=>?_) λc7 H=>?_
  ·refine cu (dT c7) [24,25,26]<|oM (dT c7) (vB true)<|G<|λ_ r=>hJ r (b:=true) rfl<|qq r<|iv<|wr<|tr<|λ_ r=>sX (vB false) rfl r<|?_;replace H:=xm H Fh;cases H;exact⟨rfl,h.se 1 []⟩
  refine cW (dF c7) [24] [pA b1 1]<|vL (dF c7) h 1<|cW (dF c7) [26] [dm (O.cZ>16)]<|oG (dF c7) (dm (O.cZ>16))<|G<|dQ H (λc8 H=>?_) λc8 H=>?_
  ·refine iv<|wr<|tr<|λ_ r=>sX (vB false) rfl r<|?_;replace H:=xm H Fh;cases H;exact⟨rfl,h.se 1 []⟩
  refine gC<|?_;exact λ_ r=>⟨(),gN H,r.fj h⟩
 clear h r;rintro _ a w ⟨rfl,j,r,h⟩;replace H:=F9 Fh;refine qq r<|aN [U]<|kL h 2<|ko [dm (O.bP>=0),dm (O.bP>=0)]<|qI H (λc9 H=>?_) λc9 H=>?_
 ·refine cW (dT c9) [32] [pA b1 2]<|vL (dT c9) h 2<|cW (dT c9) [34] [dm (O.bP<=8)]<|oM (dT c9) (dm (O.bP<=8))<|ko [dm (O.bP<=8)]<|qI H (λqR H=>?_) λqR H=>?_
  ·refine cW (dT qR) [37] [pA b1 3]<|vL (dT qR) h 3<|cW (dT qR) [39,40] [Z ((O.ai.length:Nat):Int),dm (((O.ai.length:Nat):Int)>=1)]<|oM (dT qR) (dm (((O.ai.length:Nat):Int)>=1))<|ko [dm (((O.ai.length:Nat):Int)>=1)]<|qI H (λvw H=>?_) λvw H=>?_
   ·refine cW (dT vw) [43] [pA b1 3]<|vL (dT vw) h 3<|cW (dT vw) [45,46] [Z ((O.ai.length:Nat):Int),dm (((O.ai.length:Nat):Int)<=512)]<|oM (dT vw) (dm (((O.ai.length:Nat):Int)<=512))<|ko [dm (((O.ai.length:Nat):Int)<=512)]<|cr<|?_;cases H;exact fX (h.se 1 [])
   refine cu (dF vw) [43,44,45,46]<|oG (dF vw) (vB false)<|bS<|cr<|?_;cases H;exact fX (h.se 1 [])
  refine cu (dF qR) [37,38,39,40]<|oG (dF qR) (vB false)<|bS<|cu (rfl:false=false) [43,44,45,46]<|ko dk<|cr<|?_;cases H;exact fX (h.se 1 [])
 refine cu (dF c9) [32,33,34]<|oG (dF c9) (vB false)<|bS<|cu (rfl:false=false) [37,38,39,40]<|ko dk<|cu (rfl:false=false) [43,44,45,46]<|ko dk<|cr<|?_;cases H;exact fX (h.se 1 [])
def gI(O:Int)(Y:Int):Option (Bool):=
 (if O>=0 then some (decide (O<Y))else some false)
theorem iG(H:gI O Y=some r0)(h:iV z (L) w) :
 nM 84 #[Z O,Z Y] w z (vB r0) (L):=by
 unfold gI at H;refine ke Tryz.func84 12 rfl λj=>iv<|aN [U,dm (O>=0),dm (O>=0)]<|qI H (λc1 H=>?_) λc1 H=>?_
 ·refine cW (dT c1) [8,9,10] [Z O,Z Y,dm (O<Y)]<|oM (dT c1) (dm (O<Y))<|ko [dm (O<Y)]<|cr<|?_;cases H;exact fX h
 refine cu (dF c1) [8,9,10]<|oG (dF c1) (vB false)<|bS<|cr<|?_;cases H;exact fX h
def n5(O:aD)(Y:cG):Option (Bool):=
 eA (gI Y.A O.cZ) (λr3=>eA (gI Y.B O.cZ) (λr5=>eA ((if Y.aP=0 then some (Y.aP==0)else(if Y.aP=8 then some (Y.aP==8)else some (Y.aP==9)))) (λg7=>(if g7=true then some r3 else(if Y.aP=1 then(if r3=true then some r5 else some false)else(if Y.aP=2 then(if r3=true then(if r5=true then eA (gI Y.C O.cZ) (λBl=>(if Bl=true then(if Y.K>=0 then some (decide (Y.K<16))else some false)else some false))else some false)else some false)else(if Y.aP=3 then eA (gI Y.A ((O.ai.length:Nat):Int)) (λrB=>some rB)else(if Y.aP=4 then(if r3=true then eA (gI Y.B ((O.ai.length:Nat):Int)) (λOo=>some Oo)else some false)else(if Y.aP=5 then eA (gI Y.A O.bP) (λBZ=>some BZ)else(if Y.aP=6 then some true else(if Y.aP=7 then(if r3=true then eA (gI Y.B O.bP) (λvx=>some vx)else some false)else some false)))))))))))
theorem ta(H:n5 O Y=some r0)(h:iV z (L) w)(cE:cx L 5 cS bA O.ai) :
 nM 50 #[pe #[Z O.aS,Z O.cZ,Z O.bP,bO bA O.ai.length bX],gQ Y] w z (vB r0) (L):=by
 unfold n5 at H;refine ke Tryz.func50 91 rfl λj=>ks<|kN h (#[Z O.aS,Z O.cZ,Z O.bP,bO bA O.ai.length bX]) 85 λb1 w h=>kN h (mI Y) 132 λb2 w h=>bS<|G<|aN [U]<|kL h 1<|bS<|kL (h.pick 1) 1<|gg H λr3 e4 H=>fe (iG e4 h :) λw h=>bS<|G<|aN [U]<|kL h 2<|bS<|kL (h.pick 1) 1<|gg H λr5 e6 H=>fe (iG e6 h :) λw h=>bS<|G<|wq<|aN [U]<|kL h 0<|G<|wb<|HM H λo9 H Wk=>λ_ r=>dz (β:=Unit) (λ_ a w=>∃g7:Bool,g7=o9/\∃j,mF 91 (lk [(2,pA b1 0),(3,pA b2 0),(5,vB r3),(6,vB r5),(18,Z Y.aP),(19,vB g7)] j) a/\Fit z (aG (sn b1 O bA bX::vA b2 Y::L)) w) ?_ ?_
 ·refine qq r<|aN [vB (Y.aP==0),vB (Y.aP==0)]<|G<|dQ H (λqR H=>?_) λqR H=>?_
  ·refine gC<|?_;exact λ_ r=>⟨(),(Y.aP==0),gN H,r.fj (h.se 2 [1,0])⟩
  refine aN [vB (Y.aP==8),vB (Y.aP==8)]<|G<|dQ H (λvw H=>?_) λvw H=>?_
  ·refine gC<|?_;exact λ_ r=>⟨(),(Y.aP==8),gN H,r.fj (h.se 2 [1,0])⟩
  refine wl<|ko [vB (Y.aP==9),vB (Y.aP==9)]<|G<|?_;exact λ_ r=>⟨(),(Y.aP==9),gN H,r.fj (h.se 2 [1,0])⟩
 clear h r;rintro _ a w ⟨g7,rfl,j,r,h⟩;replace H:=Hw Wk;refine qq r<|FZ H (λDI H=>?_) λDI H=>?_
 ·refine aN dk<|cr<|br<|tr<|?_;cases H;exact fX (h.se 2 [])
 refine aN [vB (Y.aP==1),vB (Y.aP==1)]<|G<|dQ H (λyl H=>?_) λyl H=>?_
 ·refine aN dk<|qI H (λAZ H=>?_) λAZ H=>?_
  ·refine cW (AZ) [28] [vB r5]<|oM (AZ) (vB r5)<|bS<|cr<|br<|tr<|?_;cases H;exact fX (h.se 2 [])
  refine cu (bF AZ) [28]<|oG (bF AZ) (vB false)<|bS<|cr<|br<|tr<|?_;cases H;exact fX (h.se 2 [])
 refine aN [vB (Y.aP==2),vB (Y.aP==2)]<|G<|dQ H (λpR H=>?_) λpR H=>?_
 ·refine aN dk<|qI H (λuS H=>?_) λuS H=>?_
  ·refine cW (uS) [34] [vB r5]<|oM (uS) (vB r5)<|bS<|qI H (λzE H=>?_) λzE H=>?_
   ·refine cW (zE) [37] [pA b2 3]<|λ_ r=>ld (sY r (zE)) r (Z Y.C) ((h.pick 1).cell 3 rfl)<|?_;refine cW (zE) [39] [pA b1 1]<|λ_ r=>ld (sY r (zE)) r (Z O.cZ) (h.cell 1 rfl)<|?_;refine gg H λBl Oq H=>?_;have hc:=iG (H:=Oq) (h:=h);intro _ r;refine cl (sY r (zE)) r hc ?_;clear hc h;rintro _ w ⟨rfl,h⟩;refine⟨_,rfl,?_⟩;refine oM (zE) (vB Bl)<|bS<|qI H (λmV H=>?_) λmV H=>?_
    ·refine cW (mV) [44] [pA b2 4]<|λ_ r=>ld (sY r (mV)) r (Z Y.K) ((h.pick 1).cell 4 rfl)<|?_;refine cW (mV) [46] [dm (Y.K>=0)]<|oM (mV) (dm (Y.K>=0))<|ko [dm (Y.K>=0)]<|qI H (λsq H=>?_) λsq H=>?_
     ·refine cW (dT sq) [49] [pA b2 4]<|vL (dT sq) (h.pick 1) 4<|cW (dT sq) [51] [dm (Y.K<16)]<|oM (dT sq) (dm (Y.K<16))<|ko [dm (Y.K<16)]<|cr<|br<|tr<|?_;cases H;exact fX (h.se 2 [])
     refine cu (dF sq) [49,50,51]<|oG (dF sq) (vB false)<|bS<|cr<|br<|tr<|?_;cases H;exact fX (h.se 2 [])
    refine cu (bF mV) [44,45,46]<|oG (bF mV) (vB false)<|bS<|cu (rfl:false=false) [49,50,51]<|ko dk<|cr<|br<|tr<|?_;cases H;exact fX (h.se 2 [])
   refine cu (bF zE) [37,38,39,40,41]<|oG (bF zE) (vB false)<|bS<|cu (rfl:false=false) [44,45,46]<|ko dk<|cu (rfl:false=false) [49,50,51]<|ko dk<|cr<|br<|tr<|?_;cases H;exact fX (h.se 2 [])
  refine cu (bF uS) [34]<|oG (bF uS) (vB false)<|bS<|cu (rfl:false=false) [37,38,39,40,41]<|ko dk<|cu (rfl:false=false) [44,45,46]<|ko dk<|cu (rfl:false=false) [49,50,51]<|ko dk<|cr<|br<|tr<|?_;cases H;exact fX (h.se 2 [])
 refine aN [vB (Y.aP==3),vB (Y.aP==3)]<|G<|dQ H (λFj H=>?_) λFj H=>?_
 ·refine aN [U]<|kL (h.pick 1) 1<|bS<|kL h 3<|gg H λrB TG H=>ko [Z ((O.ai.length:Nat):Int)]<|fe (iG TG h :) λw h=>bS<|cr<|br<|tr<|?_;cases H;exact fX (h.se 2 [])
 refine aN [vB (Y.aP==4),vB (Y.aP==4)]<|G<|dQ H (λyL H=>?_) λyL H=>?_
 ·refine aN dk<|qI H (λDi H=>?_) λDi H=>?_
  ·refine cW (Di) [65] [pA b2 2]<|λ_ r=>ld (sY r (Di)) r (Z Y.B) ((h.pick 1).cell 2 rfl)<|?_;refine cW (Di) [67] [pA b1 3]<|λ_ r=>ld (sY r (Di)) r (bO bA O.ai.length bX) (h.cell 3 rfl)<|?_;refine gg H λOo Ot H=>cW (Di) [69] [Z ((O.ai.length:Nat):Int)]<|?_;have hc:=iG (H:=Ot) (h:=h);intro _ r;refine cl (sY r (Di)) r hc ?_;clear hc h;rintro _ w ⟨rfl,h⟩;refine⟨_,rfl,?_⟩;refine oM (Di) (vB Oo)<|bS<|cr<|br<|tr<|?_;cases H;exact fX (h.se 2 [])
  refine cu (bF Di) [65,66,67,68,69,70]<|oG (bF Di) (vB false)<|bS<|cr<|br<|tr<|?_;cases H;exact fX (h.se 2 [])
 refine aN [vB (Y.aP==5),vB (Y.aP==5)]<|G<|dQ H (λAo H=>?_) λAo H=>?_
 ·refine aN [U]<|kL (h.pick 1) 1<|bS<|kL h 2<|gg H λBZ Vz H=>fe (iG Vz h :) λw h=>bS<|cr<|br<|tr<|?_;cases H;exact fX (h.se 2 [])
 refine aN [vB (Y.aP==6),vB (Y.aP==6)]<|G<|dQ H (λE3 H=>?_) λE3 H=>?_
 ·refine iv<|wr<|br<|tr<|?_;cases H;exact fX (h.se 2 [])
 refine aN [vB (Y.aP==7),vB (Y.aP==7)]<|G<|dQ H (λB3 H=>?_) λB3 H=>?_
 ·refine aN dk<|qI H (λEr H=>?_) λEr H=>?_
  ·refine cW (Er) [85] [pA b2 2]<|λ_ r=>ld (sY r (Er)) r (Z Y.B) ((h.pick 1).cell 2 rfl)<|?_;refine cW (Er) [87] [pA b1 2]<|λ_ r=>ld (sY r (Er)) r (Z O.bP) (h.cell 2 rfl)<|?_;refine gg H λvx TH H=>?_;have hc:=iG (H:=TH) (h:=h);intro _ r;refine cl (sY r (Er)) r hc ?_;clear hc h;rintro _ w ⟨rfl,h⟩;refine⟨_,rfl,?_⟩;refine oM (Er) (vB vx)<|bS<|cr<|br<|tr<|?_;cases H;exact fX (h.se 2 [])
  refine cu (bF Er) [85,86,87,88,89]<|oG (bF Er) (vB false)<|bS<|cr<|br<|tr<|?_;cases H;exact fX (h.se 2 [])
 refine wk<|bn<|tn<|iv<|wr<|?_;cases H;exact fX (h.se 2 [])
def po(O:aH)(Y:aD)(p2:cG):Option (Bool):=
 (if p2.aP=5 then eA (gI p2.B ((O.ah.length:Nat):Int)) (λr5=>(if r5=true then if bM p2.B O.ah.length then(if(J O.ah p2.B.toNat).aS=0 then some true else eA (gI p2.C Y.cZ) (λBB=>(if BB=true then some (decide ((J O.ah p2.B.toNat).aS<=(wi (Y.cZ-p2.C))))else some false)))else none else some false))else some true)
theorem Bm(H:po O Y p2=some r0)(h:iV z (L) w)(aR:Bk L aZ aI O.ah)(eT:cx L 5 cS cX Y.ai) :
 nM 51 #[pe #[bO aZ O.ah.length bH],pe #[Z Y.aS,Z Y.cZ,Z Y.bP,bO cX Y.ai.length de],gQ p2] w z (vB r0) (L):=by
 unfold po at H;refine ke Tryz.func51 43 rfl λj=>ks<|kN h (#[bO aZ O.ah.length bH]) 24 λb1 w h=>kN h (#[Z Y.aS,Z Y.cZ,Z Y.bP,bO cX Y.ai.length de]) 85 λb2 w h=>kN h (mI p2) 132 λb3 w h=>bS<|G<|wq<|aN [U]<|kL h 0<|ko [vB (p2.aP != 5)]<|G<|rU H (λc4 H=>?_) λc4 H=>?_
 ·refine gC<|wq<|aN [U]<|kL h 2<|bS<|kL (h.pick 2) 0<|gg H λr5 e6 H=>ko [Z ((O.ah.length:Nat):Int)]<|fe (iG e6 h :) λw h=>ko [vB (!r5)]<|G<|IJ H (λc7 H=>?_) λc7 H=>?_
  ·refine gC<|aN [U]<|kL (h.pick 2) 0<|bS<|kL h 2<|qg H λc8 H=>kp (pA (dR aZ) (kz aZ+p2.B.toNat*4)) (DG 85 bH rfl rfl aR c8)<|bS<|Aa (Z (J O.ah p2.B.toNat).aS) (aR.cell c8 (h.dn 3) 0 rfl)<|?_;refine bS<|G<|aN [U,vB ((J O.ah p2.B.toNat).aS==0),vB ((J O.ah p2.B.toNat).aS==0)]<|qI H (λc9 H=>?_) λc9 H=>?_
   ·refine cu (beq_iff_eq.mpr c9) [28,29,30,31,32,33]<|J8 true [34,35,36,37,38,39,40]<|cu (beq_iff_eq.mpr c9) [41]<|oM (beq_iff_eq.mpr c9) (vB true)<|bS<|cr<|?_;cases H;exact fX (h.se 3 [])
   refine cW (bN c9) [28] [pA b3 3]<|vL (bN c9) h 3<|cW (bN c9) [30] [pA b2 1]<|vL (bN c9) (h.pick 1) 1<|gg H λBB Y3 H=>YX (bN c9) (iG Y3 h :) λw h=>cW (bN c9) [33] [vB BB]<|qI H (λDI H=>?_) λDI H=>?_
   ·refine cW (DI) [34,35] [Z (J O.ah p2.B.toNat).aS,pA b2 1]<|λ_ r=>ld (sY r (DI)) r (Z Y.cZ) ((h.pick 1).cell 1 rfl)<|?_;refine cW (DI) [37] [pA b3 3]<|λ_ r=>ld (sY r (DI)) r (Z p2.C) (h.cell 3 rfl)<|?_;refine cW (DI) [39,40] [Z (wi (Y.cZ-p2.C)),dm ((J O.ah p2.B.toNat).aS<=(wi (Y.cZ-p2.C)))]<|λ_ r=>Dz (sY r (bN c9)) r (dm ((J O.ah p2.B.toNat).aS<=(wi (Y.cZ-p2.C)))) (IY (b:=BB) rfl aY (DI) aY)<|?_;refine oG (bN c9) (dm ((J O.ah p2.B.toNat).aS<=(wi (Y.cZ-p2.C))))<|ko [dm ((J O.ah p2.B.toNat).aS<=(wi (Y.cZ-p2.C)))]<|cr<|?_;cases H;exact fX (h.se 3 [])
   refine cu (bF DI) [34,35,36,37,38,39,40]<|λ_ r=>Dz (sY r (bN c9)) r (vB false) (IZ (b:=BB) rfl aY (bF DI) aY)<|?_;refine oG (bN c9) (vB false)<|bS<|cr<|?_;cases H;exact fX (h.se 3 [])
  refine iv<|wr<|tr<|?_;cases H;exact fX (h.se 3 [])
 refine iv<|wr<|tr<|?_;cases H;exact fX (h.se 3 [])
def nC(O:aD):Option (Bool):=
 if bM (wi (((O.ai.length:Nat):Int)-1)) O.ai.length then(if(J O.ai (wi (((O.ai.length:Nat):Int)-1)).toNat).aP=3 then some true else some ((J O.ai (wi (((O.ai.length:Nat):Int)-1)).toNat).aP==9))else none
theorem w8(H:nC O=some r0)(h:iV z (L) w)(cE:cx L 5 cS bA O.ai) :
 nM 52 #[pe #[Z O.aS,Z O.cZ,Z O.bP,bO bA O.ai.length bX]] w z (vB r0) (L):=by
 unfold nC at H;refine ke Tryz.func52 19 rfl λj=>ks<|kN h (#[Z O.aS,Z O.cZ,Z O.bP,bO bA O.ai.length bX]) 85 λb1 w h=>bS<|G<|aN [U]<|kL h 3<|bS<|kL h 3<|qg H λc2 H=>ko [Z ((O.ai.length:Nat):Int),Z (wi (((O.ai.length:Nat):Int)-1))]<|kj 132 bX cE c2<|ko [pA (dR bA) (kz bA+(wi (((O.ai.length:Nat):Int)-1)).toNat*5)]<|Aa (Z (J O.ai (wi (((O.ai.length:Nat):Int)-1)).toNat).aP) (cE.cell c2 (h.dn 1) 0 rfl)<|?_;refine ko [Z (J O.ai (wi (((O.ai.length:Nat):Int)-1)).toNat).aP]<|G<|aN [Z (J O.ai (wi (((O.ai.length:Nat):Int)-1)).toNat).aP,vB ((J O.ai (wi (((O.ai.length:Nat):Int)-1)).toNat).aP==3),vB ((J O.ai (wi (((O.ai.length:Nat):Int)-1)).toNat).aP==3)]<|qI H (λc3 H=>?_) λc3 H=>?_
 ·refine cu (beq_iff_eq.mpr c3) [16,17]<|oM (beq_iff_eq.mpr c3) (vB true)<|bS<|cr<|?_;cases H;exact fX (h.se 1 [])
 refine cW (bN c3) [16,17] [Z (J O.ai (wi (((O.ai.length:Nat):Int)-1)).toNat).aP,vB ((J O.ai (wi (((O.ai.length:Nat):Int)-1)).toNat).aP==9)]<|oG (bN c3) (vB ((J O.ai (wi (((O.ai.length:Nat):Int)-1)).toNat).aP==9))<|ko [vB ((J O.ai (wi (((O.ai.length:Nat):Int)-1)).toNat).aP==9)]<|cr<|?_;cases H;exact fX (h.se 1 [])
def jh(K:Nat)(O:aD):Nat->Int->Option (Bool)
 | 0,_=>none
 | k1+1,g5=>(if g5<((O.ai.length:Nat):Int)then if bM g5 O.ai.length then eA (n5 O (J O.ai g5.toNat)) (λr8=>(if r8=true then(jh K O k1 (wi (g5+1)))else some false))else none else eA (nC O) (λuO=>some uO))
def sS(K:Nat)(O:aD):Option (Bool):=
 eA (kI O) (λr2=>(if r2=true then(jh K O K 0)else some false))
theorem B4(H:sS K O=some r0)(h:iV z (L) w)(cE:cx L 5 cS bA O.ai) :
 nM 85 #[pe #[Z O.aS,Z O.cZ,Z O.bP,bO bA O.ai.length bX]] w z (vB r0) (L):=by
 unfold sS at H;refine ke Tryz.func85 26 rfl λj=>ks<|kN h (#[Z O.aS,Z O.cZ,Z O.bP,bO bA O.ai.length bX]) 85 λb1 w h=>bS<|G<|wq<|ks<|kM h<|gg H λr2 e3 H=>fe (vC (bA:=bA) (bX:=bX) (cE:=(cx.up 1 cE)) e3 h :) λw h=>ko [vB (!r2)]<|G<|IJ H (λc4 H=>?_) λc4 H=>?_
 ·refine gC<|wq<|iv<|wb<|λ_ r=>eD (β:=Nat) id (λm a w=>∃g5:Int,(jh K O m g5)=some r0/\∃j,mF 26 (lk [(1,pA b1 0),(3,Z g5)] j) a/\Fit z (aG (sn b1 O bA bX::L)) w) K ⟨0,H,r.fj h⟩<|?_;clear h r H;rintro k1 a w ⟨g5,H,j,r,h⟩;cases k1 with
  | zero=>exact absurd H (by simp[jh])
  | succ k1 =>
   rw[jh]at H;refine qq r<|wq<|aN dk<|kL h 3<|ko [Z ((O.ai.length:Nat):Int),dm (g5<((O.ai.length:Nat):Int))]<|G<|dQ H (λc6 H=>?_) λc6 H=>?_
   ·refine gC<|wq<|wb<|wq<|qg H λc7 H=>gg H λr8 e9 H=>nc [(b1,0,[Z O.aS,Z O.cZ,Z O.bP,bO bA O.ai.length bX]),(b1,3,[bO bA O.ai.length bX]),(dR bA,kz bA+g5.toNat*5,gP (J O.ai g5.toNat))] [1,4] 8 h (λh=>⟨(h.held 0 rfl),⟨h.cell 3 rfl,bU⟩,⟨cE.cell c7 (h.dn 1) 0 rfl,cE.cell c7 (h.dn 1) 1 rfl,cE.cell c7 (h.dn 1) 2 rfl,cE.cell c7 (h.dn 1) 3 rfl,cE.cell c7 (h.dn 1) 4 rfl,bU⟩,bU⟩) λw h hd =>nB hd 6 [(1,16,pA b1 3),(3,18,Z g5)]<|xF hd 0 5 0 rfl rfl<|eR hd 1 4 2 rfl<|nZ hd 3 4 rfl (pA (dR bA) (kz bA+g5.toNat*5)) (λw=>HU 132 bX rfl rfl cE c7)<|xF hd 2 2 5 rfl rfl<|mh 6 rfl<|fe (ta (bA:=bA) (bX:=bX) (cE:=(cx.up 1 cE)) e9 h :) λw h=>G<|mK<|iK 0 7 rfl (vB r8)<|nk<|tn<|aN [U,vB (!r8)]<|G<|IJ H (λqR H=>?_) λqR H=>?_
    ·refine wk<|bn<|tn<|wl<|ko [U,Z (wi (g5+1)),Z (wi (g5+1))]<|G<|?_;exact λ_ r=>⟨_,⟨(wi (g5+1)),H,r.fj h⟩,jG _⟩
    refine iv<|wr<|br<|tr<|tr<|br<|tr<|?_;cases H;exact fX (h.se 1 [])
   refine wx<|te<|te<|bh<|tn<|ks<|kM h<|gg H λuO Es H=>fe (w8 (bA:=bA) (bX:=bX) (cE:=(cx.up 1 cE)) Es h :) λw h=>bS<|cr<|?_;cases H;exact fX (h.se 1 [])
 refine iv<|wr<|tr<|?_;cases H;exact fX (h.se 1 [])
def qt(O:cG)(Y:Int)(p2:Int):Option (Int):=
 (if O.aP=5 then(if O.A=Y then some 2 else(if O.aP=6 then(if p2=2 then some 4 else some p2)else some p2))else(if O.aP=6 then(if p2=2 then some 4 else some p2)else some p2))
theorem B5(H:qt O Y p2=some r0)(h:iV z (L) w) :
 nM 120 #[gQ O,Z Y,Z p2] w z (Z r0) (L):=by
 unfold qt at H;refine ke Tryz.func120 24 rfl λj=>ks<|kN h (mI O) 132 λb1 w h=>bS<|G<|wq<|aN [U]<|kL h 0<|ko [vB (O.aP==5),vB (O.aP==5)]<|qI H (λc2 H=>?_) λc2 H=>?_
 ·refine cW (beq_iff_eq.mpr c2) [11] [pA b1 1]<|λ_ r=>ld (sY r (beq_iff_eq.mpr c2)) r (Z O.A) (h.cell 1 rfl)<|?_;refine cW (beq_iff_eq.mpr c2) [13,14] [Z Y,vB (O.A==Y)]<|oM (beq_iff_eq.mpr c2) (vB (O.A==Y))<|G<|dQ H (λc3 H=>?_) λc3 H=>?_
  ·refine iv<|wr<|tr<|?_;cases H;exact fX (h.se 1 [])
  refine gC<|wq<|aN [U]<|kL h 0<|ko [vB (O.aP==6),vB (O.aP==6)]<|qI H (λc4 H=>?_) λc4 H=>?_
  ·refine cW (beq_iff_eq.mpr c4) [20,21] [Z p2,vB (p2==2)]<|oM (beq_iff_eq.mpr c4) (vB (p2==2))<|G<|dQ H (λc5 H=>?_) λc5 H=>?_
   ·refine iv<|wr<|tr<|?_;cases H;exact fX (h.se 1 [])
   refine gC<|aN dk<|cr<|?_;cases H;exact fX (h.se 1 [])
  refine cu (bN c4) [20,21]<|oG (bN c4) (vB false)<|G<|λ_ r=>jb r (b:=false) rfl<|qq r<|gC<|aN dk<|cr<|?_;cases H;exact fX (h.se 1 [])
 refine cu (bN c2) [11,12,13,14]<|oG (bN c2) (vB false)<|G<|λ_ r=>jb r (b:=false) rfl<|qq r<|gC<|wq<|aN [U]<|kL h 0<|ko [vB (O.aP==6),vB (O.aP==6)]<|qI H (λc6 H=>?_) λc6 H=>?_
 ·refine cW (beq_iff_eq.mpr c6) [20,21] [Z p2,vB (p2==2)]<|oM (beq_iff_eq.mpr c6) (vB (p2==2))<|G<|dQ H (λc7 H=>?_) λc7 H=>?_
  ·refine iv<|wr<|tr<|?_;cases H;exact fX (h.se 1 [])
  refine gC<|aN dk<|cr<|?_;cases H;exact fX (h.se 1 [])
 refine cu (bN c6) [20,21]<|oG (bN c6) (vB false)<|G<|λ_ r=>jb r (b:=false) rfl<|qq r<|gC<|aN dk<|cr<|?_;cases H;exact fX (h.se 1 [])
def qu(O:aD)(Y:Int):Option ((List Int)):=
 if bM Y O.ai.length then(if(J O.ai Y.toNat).aP=3 then some ([(J O.ai Y.toNat).A])else(if(J O.ai Y.toNat).aP=9 then some ([]:List Int)else(if(J O.ai Y.toNat).aP=4 then some ([wi (Y+1),(J O.ai Y.toNat).B])else some ([wi (Y+1)]))))else none
abbrev CH:Array Value:=#[Z 0,Z 0,Z 0,Z 0,Z 0]
theorem B6(H:qu O Y=some r0)(h:iV z (L) w)(cE:cx L 5 cS bA O.ai) :
 Calls Tryz.prog 121 #[pe #[Z O.aS,Z O.cZ,Z O.bP,bO bA O.ai.length bX],Z Y] w λe w=>∃y1 y2,e=.returned (bO y1 r0.length y2)/\Fit z (aG (GI y1 y2 r0::L)) w:=by
 unfold qu at H;refine ke Tryz.func121 30 rfl λj=>ks<|kN h (#[Z O.aS,Z O.cZ,Z O.bP,bO bA O.ai.length bX]) 85 λb1 w h=>bS<|G<|aN [U]<|kL h 3<|qg H λc2 H=>bS<|kj 132 bX cE c2<|xG (gQ (J O.ai Y.toNat)) (cs:=gP (J O.ai Y.toNat)) ⟨cE.cell c2 (h.dn 1) 0 rfl,cE.cell c2 (h.dn 1) 1 rfl,cE.cell c2 (h.dn 1) 2 rfl,cE.cell c2 (h.dn 1) 3 rfl,cE.cell c2 (h.dn 1) 4 rfl,bU⟩<|?_;refine kN h (CH) 132 λb3 w h=>kA h (vA b3 (J O.ai Y.toNat)) λw h=>G<|wq<|aN [U]<|kL h 0<|G<|wb<|aN [vB ((J O.ai Y.toNat).aP==3),vB ((J O.ai Y.toNat).aP==3)]<|G<|dQ H (λc4 H=>?_) λc4 H=>?_
 ·refine aN [U]<|kL h 1<|kV h (#[Z (J O.ai Y.toNat).A]) 3 λb5 w h=>?_;replace h:=Fit.Cv (n:=1) (l:=[(J O.ai Y.toNat).A]) (by rfl) (by rfl) aL dO h;refine bS<|cr<|br<|tr<|λ_ r=>sX (bO (some ⟨b5,0,none⟩) 1 1) rfl r<|?_;have hn5:1=([(J O.ai Y.toNat).A]).length:=h.s6;replace h:=Fit.I2 hn5 (λq_=>rowOf 3 1 aO (bO (some ⟨b5,0,none⟩) q_ 1) ([(J O.ai Y.toNat).A])) h;cases H;exact⟨(some ⟨b5,0,none⟩),1,(by first | rfl | simp only[hn5]),h.se 3 [0]⟩
 refine aN [vB ((J O.ai Y.toNat).aP==9),vB ((J O.ai Y.toNat).aP==9)]<|G<|dQ H (λc7 H=>?_) λc7 H=>?_
 ·refine iv<|wr<|br<|tr<|λ_ r=>sX (bO none 0 0) rfl r<|?_;replace h:=h.kR (e:=3) (sz:=1) (enc:=aO);cases H;exact⟨none,0,rfl,h.se 3 [0]⟩
 refine aN [vB ((J O.ai Y.toNat).aP==4),vB ((J O.ai Y.toNat).aP==4)]<|G<|dQ H (λc8 H=>?_) λc8 H=>?_
 ·refine aN [U,Z (wi (Y+1)),U]<|kL h 2<|λ_ r=>YO (wn rfl) r h (λb=>bO (some ⟨b,0,none⟩) 2 2) (#[Z (wi (Y+1)),Z (J O.ai Y.toNat).B]) 3 λb9 w _ h r=>qq r<|?_;replace h:=Fit.Cv (n:=2) (l:=[wi (Y+1),(J O.ai Y.toNat).B]) (by rfl) (by rfl) aL dO h;refine bS<|cr<|br<|tr<|λ_ r=>sX (bO (some ⟨b9,0,none⟩) 2 2) rfl r<|?_;have hn9:2=([wi (Y+1),(J O.ai Y.toNat).B]).length:=h.s6;replace h:=Fit.I2 hn9 (λq_=>rowOf 3 1 aO (bO (some ⟨b9,0,none⟩) q_ 2) ([wi (Y+1),(J O.ai Y.toNat).B])) h;cases H;exact⟨(some ⟨b9,0,none⟩),2,(by first | rfl | simp only[hn9]),h.se 3 [0]⟩
 refine wk<|bn<|tn<|aN [U,Z (wi (Y+1))]<|kV h (#[Z (wi (Y+1))]) 3 λOu w h=>?_;replace h:=Fit.Cv (n:=1) (l:=[wi (Y+1)]) (by rfl) (by rfl) aL dO h;refine bS<|cr<|λ_ r=>sX (bO (some ⟨Ou,0,none⟩) 1 1) rfl r<|?_;have aby:1=([wi (Y+1)]).length:=h.s6;replace h:=Fit.I2 aby (λq_=>rowOf 3 1 aO (bO (some ⟨Ou,0,none⟩) q_ 1) ([wi (Y+1)])) h;cases H;exact⟨(some ⟨Ou,0,none⟩),1,(by first | rfl | simp only[aby]),h.se 3 [0]⟩
def gM(K:Nat)(tu:Int)(uy:List Int):Nat->(List Int)->(List Int)->(List Int)->Int->Option ((List Int)×(List Int)×(List Int))
 | 0,_,_,_,_=>none
 | k2+1,IL,P8,P9,sU=>(if sU<((uy.length:Nat):Int)then if bM sU uy.length then if bM (J uy sU.toNat) IL.length then(if(iq (J IL (J uy sU.toNat).toNat) tu)=0 then if(P8.length+1)*8<=140737488355328 then if(P9.length+1)*8<=140737488355328 then(gM K tu uy k2 (IL.set (J uy sU.toNat).toNat (wi ((J IL (J uy sU.toNat).toNat)+tu))) (P8++[(J uy sU.toNat)]) (P9++[tu]) (wi (sU+1)))else none else none else(gM K tu uy k2 IL P8 P9 (wi (sU+1))))else none else none else some (IL,P8,P9))
def iC(K:Nat)(O:aD)(Y:Int):Nat->(List Int)->(List Int)->(List Int)->Int->Option ((List Int))
 | 0,_,_,_,_=>none
 | k1+1,l9,HV,HW,zF=>(if zF<((HV.length:Nat):Int)then ql (if bM zF HV.length then if bM (J HV zF.toNat) O.ai.length then if bM zF HW.length then eA (qt (J O.ai (J HV zF.toNat).toNat) Y (J HW zF.toNat)) (λtu=>eA (qu O (J HV zF.toNat)) (λuy=>(gM K tu uy K l9 HV HW 0)))else none else none else none) (λXX Y4 Qa=>(iC K O Y k1 XX Y4 Qa (wi (zF+1))))else some l9)
def mM(K:Nat)(O:aD)(Y:Int):Option ((List Int)):=
 if 0<=((O.ai.length:Nat):Int)/\((O.ai.length:Nat):Int)*8<=140737488355328 then if bM (0:Int) (List.replicate O.ai.length (0:Int)).length then(iC K O Y K ((List.replicate O.ai.length (0:Int)).set 0 1) ([0]) ([1]) 0)else none else none
theorem ym(H:mM K O Y=some r0)(h:iV z (L) w)(cE:cx L 5 cS bA O.ai) :
 Calls Tryz.prog 86 #[pe #[Z O.aS,Z O.cZ,Z O.bP,bO bA O.ai.length bX],Z Y] w λe w=>∃y1 y2,e=.returned (bO y1 r0.length y2)/\Fit z (aG (GI y1 y2 r0::L)) w:=by
 unfold mM at H;refine ke Tryz.func86 91 rfl λj=>ks<|kN h (#[Z O.aS,Z O.cZ,Z O.bP,bO bA O.ai.length bX]) 85 λb1 w h=>bS<|G<|aN [U]<|kL h 3<|qg H λc2 H=>ko [Z ((O.ai.length:Nat):Int)]<|λ_ r=>uL (i:=((O.ai.length:Nat):Int)) (bytes:=8) (zc:=#[Z 0]) (0:Int) (wn rfl) rfl rfl r rfl aY aY c2 aL (E:=3) aY aY rfl rfl h λlH w _ h r=>qq r<|bS<|G<|ks<|kV h (#[Z 0]) 3 λb4 w h=>?_;replace h:=Fit.Cv (n:=1) (l:=[0]) (by rfl) (by rfl) aL dO h;refine bS<|G<|ks<|kV h (#[Z 1]) 3 λb5 w h=>?_;replace h:=Fit.Cv (n:=1) (l:=[1]) (by rfl) (by rfl) aL dO h;refine bS<|G<|ks<|qg H λc6 H=>bS<|kp (pA (dR lH) (0*1)) (Ah (i:=(0:Int)) (k:=.i64) (E:=3) rfl aY aY aY aY (h.pick 2) c6)<|qh h.m2 λh=>λ_ r=>Kt (wn rfl) r aL h 0 0 (Z 1) (J (List.replicate O.ai.length (0:Int)) 0) 1 (bp c6) λw h=>qq r<|G<|wq<|iv<|wb<|?_;have abz:(List.replicate O.ai.length (0:Int)).length=((List.replicate O.ai.length (0:Int)).set 0 1).length:=h.s6;replace h:=Fit.I2 abz (λq_=>rowOf 3 1 aO (bO lH q_ O.ai.length) ((List.replicate O.ai.length (0:Int)).set 0 1)) h;intro _ r;replace r:=r.re 5 (nu (λq_=>Value.slice lH q_ O.ai.length) abz);refine qh h.m2 λh=>?_;have abA:1=([0]).length:=h.s6;replace h:=Fit.I2 abA (λq_=>rowOf 3 1 aO (bO (some ⟨b4,0,none⟩) q_ 1) ([0])) h;replace r:=r.re 6 (nu (λq_=>Value.slice (some ⟨b4,0,none⟩) q_ 1) abA);refine qh h.m2 λh=>?_;have abB:1=([1]).length:=h.s6;replace h:=Fit.I2 abB (λq_=>rowOf 3 1 aO (bO (some ⟨b5,0,none⟩) q_ 1) ([1])) h;replace r:=r.re 7 (nu (λq_=>Value.slice (some ⟨b5,0,none⟩) q_ 1) abB);refine eD (β:=Nat) id (λm a w=>∃lJ:gF,∃mj:Nat,∃I8:gF,∃Rn:Nat,∃tB:gF,∃ug:Nat,∃l9:List Int,∃HV:List Int,∃HW:List Int,∃zF:Int,(iC K O Y m l9 HV HW zF)=some r0/\∃j,mF 91 (lk [(1,Z Y),(2,pA b1 0),(5,bO lJ l9.length mj),(6,bO I8 HV.length Rn),(7,bO tB HW.length ug),(8,Z zF)] j) a/\Fit z (aG (sn b1 O bA bX::GI lJ mj l9::GI I8 Rn HV::GI tB ug HW::L)) w) K ⟨lH,O.ai.length,(some ⟨b4,0,none⟩),1,(some ⟨b5,0,none⟩),1,((List.replicate O.ai.length (0:Int)).set 0 1),[0],[1],0,H,r.fj (h.se 4 [3,2,1,0])⟩<|?_;clear h r H;rintro k1 a w ⟨lJ,mj,I8,Rn,tB,ug,l9,HV,HW,zF,H,j,r,h⟩;cases k1 with
 | zero=>exact absurd H (by simp[iC])
 | succ k1 =>
  rw[iC]at H;refine qq r<|wq<|aN [U,U,Z ((HV.length:Nat):Int),dm (zF<((HV.length:Nat):Int))]<|G<|dQ H (λmV H=>?_) λmV H=>?_
  ·refine gC<|qd3 H λo29 H Y5=>λ_ r=>dz (β:=Unit) (λ_ a w=>∃MN:gF,∃MO:Nat,∃zG:gF,∃CK:Nat,∃XX:List Int,∃Y4:List Int,∃Qa:List Int,(XX,Y4,Qa)=o29/\∃j,mF 91 (lk [(1,Z Y),(2,pA b1 0),(5,bO lJ l9.length mj),(6,bO MN Y4.length MO),(7,bO zG Qa.length CK),(8,Z zF)] j) a/\Fit z (aG (sn b1 O bA bX::rowOf 3 1 aO (bO lJ l9.length mj) XX::GI MN MO Y4::GI zG CK Qa::L)) w) ?_ ?_
   ·refine qq r<|wb<|wq<|qg H λuU H=>qg H λzH H=>nc [(b1,3,[bO bA O.ai.length bX]),(dR I8,zF.toNat*1,[Z (J HV zF.toNat)]),(dR bA,kz bA+(J HV zF.toNat).toNat*5,gP (J O.ai (J HV zF.toNat).toNat))] [0,4,6] 10 h (λh=>⟨⟨h.cell 3 rfl,bU⟩,⟨(h.pick 2).cU aL (f:=0) (bp uU) rfl,bU⟩,⟨cE.cell zH (h.dn 4) 0 rfl,cE.cell zH (h.dn 4) 1 rfl,cE.cell zH (h.dn 4) 2 rfl,cE.cell zH (h.dn 4) 3 rfl,cE.cell zH (h.dn 4) 4 rfl,bU⟩,bU⟩) λw h hd =>nB hd 7 [(0,27,pA b1 3),(2,29,bO I8 HV.length Rn),(3,30,Z zF)]<|nZ hd 6 4 rfl (nI I8 zF 1) (λw=>xS 3 rfl (h.pick 2) uU)<|eR hd 0 5 1 rfl<|eR hd 1 4 5 rfl<|nZ hd 3 6 rfl (pA (dR bA) (kz bA+(J HV zF.toNat).toNat*5)) (λw=>HU 132 bX rfl rfl cE zH)<|xF hd 2 2 7 rfl rfl<|mh 8 rfl<|kN h (CH) 132 λb32 w h=>G<|λ_ r=>xE<|lQ 9 rfl<|qq r<|kA h (vA b32 (J O.ai (J HV zF.toNat).toNat)) λw h=>G<|mK<|nk<|tn<|wq<|qg H λB3 H=>gg H λtu KI H=>nc [(b32,0,gP (J O.ai (J HV zF.toNat).toNat)),(dR tB,zF.toNat*1,[Z (J HW zF.toNat)])] [4] 8 h (λh=>⟨(h.held 0 rfl),⟨(h.pick 4).cU aL (f:=0) (bp B3) rfl,bU⟩,bU⟩) λw h hd =>nB hd 5 [(1,36,Z Y),(2,37,bO tB HW.length ug),(3,38,Z zF)]<|nZ hd 4 4 rfl (nI tB zF 1) (λw=>xS 3 rfl (h.pick 4) B3)<|xF hd 0 3 0 rfl rfl<|eR hd 1 2 5 rfl<|mh 6 rfl<|fe (B5 KI h :) λw h=>G<|mK<|iK 0 7 rfl (Z tu)<|nk<|tn<|wq<|gg H λuy Ov H=>nc [(b1,0,[Z O.aS,Z O.cZ,Z O.bP,bO bA O.ai.length bX]),(dR I8,zF.toNat*1,[Z (J HV zF.toNat)])] [3] 7 h (λh=>⟨((h.pick 1).held 0 rfl),⟨(h.pick 3).cU aL (f:=0) (bp uU) rfl,bU⟩,bU⟩) λw h hd =>nB hd 5 [(1,43,bO I8 HV.length Rn),(2,44,Z zF)]<|nZ hd 4 3 rfl (nI I8 zF 1) (λw=>xS 3 rfl (h.pick 3) uU)<|xF hd 0 3 0 rfl rfl<|eR hd 1 2 4 rfl<|mh 5 rfl<|Vy (B6 (bA:=bA) (bX:=bX) (cE:=(cx.up 5 cE)) Ov h :) λIM Gf w h=>G<|mK<|iK 0 6 rfl (bO IM uy.length Gf)<|nk<|tn<|iv<|wb<|λ_ r=>eD (β:=Nat) id (λm a w=>∃TI:gF,∃TJ:Nat,∃B7:gF,∃B8:Nat,∃IL:List Int,∃P8:List Int,∃P9:List Int,∃sU:Int,(gM K tu uy m IL P8 P9 sU)=some o29/\∃j,mF 91 (lk [(1,Z Y),(2,pA b1 0),(5,bO lJ l9.length mj),(6,bO TI P8.length TJ),(7,bO B7 P9.length B8),(8,Z zF),(10,Z tu),(11,bO IM uy.length Gf),(12,Z sU)] j) a/\Fit z (aG (sn b1 O bA bX::rowOf 3 1 aO (bO lJ l9.length mj) IL::GI TI TJ P8::GI B7 B8 P9::GI IM Gf uy::L)) w) K ⟨I8,Rn,tB,ug,l9,HV,HW,0,H,r.fj (h.se 6 [2,3,4,5,0])⟩<|?_;clear h r H;rintro k2 a w ⟨TI,TJ,B7,B8,IL,P8,P9,sU,H,j,r,h⟩;cases k2 with
    | zero=>exact absurd H (by simp[gM])
    | succ k2 =>
     rw[gM]at H;refine qq r<|wq<|aN [U,U,Z ((uy.length:Nat):Int),dm (sU<((uy.length:Nat):Int))]<|G<|dQ H (λWl H=>?_) λWl H=>?_
     ·refine gC<|wq<|wb<|ks<|qg H λKb H=>ko lI<|ki (h.pick 4) Kb<|Aa (Z (J uy sU.toNat)) ((h.pick 4).cU aL (f:=0) (bp Kb) rfl)<|?_;refine qg H λWm H=>ki (h.pick 1) Wm<|Aa (Z (J IL (J uy sU.toNat).toNat)) ((h.pick 1).cU aL (f:=0) (bp Wm) rfl)<|?_;refine bS<|kp (Z (iq (J IL (J uy sU.toNat).toNat) tu)) (rand rfl aY aY)<|ko [vB ((iq (J IL (J uy sU.toNat).toNat) tu)==0)]<|G<|dQ H (λc51 H=>?_) λc51 H=>?_
      ·refine wq<|nc [(dR IM,sU.toNat*1,[Z (J uy sU.toNat)]),(dR IM,sU.toNat*1,[Z (J uy sU.toNat)]),(dR lJ,(J uy sU.toNat).toNat*1,[Z (J IL (J uy sU.toNat).toNat)])] [3,8,10,13] 16 h (λh=>⟨⟨(h.pick 4).cU aL (f:=0) (bp Kb) rfl,bU⟩,⟨(h.pick 4).cU aL (f:=0) (bp Kb) rfl,bU⟩,⟨(h.pick 1).cU aL (f:=0) (bp Wm) rfl,bU⟩,bU⟩) λw h hd =>nB hd 13 [(0,64,bO lJ l9.length mj),(1,65,bO IM uy.length Gf),(2,66,Z sU)]<|nZ hd 12 3 rfl (nI IM sU 1) (λw=>xS 3 rfl (h.pick 4) Kb)<|nB hd 9 [(5,69,bO lJ l9.length mj),(6,70,bO IM uy.length Gf),(7,71,Z sU)]<|nZ hd 8 8 rfl (nI IM sU 1) (λw=>xS 3 rfl (h.pick 4) Kb)<|nB hd 7 [(12,76,Z tu)]<|eR hd 0 6 4 rfl<|eR hd 1 5 9 rfl<|nZ hd 4 10 rfl (pA (dR lJ) ((J uy sU.toNat).toNat*1)) (λw=>xS 3 rfl (h.pick 1) Wm)<|eR hd 2 3 11 rfl<|nB hd 2 [(13,77,Z (wi ((J IL (J uy sU.toNat).toNat)+tu)))]<|nZ hd 1 14 rfl (pA (dR lJ) ((J uy sU.toNat).toNat*1)) (λw=>xS 3 rfl (h.pick 1) Wm)<|λ_ r=>lQ 15 rfl<|qh h.m1 λh=>Kt (wn rfl) r aL h (J uy sU.toNat).toNat 0 (Z (wi ((J IL (J uy sU.toNat).toNat)+tu))) (J IL (J uy sU.toNat).toNat) (wi ((J IL (J uy sU.toNat).toNat)+tu)) (bp Wm) λw h=>qq r<|G<|mK<|nk<|tn<|aN lI<|ki (h.pick 4) Kb<|Aa (Z (J uy sU.toNat)) ((h.pick 4).cU aL (f:=0) (bp Kb) rfl)<|?_;refine kV h (#[Z (J uy sU.toNat)]) 3 λb52 w h=>qh h.m3 λh=>qg H λc55 H=>λ_ r=>nY (n0:=P8.length) (c:=1) (bytes:=8) (wn rfl) rfl rfl r rfl aY aY aL (E:=3) (xs:=P8) aY aY h (news:=[(J uy sU.toNat)]) (m:=1) rfl ((h.pick 1).news rfl) c55 rfl λTK TL w _ h r=>qq r<|bS<|G<|wl<|ko dk<|kV h (#[Z tu]) 3 λb56 w h=>qh h.m5 λh=>qg H λY6 H=>λ_ r=>nY (n0:=P9.length) (c:=1) (bytes:=8) (wn rfl) rfl rfl r rfl aY aY aL (E:=3) (xs:=P9) aY aY h (news:=[tu]) (m:=1) rfl ((h.pick 1).news rfl) Y6 rfl λOw Ox w _ h r=>qq r<|bS<|kl<|bn<|tn<|wl<|ko [U,Z (wi (sU+1)),Z (wi (sU+1))]<|G<|?_;exact λ_ r=>⟨_,⟨TK,TL,Ow,Ox,(IL.set (J uy sU.toNat).toNat (wi ((J IL (J uy sU.toNat).toNat)+tu))),(P8++[(J uy sU.toNat)]),(P9++[tu]),(wi (sU+1)),H,r.fj (h.se 7 [5,4,2,0,6])⟩,jG _⟩
      refine wk<|bn<|tn<|wl<|ko [U,Z (wi (sU+1)),Z (wi (sU+1))]<|G<|?_;exact λ_ r=>⟨_,⟨TI,TJ,B7,B8,IL,P8,P9,(wi (sU+1)),H,r.fj h⟩,jG _⟩
     refine wx<|te<|te<|bh<|bn<|tn<|?_;exact λ_ r=>⟨(),TI,TJ,B7,B8,IL,P8,P9,gN H,r.fj (h.se 5 [0,1,2,3])⟩
   clear h r;rintro _ a w ⟨MN,MO,zG,CK,XX,Y4,Qa,rfl,j,r,h⟩;replace H:=kk3 Y5;refine qq r<|wl<|ko [U,Z (wi (zF+1)),Z (wi (zF+1))]<|G<|qh h.m1 λh=>?_;have abC:l9.length=XX.length:=h.s6;replace h:=Fit.I2 abC (λq_=>rowOf 3 1 aO (bO lJ q_ mj) XX) h;intro _ r;replace r:=r.re 5 (nu (λq_=>Value.slice lJ q_ mj) abC);exact⟨_,⟨lJ,mj,MN,MO,zG,CK,XX,Y4,Qa,(wi (zF+1)),H,r.fj (h.se 4 [1,0,2,3])⟩,jG _⟩
  refine wx<|te<|te<|bh<|tn<|aN dk<|cr<|?_;cases H;exact xy2 lJ mj (h.se 4 [1])
def lz(K:Nat)(O:aD):Nat->(List (List Int))->Int->Option ((List (List Int)))
 | 0,_,_=>none
 | k1+1,GJ,sV=>(if sV<(((List.replicate O.ai.length ([]:List Int)).length:Nat):Int)then if 0<=O.bP/\O.bP*8<=140737488355328 then if bM sV GJ.length then(lz K O k1 (GJ.set sV.toNat (List.replicate O.bP.toNat (0:Int))) (wi (sV+1)))else none else none else some GJ)
def lA(K:Nat)(O:aD)(mH:Int)(DJ:List Int):Nat->(List (List Int))->Int->Option ((List (List Int)))
 | 0,_,_=>none
 | k3+1,Gg,CM=>(if CM<(((List.replicate O.ai.length ([]:List Int)).length:Nat):Int)then if bM CM Gg.length then if bM CM DJ.length then if bM mH (J Gg CM.toNat).length then(lA K O mH DJ k3 (Gg.set CM.toNat ((J Gg CM.toNat).set mH.toNat (J DJ CM.toNat))) (wi (CM+1)))else none else none else none else some Gg)
def lB(K:Nat)(O:aD):Nat->(List (List Int))->Int->Option ((List (List Int)))
 | 0,_,_=>none
 | k2+1,zh,mH=>(if mH<O.bP then eA (eA (mM K O mH) (λDJ=>(lA K O mH DJ K zh 0))) (λl23=>(lB K O k2 l23 (wi (mH+1))))else some zh)
def rC(K:Nat)(O:aD):Option ((List (List Int))):=
 eA (sS K O) (λr2=>(if r2=true then if 0<=((O.ai.length:Nat):Int)/\((O.ai.length:Nat):Int)*24<=140737488355328 then eA ((lz K O K (List.replicate O.ai.length ([]:List Int)) 0)) (λl7=>(lB K O K l7 0))else none else some ([]:List (List Int))))
theorem CN(H:rC K O=some r0)(h:iV z (L) w)(cE:cx L 5 cS bA O.ai) :
 Calls Tryz.prog 53 #[pe #[Z O.aS,Z O.cZ,Z O.bP,bO bA O.ai.length bX]] w λe w=>∃y1 y2,e=.returned (bO y1 r0.length y2)/\Fit z (aG (KD y1 y2 r0::L)) w:=by
 unfold rC at H;refine ke Tryz.func53 55 rfl λj=>ks<|kN h (#[Z O.aS,Z O.cZ,Z O.bP,bO bA O.ai.length bX]) 85 λb1 w h=>bS<|G<|ks<|kM h<|gg H λr2 e3 H=>fe (B4 (bA:=bA) (bX:=bX) (cE:=(cx.up 1 cE)) e3 h :) λw h=>bS<|G<|wq<|aN [U,vB (!r2)]<|G<|IJ H (λc4 H=>?_) λc4 H=>?_
 ·refine gC<|aN [U]<|kL h 3<|qg H λc5 H=>ko [Z ((O.ai.length:Nat):Int)]<|λ_ r=>Ei (own:=jS) (i:=((O.ai.length:Nat):Int)) (bytes:=24) (zc:=#[bO none 0 0]) ([]:List Int) (wn rfl) rfl rfl r rfl aY aY c5 rfl (by simp[Value.oneCell']) dO (E:=28) aY aY rfl (λh=>iQ (x:=([]:List Int)) (uD:=none) (uE:=0) (h.kR)) h λGK w _ h r=>qq r<|bS<|G<|HM H λo9 H Wk=>λ_ r=>dz (β:=Unit) (λ_ a w=>∃l7:List (List Int),l7=o9/\∃j,mF 55 (lk [(1,pA b1 0),(4,bO GK (List.replicate O.ai.length ([]:List Int)).length O.ai.length)] j) a/\Fit z (aG (sn b1 O bA bX::vu 28 1 jS (bO GK (List.replicate O.ai.length ([]:List Int)).length O.ai.length) l7::L)) w) ?_ ?_
  ·refine qq r<|iv<|wb<|λ_ r=>eD (β:=Nat) id (λm a w=>∃GJ:List (List Int),∃sV:Int,(lz K O m GJ sV)=some o9/\∃j,mF 55 (lk [(1,pA b1 0),(4,bO GK (List.replicate O.ai.length ([]:List Int)).length O.ai.length),(5,Z sV)] j) a/\Fit z (aG (sn b1 O bA bX::vu 28 1 jS (bO GK (List.replicate O.ai.length ([]:List Int)).length O.ai.length) GJ::L)) w) K ⟨(List.replicate O.ai.length ([]:List Int)),0,H,r.fj (h.se 2 [1,0])⟩<|?_;clear h r H;rintro k1 a w ⟨GJ,sV,H,j,r,h⟩;cases k1 with
   | zero=>exact absurd H (by simp[lz])
   | succ k1 =>
    rw[lz]at H;refine qq r<|wq<|aN [U,U,Z (((List.replicate O.ai.length ([]:List Int)).length:Nat):Int),dm (sV<(((List.replicate O.ai.length ([]:List Int)).length:Nat):Int))]<|G<|dQ H (λDI H=>?_) λDI H=>?_
    ·refine gC<|wq<|wb<|wl<|ko lI<|kL h 2<|qg H λyl H=>λ_ r=>uL (i:=O.bP) (bytes:=8) (zc:=#[Z 0]) (0:Int) (wn rfl) rfl rfl r rfl aY aY yl aL (E:=3) aY aY rfl rfl h λadN w _ h r=>qq r<|qg H λpR H=>kp (nI GK sV 1) (GG (k:=.i64) (E:=28) rfl aY aY aY aY (h.pick 2) pR)<|?_;obtain⟨afs,h⟩:=h.m2.oS (bp pR);obtain⟨afu,afv,Cy,h⟩:=nU (h.m1);subst Cy;refine qh h.m1 λh=>λ_ r=>Dc (wn rfl) rfl r rfl aY aY (v:=bO adN (List.replicate O.bP.toNat (0:Int)).length O.bP.toNat) rfl rfl aY aY h (i:=sV.toNat) (f:=0) dO λw h=>qq r<|kl<|bn<|tn<|wl<|ko [U,Z (wi (sV+1)),Z (wi (sV+1))]<|G<|qh h.m2 λh=>?_;replace h:=iQ (x:=(List.replicate O.bP.toNat (0:Int))) h;replace h:=(h.m1).zy;exact λ_ r=>⟨_,⟨(GJ.set sV.toNat (List.replicate O.bP.toNat (0:Int))),(wi (sV+1)),H,r.fj (h.se 3 [2,0])⟩,jG _⟩
    refine wx<|te<|te<|bh<|tn<|?_;exact λ_ r=>⟨(),GJ,gN H,r.fj h⟩
  clear h r;rintro _ a w ⟨l7,rfl,j,r,h⟩;replace H:=Hw Wk;refine qq r<|wq<|iv<|wb<|λ_ r=>eD (β:=Nat) id (λm a w=>∃zh:List (List Int),∃mH:Int,(lB K O m zh mH)=some r0/\∃j,mF 55 (lk [(1,pA b1 0),(4,bO GK (List.replicate O.ai.length ([]:List Int)).length O.ai.length),(6,Z mH)] j) a/\Fit z (aG (sn b1 O bA bX::vu 28 1 jS (bO GK (List.replicate O.ai.length ([]:List Int)).length O.ai.length) zh::L)) w) K ⟨l7,0,H,r.fj h⟩<|?_;clear h r H;rintro k2 a w ⟨zh,mH,H,j,r,h⟩;cases k2 with
  | zero=>exact absurd H (by simp[lB])
  | succ k2 =>
   rw[lB]at H;refine qq r<|wq<|aN dk<|kL h 2<|ko [dm (mH<O.bP)]<|G<|dQ H (λFj H=>?_) λFj H=>?_
   ·refine gC<|HM H λo25 H adO=>λ_ r=>dz (β:=Unit) (λ_ a w=>∃l23:List (List Int),l23=o25/\∃j,mF 55 (lk [(1,pA b1 0),(4,bO GK (List.replicate O.ai.length ([]:List Int)).length O.ai.length),(6,Z mH)] j) a/\Fit z (aG (sn b1 O bA bX::vu 28 1 jS (bO GK (List.replicate O.ai.length ([]:List Int)).length O.ai.length) l23::L)) w) ?_ ?_
    ·refine qq r<|wb<|ks<|kM h<|gg H λDJ Ro H=>bS<|Vy (ym (bA:=bA) (bX:=bX) (cE:=(cx.up 2 cE)) Ro h :) λLM Et w h=>bS<|G<|iv<|wb<|λ_ r=>eD (β:=Nat) id (λm a w=>∃Gg:List (List Int),∃CM:Int,(lA K O mH DJ m Gg CM)=some o25/\∃j,mF 55 (lk [(1,pA b1 0),(4,bO GK (List.replicate O.ai.length ([]:List Int)).length O.ai.length),(6,Z mH),(7,bO LM DJ.length Et),(8,Z CM)] j) a/\Fit z (aG (sn b1 O bA bX::vu 28 1 jS (bO GK (List.replicate O.ai.length ([]:List Int)).length O.ai.length) Gg::GI LM Et DJ::L)) w) K ⟨zh,0,H,r.fj (h.se 3 [1,2,0])⟩<|?_;clear h r H;rintro k3 a w ⟨Gg,CM,H,j,r,h⟩;cases k3 with
     | zero=>exact absurd H (by simp[lA])
     | succ k3 =>
      rw[lA]at H;refine qq r<|wq<|aN [U,U,Z (((List.replicate O.ai.length ([]:List Int)).length:Nat):Int),dm (CM<(((List.replicate O.ai.length ([]:List Int)).length:Nat):Int))]<|G<|dQ H (λE3 H=>?_) λE3 H=>?_
      ·refine gC<|wq<|wb<|qg H λB3 H=>?_;obtain⟨afw,h⟩:=h.m1.oS (bp B3);obtain⟨KJ,MP,TH,h⟩:=nU (h.m1);subst TH;refine qg H λXY H=>qg H λLN H=>nc [(dR GK,CM.toNat*1,[bO KJ (J Gg CM.toNat).length MP]),(dR LM,CM.toNat*1,[Z (J DJ CM.toNat)])] [2,7] 11 h (λh=>⟨⟨(h.pick 1).rq dO (f:=0) rfl,bU⟩,⟨(h.pick 3).cU aL (f:=0) (bp XY) rfl,bU⟩,bU⟩) λw h hd =>nB hd 9 [(0,44,bO GK (List.replicate O.ai.length ([]:List Int)).length O.ai.length),(1,45,Z CM)]<|nZ hd 8 2 rfl (nI GK CM 1) (λw=>xn (k:=.i64) (E:=28) rfl aY aY aY aY (h.pick 1) B3)<|nB hd 5 [(4,48,Z mH),(5,49,bO LM DJ.length Et),(6,50,Z CM)]<|nZ hd 4 7 rfl (nI LM CM 1) (λw=>xS 3 rfl (h.pick 3) XY)<|eR hd 0 3 3 rfl<|eR hd 1 2 8 rfl<|nZ hd 1 9 rfl (nI KJ mH 1) (λw=>xS 3 rfl h LN)<|λ_ r=>lQ 10 rfl<|Kt (wn rfl) r aL h mH.toNat 0 (Z (J DJ CM.toNat)) (J (J Gg CM.toNat) mH.toNat) (J DJ CM.toNat) (bp LN) λw h=>qq r<|G<|mK<|nk<|bn<|tn<|wl<|ko [U,Z (wi (CM+1)),Z (wi (CM+1))]<|G<|?_;replace h:=h.Ku (λq_=>BS 28 1 jS (bO GK (List.replicate O.ai.length ([]:List Int)).length O.ai.length) Gg CM.toNat [bO KJ q_ MP]);replace h:=iQ (x:=((J Gg CM.toNat).set mH.toNat (J DJ CM.toNat))) h;replace h:=(h.m1).zy;exact λ_ r=>⟨_,⟨(Gg.set CM.toNat ((J Gg CM.toNat).set mH.toNat (J DJ CM.toNat))),(wi (CM+1)),H,r.fj (h.se 3 [1,0,2])⟩,jG _⟩
      refine wx<|te<|te<|bh<|bn<|tn<|?_;exact λ_ r=>⟨(),Gg,gN H,r.fj (h.se 3 [0,1])⟩
    clear h r;rintro _ a w ⟨l23,rfl,j,r,h⟩;replace H:=Hw adO;refine qq r<|wl<|ko [U,Z (wi (mH+1)),Z (wi (mH+1))]<|G<|?_;exact λ_ r=>⟨_,⟨l23,(wi (mH+1)),H,r.fj h⟩,jG _⟩
   refine wx<|te<|te<|bh<|tn<|aN dk<|cr<|λ_ r=>sX (bO GK (List.replicate O.ai.length ([]:List Int)).length O.ai.length) rfl r<|qh h.m1 λh=>?_;have TM:(List.replicate O.ai.length ([]:List Int)).length=zh.length:=h.Od;replace h:=Fit.I2 TM (λq_=>vu 28 1 jS (bO GK q_ O.ai.length) zh) h;cases H;exact⟨GK,O.ai.length,(by first | rfl | simp only[TM]),h.se 2 [0]⟩
 refine iv<|wr<|tr<|λ_ r=>sX (bO none 0 0) rfl r<|?_;replace h:=h.HA (e:=28) (sz:=1) (own:=jS);cases H;exact⟨none,0,rfl,h.se 2 [0]⟩
def gW(K:Nat)(Y:List Int):Nat->Int->Option (Int)
 | 0,_=>none
 | k1+1,g9=>(if g9<((Y.length:Nat):Int)then if bM g9 Y.length then(if(iq (J Y g9.toNat) (2:Int))=0 then(gW K Y k1 (wi (g9+1)))else some 56)else none else some 0)
def nv(K:Nat)(O:cG)(Y:List Int):Option (Int):=
 (if O.aP=5 then if bM O.A Y.length then(if(iq (J Y O.A.toNat) (2:Int))=0 then some 0 else some 54)else none else(if O.aP=7 then if bM O.B Y.length then(if(iq (J Y O.B.toNat) (3:Int))=0 then some 0 else some 55)else none else(if O.aP=9 then(gW K Y K 0)else some 0)))
theorem yM(H:nv K O Y=some r0)(h:iV z (L) w)(IP:cx L 1 aO HX Y) :
 nM 54 #[gQ O,bO HX Y.length Kc] w z (Z r0) (L):=by
 unfold nv at H;refine ke Tryz.func54 40 rfl λj=>ks<|kN h (mI O) 132 λb1 w h=>bS<|G<|wq<|aN [U]<|kL h 0<|G<|wb<|aN [vB (O.aP==5),vB (O.aP==5)]<|G<|dQ H (λc2 H=>?_) λc2 H=>?_
 ·refine aN dk<|kL h 1<|qg H λc3 H=>kj 3 Kc IP c3<|Aa (Z (J Y O.A.toNat)) (IP.cell c3 (h.dn 1) 0 rfl)<|?_;refine kp (Z (iq (J Y O.A.toNat) (2:Int))) (rand rfl aY aY)<|ko [vB ((iq (J Y O.A.toNat) (2:Int)) != 0)]<|G<|rU H (λc4 H=>?_) λc4 H=>?_
  ·refine wk<|bn<|tn<|iv<|wr<|?_;cases H;exact fX (h.se 1 [])
  refine iv<|wr<|br<|tr<|?_;cases H;exact fX (h.se 1 [])
 refine aN [vB (O.aP==7),vB (O.aP==7)]<|G<|dQ H (λc5 H=>?_) λc5 H=>?_
 ·refine aN dk<|kL h 2<|qg H λc6 H=>kj 3 Kc IP c6<|Aa (Z (J Y O.B.toNat)) (IP.cell c6 (h.dn 1) 0 rfl)<|?_;refine kp (Z (iq (J Y O.B.toNat) (3:Int))) (rand rfl aY aY)<|ko [vB ((iq (J Y O.B.toNat) (3:Int)) != 0)]<|G<|rU H (λc7 H=>?_) λc7 H=>?_
  ·refine wk<|bn<|tn<|iv<|wr<|?_;cases H;exact fX (h.se 1 [])
  refine iv<|wr<|br<|tr<|?_;cases H;exact fX (h.se 1 [])
 refine aN [vB (O.aP==9),vB (O.aP==9)]<|G<|dQ H (λc8 H=>?_) λc8 H=>?_
 ·refine iv<|wb<|λ_ r=>eD (β:=Nat) id (λm a w=>∃g9:Int,(gW K Y m g9)=some r0/\∃j,mF 40 (lk [(1,bO HX Y.length Kc),(5,Z g9)] j) a/\Fit z (aG (L)) w) K ⟨0,H,r.fj (h.se 1 [])⟩<|?_;clear h r H;rintro k1 a w ⟨g9,H,j,r,h⟩;cases k1 with
  | zero=>exact absurd H (by simp[gW])
  | succ k1 =>
   rw[gW]at H;refine qq r<|wq<|aN [U,U,Z ((Y.length:Nat):Int),dm (g9<((Y.length:Nat):Int))]<|G<|dQ H (λqR H=>?_) λqR H=>?_
   ·refine gC<|wq<|wb<|ks<|qg H λvw H=>ko dk<|kj 3 Kc IP vw<|Aa (Z (J Y g9.toNat)) (IP.cell vw (h.dn 0) 0 rfl)<|?_;refine kp (Z (iq (J Y g9.toNat) (2:Int))) (rand rfl aY aY)<|ko [vB ((iq (J Y g9.toNat) (2:Int)) != 0)]<|G<|rU H (λDI H=>?_) λDI H=>?_
    ·refine wk<|bn<|tn<|wl<|ko [U,Z (wi (g9+1)),Z (wi (g9+1))]<|G<|?_;exact λ_ r=>⟨_,⟨(wi (g9+1)),H,r.fj h⟩,jG _⟩
    refine iv<|wr<|br<|tr<|tr<|br<|br<|tr<|?_;cases H;exact fX h
   refine wx<|te<|te<|bh<|bn<|tn<|iv<|wr<|?_;cases H;exact fX h
 refine wk<|bn<|tn<|iv<|wr<|?_;cases H;exact fX (h.se 1 [])
def ji(K:Nat)(O:aH):Nat->Int->Option ((Unit)⊕(eM))
 | 0,_=>none
 | k1+1,g9=>(if g9<((O.ah.length:Nat):Int)then if bM g9 O.ah.length then eA (kI (J O.ah g9.toNat)) (λxV=>(if xV=true then(ji K O k1 (wi (g9+1)))else some (.inr (⟨51,g9,0⟩:eM))))else none else some (.inl ()))
def jk(K:Nat)(O:aH)(nr:Int):Nat->Int->Option ((Unit)⊕((Unit)⊕((Unit)⊕(eM))))
 | 0,_=>none
 | k3+1,Eu=>(if Eu<(((J O.ah nr.toNat).ai.length:Nat):Int)then if bM Eu (J O.ah nr.toNat).ai.length then eA (n5 (J O.ah nr.toNat) (J (J O.ah nr.toNat).ai Eu.toNat)) (λEw=>(if Ew=true then eA (po O (J O.ah nr.toNat) (J (J O.ah nr.toNat).ai Eu.toNat)) (λAp=>(if Ap=true then(jk K O nr k3 (wi (Eu+1)))else some (.inr (.inr (.inr (⟨52,nr,Eu⟩:eM))))))else some (.inr (.inr (.inr (⟨52,nr,Eu⟩:eM))))))else none else some (.inl ()))
def jl(K:Nat)(O:aH):Nat->Int->Option ((Unit)⊕(eM))
 | 0,_=>none
 | k2+1,nr=>(if nr<((O.ah.length:Nat):Int)then Ag (if bM nr O.ah.length then Ag ((jk K O nr K 0)) (eA (nC (J O.ah nr.toNat)) (λtu=>(if tu=true then some (.inl ())else some (.inr (.inr (⟨53,nr,wi ((((J O.ah nr.toNat).ai.length:Nat):Int)-1)⟩:eM))))))else none) ((jl K O k2 (wi (nr+1))))else some (.inl ()))
def jm(K:Nat)(O:aH)(oD:Int)(MQ:List (List Int)):Nat->Int->Option ((Unit)⊕(eM))
 | 0,_=>none
 | k5+1,sU=>(if sU<(((J O.ah oD.toNat).ai.length:Nat):Int)then if bM sU (J O.ah oD.toNat).ai.length then if bM sU MQ.length then eA (nv K (J (J O.ah oD.toNat).ai sU.toNat) (J MQ sU.toNat)) (λMR=>(if MR=0 then(jm K O oD MQ k5 (wi (sU+1)))else some (.inr (⟨MR,oD,sU⟩:eM))))else none else none else some (.inl ()))
def kJ(K:Nat)(O:aH):Nat->Int->Option (eM)
 | 0,_=>none
 | k4+1,oD=>(if oD<((O.ah.length:Nat):Int)then Ag (if bM oD O.ah.length then eA (rC K (J O.ah oD.toNat)) (λMQ=>(jm K O oD MQ K 0))else none) ((kJ K O k4 (wi (oD+1))))else some (⟨0,0,0⟩:eM))
def jU(K:Nat)(O:aH):Option (eM):=
 Ag ((if((O.ah.length:Nat):Int)<1 then some (.inr (⟨50,0,0⟩:eM))else(if((O.ah.length:Nat):Int)>32 then some (.inr (⟨50,0,0⟩:eM))else some (.inl ())))) (Ag ((ji K O K 0)) (Ag ((jl K O K 0)) ((kJ K O K 0))))
abbrev Ba:List Value:=[U,U,U,U]
theorem wz(H:jU K O=some r0)(h:iV z (L) w)(aR:Bk L aZ aI O.ah) :
 nM 35 #[pe #[bO aZ O.ah.length bH]] w z (BV r0) (L):=by
 unfold jU at H;refine ke Tryz.func35 131 rfl λj=>ks<|kN h (#[bO aZ O.ah.length bH]) 24 λb1 w h=>kN h (#[Z 0,Z 0,Z 0]) 81 λb2 w h=>G<|?_;obtain⟨o4,H,Oy⟩:=F8 H;refine λ_ r=>dz (β:=Unit) (λ_ a w=>.inl ()=o4/\∃j,mF 131 (lk [(1,pA b1 0),(2,pA b2 0)] j) a/\Fit z (aG (gS b1 #[bO aZ O.ah.length bH] 24::gS b2 #[Z 0,Z 0,Z 0] 81::L)) w) ?_ ?_
 ·refine qq r<|aN [U]<|kL (h.pick 1) 0<|ko [Z ((O.ah.length:Nat):Int),dm (((O.ah.length:Nat):Int)<1),dm (((O.ah.length:Nat):Int)<1)]<|qI H (λc5 H=>?_) λc5 H=>?_
  ·refine cu (dT c5) [19,20,21,22]<|oM (dT c5) (vB true)<|G<|λ_ r=>hJ r (b:=true) rfl<|qq r<|aN [U]<|kA h (gS b2 #[Z 50,Z 0,Z 0] 81) λw h=>cr<|tr<|kC h<|?_;replace H:=xm H Oy;cases H;exact⟨rfl,h.se 2 []⟩
  refine cW (dF c5) [19] [pA b1 0]<|vL (dF c5) (h.pick 1) 0<|cW (dF c5) [21,22] [Z ((O.ah.length:Nat):Int),dm (((O.ah.length:Nat):Int)>32)]<|oG (dF c5) (dm (((O.ah.length:Nat):Int)>32))<|G<|dQ H (λc6 H=>?_) λc6 H=>?_
  ·refine aN [U]<|kA h (gS b2 #[Z 50,Z 0,Z 0] 81) λw h=>cr<|tr<|kC h<|?_;replace H:=xm H Oy;cases H;exact⟨rfl,h.se 2 []⟩
  refine gC<|?_;exact λ_ r=>⟨(),gN H,r.fj (h.se 2 [1,0])⟩
 clear h r;rintro _ a w ⟨rfl,j,r,h⟩;replace H:=F9 Oy;obtain⟨o8,H,MS⟩:=F8 H;refine dz (β:=Unit) (λ_ a w=>.inl ()=o8/\∃j,mF 131 (lk [(1,pA b1 0),(2,pA b2 0)] j) a/\Fit z (aG (gS b1 #[bO aZ O.ah.length bH] 24::gS b2 #[Z 0,Z 0,Z 0] 81::L)) w) ?_ ?_
 ·refine qq r<|iv<|wb<|λ_ r=>eD (β:=Nat) id (λm a w=>∃g9:Int,(ji K O m g9)=some o8/\∃j,mF 131 (lk [(1,pA b1 0),(2,pA b2 0),(3,Z g9)] j) a/\Fit z (aG (gS b1 #[bO aZ O.ah.length bH] 24::gS b2 #[Z 0,Z 0,Z 0] 81::L)) w) K ⟨0,H,r.fj h⟩<|?_;clear h r H;rintro k1 a w ⟨g9,H,j,r,h⟩;cases k1 with
  | zero=>exact absurd H (by simp[ji])
  | succ k1 =>
   rw[ji]at H;refine qq r<|wq<|aN dk<|kL h 0<|ko [Z ((O.ah.length:Nat):Int),dm (g9<((O.ah.length:Nat):Int))]<|G<|dQ H (λqR H=>?_) λqR H=>?_
   ·refine gC<|wq<|wb<|aN [U]<|kL h 0<|qg H λvw H=>bS<|kp (pA (dR aZ) (kz aZ+g9.toNat*4)) (DG 85 bH rfl rfl aR vw)<|xG (pe #[Z (J O.ah g9.toNat).aS,Z (J O.ah g9.toNat).cZ,Z (J O.ah g9.toNat).bP,bO ((aI g9.toNat).1) (J O.ah g9.toNat).ai.length ((aI g9.toNat).2)]) (cs:=[Z (J O.ah g9.toNat).aS,Z (J O.ah g9.toNat).cZ,Z (J O.ah g9.toNat).bP,bO ((aI g9.toNat).1) (J O.ah g9.toNat).ai.length ((aI g9.toNat).2)]) ⟨aR.cell vw (h.dn 2) 0 rfl,aR.cell vw (h.dn 2) 1 rfl,aR.cell vw (h.dn 2) 2 rfl,aR.cell vw (h.dn 2) 3 rfl,bU⟩<|?_;refine gg H λxV Y7 H=>fe (vC (bA:=((aI g9.toNat).1)) (bX:=((aI g9.toNat).2)) (cE:=(cx.up 2 (aR.wm vw))) Y7 h :) λw h=>bS<|G<|aN [U,vB (!xV)]<|G<|IJ H (λAZ H=>?_) λAZ H=>?_
    ·refine wk<|bn<|tn<|wl<|ko [U,Z (wi (g9+1)),Z (wi (g9+1))]<|G<|?_;exact λ_ r=>⟨_,⟨(wi (g9+1)),H,r.fj h⟩,jG _⟩
    refine aN dk<|qh h.m1 λh=>kA h (gS b2 #[Z 51,Z g9,Z 0] 81) λw h=>cr<|br<|tr<|tr<|br<|tr<|kC h<|?_;replace H:=xm H MS;cases H;exact⟨rfl,h.se 2 []⟩
   refine wx<|te<|te<|bh<|tn<|?_;exact λ_ r=>⟨(),gN H,r.fj h⟩
 clear h r;rintro _ a w ⟨rfl,j,r,h⟩;replace H:=F9 MS;obtain⟨o16,H,Wn⟩:=F8 H;refine dz (β:=Unit) (λ_ a w=>.inl ()=o16/\∃j,mF 131 (lk [(1,pA b1 0),(2,pA b2 0)] j) a/\Fit z (aG (gS b1 #[bO aZ O.ah.length bH] 24::gS b2 #[Z 0,Z 0,Z 0] 81::L)) w) ?_ ?_
 ·refine qq r<|iv<|wb<|λ_ r=>eD (β:=Nat) id (λm a w=>∃nr:Int,(jl K O m nr)=some o16/\∃j,mF 131 (lk [(1,pA b1 0),(2,pA b2 0),(5,Z nr)] j) a/\Fit z (aG (gS b1 #[bO aZ O.ah.length bH] 24::gS b2 #[Z 0,Z 0,Z 0] 81::L)) w) K ⟨0,H,r.fj h⟩<|?_;clear h r H;rintro k2 a w ⟨nr,H,j,r,h⟩;cases k2 with
  | zero=>exact absurd H (by simp[jl])
  | succ k2 =>
   rw[jl]at H;refine qq r<|wq<|aN dk<|kL h 0<|ko [Z ((O.ah.length:Nat):Int),dm (nr<((O.ah.length:Nat):Int))]<|G<|dQ H (λEx H=>?_) λEx H=>?_
   ·refine gC<|?_;obtain⟨o20,H,Wo⟩:=F8 H;refine λ_ r=>dz (β:=Unit) (λ_ a w=>.inl ()=o20/\∃j,mF 131 (lk [(1,pA b1 0),(2,pA b2 0),(5,Z nr)] j) a/\Fit z (aG (gS b1 #[bO aZ O.ah.length bH] 24::gS b2 #[Z 0,Z 0,Z 0] 81::L)) w) ?_ ?_
    ·refine qq r<|wb<|aN [U]<|kL h 0<|qg H λsq H=>bS<|kp (pA (dR aZ) (kz aZ+nr.toNat*4)) (DG 85 bH rfl rfl aR sq)<|xG (pe #[Z (J O.ah nr.toNat).aS,Z (J O.ah nr.toNat).cZ,Z (J O.ah nr.toNat).bP,bO ((aI nr.toNat).1) (J O.ah nr.toNat).ai.length ((aI nr.toNat).2)]) (cs:=[Z (J O.ah nr.toNat).aS,Z (J O.ah nr.toNat).cZ,Z (J O.ah nr.toNat).bP,bO ((aI nr.toNat).1) (J O.ah nr.toNat).ai.length ((aI nr.toNat).2)]) ⟨aR.cell sq (h.dn 2) 0 rfl,aR.cell sq (h.dn 2) 1 rfl,aR.cell sq (h.dn 2) 2 rfl,aR.cell sq (h.dn 2) 3 rfl,bU⟩<|?_;refine kN h (#[Z 0,Z 0,Z 0,bO none 0 0]) 85 λyN w h=>kA h (sn yN (J O.ah nr.toNat) ((aI nr.toNat).1) ((aI nr.toNat).2)) λw h=>G<|?_;obtain⟨o24,H,Oz⟩:=F8 H;refine λ_ r=>dz (β:=Unit) (λ_ a w=>.inl ()=o24/\∃j,mF 131 (lk [(1,pA b1 0),(2,pA b2 0),(5,Z nr),(6,pA yN 0)] j) a/\Fit z (aG (gS b1 #[bO aZ O.ah.length bH] 24::gS b2 #[Z 0,Z 0,Z 0] 81::sn yN (J O.ah nr.toNat) ((aI nr.toNat).1) ((aI nr.toNat).2)::L)) w) ?_ ?_
     ·refine qq r<|iv<|wb<|λ_ r=>eD (β:=Nat) id (λm a w=>∃Eu:Int,(jk K O nr m Eu)=some o24/\∃j,mF 131 (lk [(1,pA b1 0),(2,pA b2 0),(5,Z nr),(6,pA yN 0),(7,Z Eu)] j) a/\Fit z (aG (gS b1 #[bO aZ O.ah.length bH] 24::gS b2 #[Z 0,Z 0,Z 0] 81::sn yN (J O.ah nr.toNat) ((aI nr.toNat).1) ((aI nr.toNat).2)::L)) w) K ⟨0,H,r.fj (h.se 3 [1,2,0])⟩<|?_;clear h r H;rintro k3 a w ⟨Eu,H,j,r,h⟩;cases k3 with
      | zero=>exact absurd H (by simp[jk])
      | succ k3 =>
       rw[jk]at H;refine qq r<|wq<|aN dk<|kL (h.pick 2) 3<|ko [Z (((J O.ah nr.toNat).ai.length:Nat):Int),dm (Eu<(((J O.ah nr.toNat).ai.length:Nat):Int))]<|G<|dQ H (λDi H=>?_) λDi H=>?_
       ·refine gC<|wq<|wb<|wq<|qg H λsL H=>gg H λEw VA H=>qI H (λuU H=>?_) λuU H=>?_
        ·refine gg H λAp OA H=>nc [(yN,0,[Z (J O.ah nr.toNat).aS,Z (J O.ah nr.toNat).cZ,Z (J O.ah nr.toNat).bP,bO ((aI nr.toNat).1) (J O.ah nr.toNat).ai.length ((aI nr.toNat).2)]),(yN,3,[bO ((aI nr.toNat).1) (J O.ah nr.toNat).ai.length ((aI nr.toNat).2)]),(dR ((aI nr.toNat).1),kz ((aI nr.toNat).1)+Eu.toNat*5,gP (J (J O.ah nr.toNat).ai Eu.toNat)),(b1,0,[bO aZ O.ah.length bH]),(yN,0,[Z (J O.ah nr.toNat).aS,Z (J O.ah nr.toNat).cZ,Z (J O.ah nr.toNat).bP,bO ((aI nr.toNat).1) (J O.ah nr.toNat).ai.length ((aI nr.toNat).2)]),(yN,3,[bO ((aI nr.toNat).1) (J O.ah nr.toNat).ai.length ((aI nr.toNat).2)]),(dR ((aI nr.toNat).1),kz ((aI nr.toNat).1)+Eu.toNat*5,gP (J (J O.ah nr.toNat).ai Eu.toNat))] [1,4,6,7,11,14] 19 h (λh=>⟨((h.pick 2).held 0 rfl),⟨(h.pick 2).cell 3 rfl,bU⟩,⟨(aR.wm sq).cell sL (h.dn 3) 0 rfl,(aR.wm sq).cell sL (h.dn 3) 1 rfl,(aR.wm sq).cell sL (h.dn 3) 2 rfl,(aR.wm sq).cell sL (h.dn 3) 3 rfl,(aR.wm sq).cell sL (h.dn 3) 4 rfl,bU⟩,⟨h.cell 0 rfl,bU⟩,((h.pick 2).held 0 rfl),⟨(h.pick 2).cell 3 rfl,bU⟩,⟨(aR.wm sq).cell sL (h.dn 3) 0 rfl,(aR.wm sq).cell sL (h.dn 3) 1 rfl,(aR.wm sq).cell sL (h.dn 3) 2 rfl,(aR.wm sq).cell sL (h.dn 3) 3 rfl,(aR.wm sq).cell sL (h.dn 3) 4 rfl,bU⟩,bU⟩) λw h hd =>nB hd 17 [(1,62,pA yN 3),(3,64,Z Eu)]<|xF hd 0 16 0 rfl rfl<|eR hd 1 15 2 rfl<|nZ hd 14 4 rfl (pA (dR ((aI nr.toNat).1)) (kz ((aI nr.toNat).1)+Eu.toNat*5)) (λw=>HU 132 ((aI nr.toNat).2) rfl rfl (aR.wm sq) sL)<|xF hd 2 13 5 rfl rfl<|mh 6 rfl<|fe (ta (bA:=((aI nr.toNat).1)) (bX:=((aI nr.toNat).2)) (cE:=(cx.up 3 (aR.wm sq))) VA h :) λw h=>G<|vN ⟨((h.pick 2).held 0 rfl),⟨(h.pick 2).cell 3 rfl,bU⟩,⟨(aR.wm sq).cell sL (h.dn 3) 0 rfl,(aR.wm sq).cell sL (h.dn 3) 1 rfl,(aR.wm sq).cell sL (h.dn 3) 2 rfl,(aR.wm sq).cell sL (h.dn 3) 3 rfl,(aR.wm sq).cell sL (h.dn 3) 4 rfl,bU⟩,⟨h.cell 0 rfl,bU⟩,((h.pick 2).held 0 rfl),⟨(h.pick 2).cell 3 rfl,bU⟩,⟨(aR.wm sq).cell sL (h.dn 3) 0 rfl,(aR.wm sq).cell sL (h.dn 3) 1 rfl,(aR.wm sq).cell sL (h.dn 3) 2 rfl,(aR.wm sq).cell sL (h.dn 3) 3 rfl,(aR.wm sq).cell sL (h.dn 3) 4 rfl,bU⟩,bU⟩ λhd =>mD hd 10 61 [([7,8],vB (!Ew))]<|λ_ r=>Rh hd 9 11 rfl (sY r (nT uU)) r (pA yN 3)<|?_;refine λ_ r=>Rh hd 8 13 rfl (sY r (nT uU)) r (Z Eu)<|?_;refine λ_ r=>elm hd 3 7 9 r (sY r (nT uU)) rfl rfl<|?_;refine λ_ r=>elm hd 4 6 10 r (sY r (nT uU)) rfl rfl<|?_;refine λ_ r=>elx hd 5 5 12 r (sY r (nT uU)) rfl rfl<|?_;refine λ_ r=>Rh hd 4 14 rfl (sY r (nT uU)) r (pA (dR ((aI nr.toNat).1)) (kz ((aI nr.toNat).1)+Eu.toNat*5)) (hrun:=λw=>HU 132 ((aI nr.toNat).2) rfl rfl (aR.wm sq) sL)<|?_;refine λ_ r=>elm hd 6 3 15 r (sY r (nT uU)) rfl rfl<|?_
         refine mh 16 rfl<|YX (nT uU) (Bm (aZ:=aZ) (bH:=bH) (aR:=(Aj.up 3 aR)) (cX:=((aI nr.toNat).1)) (de:=((aI nr.toNat).2)) (eT:=(cx.up 3 (aR.wm sq))) (aI:=aI) OA h :) λw h=>G<|λ_ r=>xE<|evs 1 17 rfl (sY r (nT uU)) r (vB (!Ap))<|?_;refine λ_ r=>evs 0 18 rfl (wn rfl) r (vB (!Ap)) (hrun:=λw=>IZ (b:=(!Ew)) rfl aY (nT uU) aY)<|?_;refine nk<|tn<|IJ H (λB3 H=>?_) λB3 H=>?_
         ·refine wk<|bn<|tn<|wl<|ko [U,Z (wi (Eu+1)),Z (wi (Eu+1))]<|G<|?_;exact λ_ r=>⟨_,⟨(wi (Eu+1)),H,r.fj h⟩,jG _⟩
         refine aN lI<|qh h.m1 λh=>kA h (gS b2 #[Z 52,Z nr,Z Eu] 81) λw h=>cr<|br<|tr<|tr<|br<|tr<|br<|tr<|tr<|br<|tr<|kC h<|?_;replace H:=xm H Oz;replace H:=xm H Wo;replace H:=xm H Wn;cases H;exact⟨rfl,h.se 3 []⟩
        refine nc [(yN,0,[Z (J O.ah nr.toNat).aS,Z (J O.ah nr.toNat).cZ,Z (J O.ah nr.toNat).bP,bO ((aI nr.toNat).1) (J O.ah nr.toNat).ai.length ((aI nr.toNat).2)]),(yN,3,[bO ((aI nr.toNat).1) (J O.ah nr.toNat).ai.length ((aI nr.toNat).2)]),(dR ((aI nr.toNat).1),kz ((aI nr.toNat).1)+Eu.toNat*5,gP (J (J O.ah nr.toNat).ai Eu.toNat))] [1,4] 19 h (λh=>⟨((h.pick 2).held 0 rfl),⟨(h.pick 2).cell 3 rfl,bU⟩,⟨(aR.wm sq).cell sL (h.dn 3) 0 rfl,(aR.wm sq).cell sL (h.dn 3) 1 rfl,(aR.wm sq).cell sL (h.dn 3) 2 rfl,(aR.wm sq).cell sL (h.dn 3) 3 rfl,(aR.wm sq).cell sL (h.dn 3) 4 rfl,bU⟩,bU⟩) λw h hd =>nB hd 17 [(1,62,pA yN 3),(3,64,Z Eu)]<|xF hd 0 16 0 rfl rfl<|eR hd 1 15 2 rfl<|nZ hd 14 4 rfl (pA (dR ((aI nr.toNat).1)) (kz ((aI nr.toNat).1)+Eu.toNat*5)) (λw=>HU 132 ((aI nr.toNat).2) rfl rfl (aR.wm sq) sL)<|xF hd 2 13 5 rfl rfl<|mh 6 rfl<|fe (ta (bA:=((aI nr.toNat).1)) (bX:=((aI nr.toNat).2)) (cE:=(cx.up 3 (aR.wm sq))) VA h :) λw h=>G<|mK<|iK 11 7 rfl (vB (!Ew))<|iK 10 8 rfl (vB (!Ew))<|λ_ r=>XP 9 11 rfl (sY r (nF uU)) r<|?_;refine λ_ r=>XP 8 13 rfl (sY r (nF uU)) r<|?_;refine λ_ r=>XP 7 9 rfl (sY r (nF uU)) r<|?_;refine λ_ r=>XP 6 10 rfl (sY r (nF uU)) r<|?_;refine λ_ r=>XP 5 12 rfl (sY r (nF uU)) r<|?_;refine λ_ r=>XP 4 14 rfl (sY r (nF uU)) r<|?_;refine λ_ r=>XP 3 15 rfl (sY r (nF uU)) r<|?_;refine λ_ r=>lQ 16 rfl<|adz (sY r (nF uU)) r<|?_;refine G<|λ_ r=>xE<|XP 1 17 rfl (sY r (nF uU)) r<|?_;refine λ_ r=>evs 0 18 rfl (wn rfl) r (vB true) (hrun:=λw=>IY (b:=(!Ew)) rfl aY (nF uU) aY)<|?_;refine nk<|tn<|λ_ r=>hJ r (b:=true) rfl<|qq r<|aN lI<|qh h.m1 λh=>kA h (gS b2 #[Z 52,Z nr,Z Eu] 81) λw h=>cr<|br<|tr<|tr<|br<|tr<|br<|tr<|tr<|br<|tr<|kC h<|?_;replace H:=xm H Oz;replace H:=xm H Wo;replace H:=xm H Wn;cases H;exact⟨rfl,h.se 3 []⟩
       refine wx<|te<|te<|bh<|tn<|?_;exact λ_ r=>⟨(),gN H,r.fj h⟩
     clear h r;rintro _ a w ⟨rfl,j,r,h⟩;replace H:=F9 Oz;refine qq r<|ks<|kM (h.pick 2)<|gg H λtu KI H=>fe (w8 (bA:=((aI nr.toNat).1)) (bX:=((aI nr.toNat).2)) (cE:=(cx.up 3 (aR.wm sq))) KI h :) λw h=>bS<|G<|aN [U,vB (!tu)]<|G<|IJ H (λN1 H=>?_) λN1 H=>?_
     ·refine wk<|bn<|tn<|?_;exact λ_ r=>⟨(),gN H,r.fj (h.se 3 [0,1])⟩
     refine aN dk<|kL (h.pick 2) 3<|ko [Z (((J O.ah nr.toNat).ai.length:Nat):Int),Z (wi ((((J O.ah nr.toNat).ai.length:Nat):Int)-1)),pe #[Z 53,Z nr,Z (wi ((((J O.ah nr.toNat).ai.length:Nat):Int)-1))]]<|qh h.m1 λh=>kA h (gS b2 #[Z 53,Z nr,Z (wi ((((J O.ah nr.toNat).ai.length:Nat):Int)-1))] 81) λw h=>cr<|br<|tr<|tr<|br<|tr<|kC h<|?_;replace H:=xm H Wo;replace H:=xm H Wn;cases H;exact⟨rfl,h.se 3 []⟩
    clear h r;rintro _ a w ⟨rfl,j,r,h⟩;replace H:=F9 Wo;refine qq r<|wl<|ko [U,Z (wi (nr+1)),Z (wi (nr+1))]<|G<|?_;exact λ_ r=>⟨_,⟨(wi (nr+1)),H,r.fj h⟩,jG _⟩
   refine wx<|te<|te<|bh<|tn<|?_;exact λ_ r=>⟨(),gN H,r.fj h⟩
 clear h r;rintro _ a w ⟨rfl,j,r,h⟩;replace H:=F9 Wn;refine qq r<|wq<|iv<|wb<|λ_ r=>eD (β:=Nat) id (λm a w=>∃oD:Int,(kJ K O m oD)=some r0/\∃j,mF 131 (lk [(1,pA b1 0),(2,pA b2 0),(9,Z oD)] j) a/\Fit z (aG (gS b1 #[bO aZ O.ah.length bH] 24::gS b2 #[Z 0,Z 0,Z 0] 81::L)) w) K ⟨0,H,r.fj h⟩<|?_;clear h r H;rintro k4 a w ⟨oD,H,j,r,h⟩;cases k4 with
 | zero=>exact absurd H (by simp[kJ])
 | succ k4 =>
  rw[kJ]at H;refine qq r<|wq<|aN dk<|kL h 0<|ko [Z ((O.ah.length:Nat):Int),dm (oD<((O.ah.length:Nat):Int))]<|G<|dQ H (λXY H=>?_) λXY H=>?_
  ·refine gC<|?_;obtain⟨o40,H,abD⟩:=F8 H;refine λ_ r=>dz (β:=Unit) (λ_ a w=>.inl ()=o40/\∃j,mF 131 (lk [(1,pA b1 0),(2,pA b2 0),(9,Z oD)] j) a/\Fit z (aG (gS b1 #[bO aZ O.ah.length bH] 24::gS b2 #[Z 0,Z 0,Z 0] 81::L)) w) ?_ ?_
   ·refine qq r<|wb<|aN [U]<|kL h 0<|qg H λLP H=>bS<|kp (pA (dR aZ) (kz aZ+oD.toNat*4)) (DG 85 bH rfl rfl aR LP)<|xG (pe #[Z (J O.ah oD.toNat).aS,Z (J O.ah oD.toNat).cZ,Z (J O.ah oD.toNat).bP,bO ((aI oD.toNat).1) (J O.ah oD.toNat).ai.length ((aI oD.toNat).2)]) (cs:=[Z (J O.ah oD.toNat).aS,Z (J O.ah oD.toNat).cZ,Z (J O.ah oD.toNat).bP,bO ((aI oD.toNat).1) (J O.ah oD.toNat).ai.length ((aI oD.toNat).2)]) ⟨aR.cell LP (h.dn 2) 0 rfl,aR.cell LP (h.dn 2) 1 rfl,aR.cell LP (h.dn 2) 2 rfl,aR.cell LP (h.dn 2) 3 rfl,bU⟩<|?_;refine kN h (#[Z 0,Z 0,Z 0,bO none 0 0]) 85 λb42 w h=>kA h (sn b42 (J O.ah oD.toNat) ((aI oD.toNat).1) ((aI oD.toNat).2)) λw h=>G<|ks<|kM h<|gg H λMQ e44 H=>Vy (CN (bA:=((aI oD.toNat).1)) (bX:=((aI oD.toNat).2)) (cE:=(cx.up 3 (aR.wm LP))) e44 h :) λWp x46 w h=>bS<|G<|iv<|wb<|λ_ r=>eD (β:=Nat) id (λm a w=>∃sU:Int,(jm K O oD MQ m sU)=some o40/\∃j,mF 131 (lk [(1,pA b1 0),(2,pA b2 0),(9,Z oD),(10,pA b42 0),(11,bO Wp MQ.length x46),(12,Z sU)] j) a/\Fit z (aG (gS b1 #[bO aZ O.ah.length bH] 24::gS b2 #[Z 0,Z 0,Z 0] 81::sn b42 (J O.ah oD.toNat) ((aI oD.toNat).1) ((aI oD.toNat).2)::KD Wp x46 MQ::L)) w) K ⟨0,H,r.fj (h.se 4 [2,3,1,0])⟩<|?_;clear h r H;rintro k5 a w ⟨sU,H,j,r,h⟩;cases k5 with
    | zero=>exact absurd H (by simp[jm])
    | succ k5 =>
     rw[jm]at H;refine qq r<|wq<|aN dk<|kL (h.pick 2) 3<|ko [Z (((J O.ah oD.toNat).ai.length:Nat):Int),dm (sU<(((J O.ah oD.toNat).ai.length:Nat):Int))]<|G<|dQ H (λWl H=>?_) λWl H=>?_
     ·refine gC<|wq<|wb<|wq<|qg H λKb H=>qg H λWm H=>?_;obtain⟨afx,h⟩:=h.m3.oS (bp Wm);obtain⟨Gh,Gi,e53,h⟩:=nU (h.m1);subst e53;refine gg H λMR e56 H=>nc [(b42,3,[bO ((aI oD.toNat).1) (J O.ah oD.toNat).ai.length ((aI oD.toNat).2)]),(dR ((aI oD.toNat).1),kz ((aI oD.toNat).1)+sU.toNat*5,gP (J (J O.ah oD.toNat).ai sU.toNat)),(dR Wp,sU.toNat*1,[bO Gh (J MQ sU.toNat).length Gi])] [0,3,7] 11 h (λh=>⟨⟨(h.pick 4).cell 3 rfl,bU⟩,⟨(aR.wm LP).cell Kb (h.dn 5) 0 rfl,(aR.wm LP).cell Kb (h.dn 5) 1 rfl,(aR.wm LP).cell Kb (h.dn 5) 2 rfl,(aR.wm LP).cell Kb (h.dn 5) 3 rfl,(aR.wm LP).cell Kb (h.dn 5) 4 rfl,bU⟩,⟨(h.pick 1).rq dO (f:=0) rfl,bU⟩,bU⟩) λw h hd =>mD hd 7 114 [([0],pA b42 3),([2],Z sU),([5],bO Wp MQ.length x46),([6],Z sU)]<|nZ hd 6 7 rfl (nI Wp sU 1) (λw=>xn (k:=.i64) (E:=28) rfl aY aY aY aY (h.pick 1) Wm)<|eR hd 0 5 1 rfl<|nZ hd 4 3 rfl (pA (dR ((aI oD.toNat).1)) (kz ((aI oD.toNat).1)+sU.toNat*5)) (λw=>HU 132 ((aI oD.toNat).2) rfl rfl (aR.wm LP) Kb)<|xF hd 1 3 4 rfl rfl<|eR hd 2 2 8 rfl<|mh 9 rfl<|fe (yM (HX:=Gh) (Kc:=Gi) (IP:=(cx.Oc aL h (λh=>h))) e56 h :) λw h=>G<|mK<|iK 0 10 rfl (Z MR)<|nk<|tn<|aN [U,vB (MR != 0)]<|G<|rU H (λTN H=>?_) λTN H=>?_
      ·refine wk<|bn<|tn<|wl<|ko [U,Z (wi (sU+1)),Z (wi (sU+1))]<|G<|?_;replace h:=iQ (x:=(J MQ sU.toNat)) h;replace h:=(h.m1).iE;exact λ_ r=>⟨_,⟨(wi (sU+1)),H,r.fj (h.se 4 [1,2,3,0])⟩,jG _⟩
      refine aN Ba<|qh h.m3 λh=>kA h (gS b2 #[Z MR,Z oD,Z sU] 81) λw h=>cr<|br<|tr<|tr<|br<|br<|tr<|tr<|br<|tr<|kC h<|qh h.m2.m2 λh=>?_;replace h:=iQ (x:=(J MQ sU.toNat)) h;replace h:=(h.m1).iE;replace H:=xm H abD;cases H;exact⟨rfl,h.se 4 []⟩
     refine wx<|te<|te<|bh<|bn<|tn<|?_;exact λ_ r=>⟨(),gN H,r.fj (h.se 4 [0,1])⟩
   clear h r;rintro _ a w ⟨rfl,j,r,h⟩;replace H:=F9 abD;refine qq r<|wl<|ko [U,Z (wi (oD+1)),Z (wi (oD+1))]<|G<|?_;exact λ_ r=>⟨_,⟨(wi (oD+1)),H,r.fj h⟩,jG _⟩
  refine wx<|te<|te<|bh<|tn<|aN [U]<|qh h.m1 λh=>kA h (gS b2 #[Z 0,Z 0,Z 0] 81) λw h=>cr<|kC h<|?_;cases H;exact⟨rfl,h.se 2 []⟩
def jo(K:Nat)(O:aH)(Y:List Int)(p2:Int)(p3:eL):Option (Int):=
 eA (jU K O) (λr3=>(if r3.wQ=0 then if bM (0:Int) O.ah.length then(if((Y.length:Nat):Int)=(J O.ah 0).aS then(if p2<1 then some 110 else(if p2>64 then some 110 else eA (js p3) (λuO=>(if uO=true then some 111 else some 0))))else some 61)else none else some 60))
theorem uP(H:jo K O Y p2 p3=some r0)(h:iV z (L) w)(aR:Bk L aZ aI O.ah)(IP:cx L 1 aO HX Y) :
 nM 14 #[pe #[bO aZ O.ah.length bH],bO HX Y.length Kc,Z p2,lT p3] w z (Z r0) (L):=by
 unfold jo at H;refine ke Tryz.func14 35 rfl λj=>ks<|kN h (#[bO aZ O.ah.length bH]) 24 λb1 w h=>kN h (mY p3) 27 λb2 w h=>bS<|G<|ks<|xG (pe #[bO aZ O.ah.length bH]) (cs:=[bO aZ O.ah.length bH]) ⟨(h.pick 1).cell 0 rfl,bU⟩<|?_;refine gg H λr3 e4 H=>fe (wz (aZ:=aZ) (bH:=bH) (aR:=(Aj.up 2 aR)) (aI:=aI) e4 h :) λw h=>kN h (#[Z 0,Z 0,Z 0]) 81 λb5 w h=>kA h (abw b5 r3) λw h=>G<|wq<|wb<|aN [U]<|kL h 0<|ko [vB (r3.wQ != 0),vB (r3.wQ != 0)]<|G<|rU H (λc6 H=>?_) λc6 H=>?_
 ·refine aN [U,Z ((Y.length:Nat):Int),U]<|kL (h.pick 2) 0<|qg H λc7 H=>kp (pA (dR aZ) (kz aZ+0*4)) (DG 85 bH rfl rfl aR c7)<|bS<|Aa (Z (J O.ah 0).aS) (aR.cell c7 (h.dn 3) 0 rfl)<|?_;refine ko [vB (((Y.length:Nat):Int) != (J O.ah 0).aS),vB (((Y.length:Nat):Int) != (J O.ah 0).aS)]<|G<|rU H (λc8 H=>?_) λc8 H=>?_
  ·refine aN [U,dm (p2<1),dm (p2<1)]<|qI H (λc9 H=>?_) λc9 H=>?_
   ·refine cu (dT c9) [29,30]<|oM (dT c9) (vB true)<|bS<|G<|λ_ r=>hJ r (b:=true) rfl<|qq r<|iv<|wr<|br<|tr<|?_;cases H;exact fX (h.se 3 [])
   refine cW (dF c9) [29,30] [Z p2,dm (p2>64)]<|oG (dF c9) (dm (p2>64))<|ko [dm (p2>64)]<|G<|dQ H (λqR H=>?_) λqR H=>?_
   ·refine iv<|wr<|br<|tr<|?_;cases H;exact fX (h.se 3 [])
   refine ks<|kM (h.pick 1)<|gg H λuO Es H=>fe (tK Es h :) λw h=>bS<|G<|FZ H (λyl H=>?_) λyl H=>?_
   ·refine iv<|wr<|br<|tr<|?_;cases H;exact fX (h.se 3 [])
   refine wk<|bn<|tn<|iv<|wr<|?_;cases H;exact fX (h.se 3 [])
  refine iv<|wr<|br<|tr<|?_;cases H;exact fX (h.se 3 [])
 refine iv<|wr<|br<|tr<|?_;cases H;exact fX (h.se 3 [])
def u6(O:aD):Option (Bool):=
 Ag ((if O.aS<0 then some (.inr false)else(if O.aS>8 then some (.inr false)else(if O.cZ<1 then some (.inr false)else(if O.cZ<O.aS then some (.inr false)else(if O.cZ>16 then some (.inr false)else some (.inl ()))))))) ((if O.bP>=0 then(if O.bP<=8 then(if((O.ai.length:Nat):Int)>=1 then some (decide (((O.ai.length:Nat):Int)<=512))else some false)else some false)else some false))
theorem Gj(H:u6 O=some r0)(h:iV z (L) w)(cE:cx L 5 cS bA O.ai) :
 nM 88 #[pe #[Z O.aS,Z O.cZ,Z O.bP,bO bA O.ai.length bX]] w z (vB r0) (L):=by
 unfold u6 at H;refine ke Tryz.func88 48 rfl λj=>ks<|kN h (#[Z O.aS,Z O.cZ,Z O.bP,bO bA O.ai.length bX]) 85 λb1 w h=>bS<|G<|?_;obtain⟨o3,H,Fh⟩:=F8 H;refine λ_ r=>dz (β:=Unit) (λ_ a w=>.inl ()=o3/\∃j,mF 48 (lk [(1,pA b1 0)] j) a/\Fit z (aG (sn b1 O bA bX::L)) w) ?_ ?_
 ·refine qq r<|aN [U]<|kL h 0<|ko [dm (O.aS<0),dm (O.aS<0)]<|qI H (λc4 H=>?_) λc4 H=>?_
  ·refine cu (dT c4) [7,8,9]<|oM (dT c4) (vB true)<|bS<|cu (rfl:true=true) [12,13,14]<|ko dk<|cu (rfl:true=true) [17,18,19,20,21]<|ko dk<|cu (rfl:true=true) [24,25,26]<|bS<|G<|λ_ r=>hJ r (b:=true) rfl<|qq r<|iv<|wr<|tr<|λ_ r=>sX (vB false) rfl r<|?_;replace H:=xm H Fh;cases H;exact⟨rfl,h.se 1 []⟩
  refine cW (dF c4) [7] [pA b1 0]<|vL (dF c4) h 0<|cW (dF c4) [9] [dm (O.aS>8)]<|oG (dF c4) (dm (O.aS>8))<|ko [dm (O.aS>8)]<|qI H (λc5 H=>?_) λc5 H=>?_
  ·refine cu (dT c5) [12,13,14]<|oM (dT c5) (vB true)<|bS<|cu (rfl:true=true) [17,18,19,20,21]<|ko dk<|cu (rfl:true=true) [24,25,26]<|bS<|G<|λ_ r=>hJ r (b:=true) rfl<|qq r<|iv<|wr<|tr<|λ_ r=>sX (vB false) rfl r<|?_;replace H:=xm H Fh;cases H;exact⟨rfl,h.se 1 []⟩
  refine cW (dF c5) [12] [pA b1 1]<|vL (dF c5) h 1<|cW (dF c5) [14] [dm (O.cZ<1)]<|oG (dF c5) (dm (O.cZ<1))<|ko [dm (O.cZ<1)]<|qI H (λc6 H=>?_) λc6 H=>?_
  ·refine cu (dT c6) [17,18,19,20,21]<|oM (dT c6) (vB true)<|bS<|cu (rfl:true=true) [24,25,26]<|bS<|G<|λ_ r=>hJ r (b:=true) rfl<|qq r<|iv<|wr<|tr<|λ_ r=>sX (vB false) rfl r<|?_;replace H:=xm H Fh;cases H;exact⟨rfl,h.se 1 []⟩
  refine cW (dF c6) [17] [pA b1 1]<|vL (dF c6) h 1<|cW (dF c6) [19] [pA b1 0]<|vL (dF c6) h 0<|cW (dF c6) [21] [dm (O.cZ<O.aS)]<|oG (dF c6) (dm (O.cZ<O.aS))<|ko [dm (O.cZ<O.aS)]<|qI H (λc7 H=>?_) λc7 H=>?_
  ·refine cu (dT c7) [24,25,26]<|oM (dT c7) (vB true)<|G<|λ_ r=>hJ r (b:=true) rfl<|qq r<|iv<|wr<|tr<|λ_ r=>sX (vB false) rfl r<|?_;replace H:=xm H Fh;cases H;exact⟨rfl,h.se 1 []⟩
  refine cW (dF c7) [24] [pA b1 1]<|vL (dF c7) h 1<|cW (dF c7) [26] [dm (O.cZ>16)]<|oG (dF c7) (dm (O.cZ>16))<|G<|dQ H (λc8 H=>?_) λc8 H=>?_
  ·refine iv<|wr<|tr<|λ_ r=>sX (vB false) rfl r<|?_;replace H:=xm H Fh;cases H;exact⟨rfl,h.se 1 []⟩
  refine gC<|?_;exact λ_ r=>⟨(),gN H,r.fj h⟩
 clear h r;rintro _ a w ⟨rfl,j,r,h⟩;replace H:=F9 Fh;refine qq r<|aN [U]<|kL h 2<|ko [dm (O.bP>=0),dm (O.bP>=0)]<|qI H (λc9 H=>?_) λc9 H=>?_
 ·refine cW (dT c9) [32] [pA b1 2]<|vL (dT c9) h 2<|cW (dT c9) [34] [dm (O.bP<=8)]<|oM (dT c9) (dm (O.bP<=8))<|ko [dm (O.bP<=8)]<|qI H (λqR H=>?_) λqR H=>?_
  ·refine cW (dT qR) [37] [pA b1 3]<|vL (dT qR) h 3<|cW (dT qR) [39,40] [Z ((O.ai.length:Nat):Int),dm (((O.ai.length:Nat):Int)>=1)]<|oM (dT qR) (dm (((O.ai.length:Nat):Int)>=1))<|ko [dm (((O.ai.length:Nat):Int)>=1)]<|qI H (λvw H=>?_) λvw H=>?_
   ·refine cW (dT vw) [43] [pA b1 3]<|vL (dT vw) h 3<|cW (dT vw) [45,46] [Z ((O.ai.length:Nat):Int),dm (((O.ai.length:Nat):Int)<=512)]<|oM (dT vw) (dm (((O.ai.length:Nat):Int)<=512))<|ko [dm (((O.ai.length:Nat):Int)<=512)]<|cr<|?_;cases H;exact fX (h.se 1 [])
   refine cu (dF vw) [43,44,45,46]<|oG (dF vw) (vB false)<|bS<|cr<|?_;cases H;exact fX (h.se 1 [])
  refine cu (dF qR) [37,38,39,40]<|oG (dF qR) (vB false)<|bS<|cu (rfl:false=false) [43,44,45,46]<|ko dk<|cr<|?_;cases H;exact fX (h.se 1 [])
 refine cu (dF c9) [32,33,34]<|oG (dF c9) (vB false)<|bS<|cu (rfl:false=false) [37,38,39,40]<|ko dk<|cu (rfl:false=false) [43,44,45,46]<|ko dk<|cr<|?_;cases H;exact fX (h.se 1 [])
def xH(O:Int)(Y:Int)(p2:aD)(p3:Int):Option (Bool):=
 (if O=0 then some true else(if O=1 then(if Y>=0 then some (decide (Y<p2.cZ))else some false)else(if O=2 then(if Y>=0 then some (decide (Y<p2.bP))else some false)else(if O=3 then(if Y>=0 then some (decide (Y<((p2.ai.length:Nat):Int)))else some false)else(if O=5 then(if Y>=0 then some (decide (Y<16))else some false)else(if O=4 then(if p3<0 then some true else(if Y>=0 then some (decide (Y<p3))else some false))else(if Y>=0 then some (decide (Y<0))else some false)))))))
theorem Aq(H:xH O Y p2 p3=some r0)(h:iV z (L) w)(HY:cx L 5 cS B9 p2.ai) :
 nM 147 #[Z O,Z Y,pe #[Z p2.aS,Z p2.cZ,Z p2.bP,bO B9 p2.ai.length Ey],Z p3] w z (vB r0) (L):=by
 unfold xH at H;refine ke Tryz.func147 40 rfl λj=>ks<|kN h (#[Z p2.aS,Z p2.cZ,Z p2.bP,bO B9 p2.ai.length Ey]) 85 λb1 w h=>bS<|G<|iv<|wq<|iv<|wb<|aN [vB (O==0),vB (O==0)]<|G<|dQ H (λc2 H=>?_) λc2 H=>?_
 ·refine iv<|wr<|br<|tr<|?_;cases H;exact fX (h.se 1 [])
 refine aN [vB (O==1),vB (O==1)]<|G<|dQ H (λc3 H=>?_) λc3 H=>?_
 ·refine wl<|bS<|kL h 1<|bS<|kl<|bn<|tn<|aN [U,dm (Y>=0),dm (Y>=0)]<|qI H (λc4 H=>?_) λc4 H=>?_
  ·refine cW (dT c4) [36,37,38] [Z Y,Z p2.cZ,dm (Y<p2.cZ)]<|oM (dT c4) (dm (Y<p2.cZ))<|ko [dm (Y<p2.cZ)]<|cr<|?_;cases H;exact fX (h.se 1 [])
  refine cu (dF c4) [36,37,38]<|oG (dF c4) (vB false)<|bS<|cr<|?_;cases H;exact fX (h.se 1 [])
 refine aN [vB (O==2),vB (O==2)]<|G<|dQ H (λc5 H=>?_) λc5 H=>?_
 ·refine wl<|bS<|kL h 2<|bS<|kl<|bn<|tn<|aN [U,dm (Y>=0),dm (Y>=0)]<|qI H (λc6 H=>?_) λc6 H=>?_
  ·refine cW (dT c6) [36,37,38] [Z Y,Z p2.bP,dm (Y<p2.bP)]<|oM (dT c6) (dm (Y<p2.bP))<|ko [dm (Y<p2.bP)]<|cr<|?_;cases H;exact fX (h.se 1 [])
  refine cu (dF c6) [36,37,38]<|oG (dF c6) (vB false)<|bS<|cr<|?_;cases H;exact fX (h.se 1 [])
 refine aN [vB (O==3),vB (O==3)]<|G<|dQ H (λc7 H=>?_) λc7 H=>?_
 ·refine wl<|bS<|kL h 3<|ko [Z ((p2.ai.length:Nat):Int),Z ((p2.ai.length:Nat):Int)]<|kl<|bn<|tn<|aN [U,dm (Y>=0),dm (Y>=0)]<|qI H (λc8 H=>?_) λc8 H=>?_
  ·refine cW (dT c8) [36,37,38] [Z Y,Z ((p2.ai.length:Nat):Int),dm (Y<((p2.ai.length:Nat):Int))]<|oM (dT c8) (dm (Y<((p2.ai.length:Nat):Int)))<|ko [dm (Y<((p2.ai.length:Nat):Int))]<|cr<|?_;cases H;exact fX (h.se 1 [])
  refine cu (dF c8) [36,37,38]<|oG (dF c8) (vB false)<|bS<|cr<|?_;cases H;exact fX (h.se 1 [])
 refine aN [vB (O==5),vB (O==5)]<|G<|dQ H (λc9 H=>?_) λc9 H=>?_
 ·refine wl<|bS<|kl<|bn<|tn<|aN [U,dm (Y>=0),dm (Y>=0)]<|qI H (λqR H=>?_) λqR H=>?_
  ·refine cW (dT qR) [36,37,38] [Z Y,Z 16,dm (Y<16)]<|oM (dT qR) (dm (Y<16))<|ko [dm (Y<16)]<|cr<|?_;cases H;exact fX (h.se 1 [])
  refine cu (dF qR) [36,37,38]<|oG (dF qR) (vB false)<|bS<|cr<|?_;cases H;exact fX (h.se 1 [])
 refine aN [vB (O==4),vB (O==4)]<|G<|dQ H (λvw H=>?_) λvw H=>?_
 ·refine wq<|aN [U,dm (p3<0)]<|G<|dQ H (λDI H=>?_) λDI H=>?_
  ·refine iv<|wr<|tr<|br<|tr<|?_;cases H;exact fX (h.se 1 [])
  refine gC<|wl<|ko dk<|kl<|bn<|tn<|aN [U,dm (Y>=0),dm (Y>=0)]<|qI H (λyl H=>?_) λyl H=>?_
  ·refine cW (dT yl) [36,37,38] [Z Y,Z p3,dm (Y<p3)]<|oM (dT yl) (dm (Y<p3))<|ko [dm (Y<p3)]<|cr<|?_;cases H;exact fX (h.se 1 [])
  refine cu (dF yl) [36,37,38]<|oG (dF yl) (vB false)<|bS<|cr<|?_;cases H;exact fX (h.se 1 [])
 refine wk<|bn<|tn<|aN [U,dm (Y>=0),dm (Y>=0)]<|qI H (λAZ H=>?_) λAZ H=>?_
 ·refine cW (dT AZ) [36,37,38] [Z Y,Z 0,dm (Y<0)]<|oM (dT AZ) (dm (Y<0))<|ko [dm (Y<0)]<|cr<|?_;cases H;exact fX (h.se 1 [])
 refine cu (dF AZ) [36,37,38]<|oG (dF AZ) (vB false)<|bS<|cr<|?_;cases H;exact fX (h.se 1 [])
def u7(O:cG)(Y:aD)(p2:List aD):Option (Bool):=
 Ag ((if O.aP<0 then some (.inr false)else(if O.aP>=10 then some (.inr false)else some (.inl ())))) (if bM O.aP yy.length then Ob (if 0<p2.length then some ()else none) (Ag (eA (xH (J yy O.aP.toNat).a O.A Y ((p2.length:Nat):Int)) (λjc=>(if jc=true then eA (xH (J yy O.aP.toNat).b O.B Y ((p2.length:Nat):Int)) (λDj=>(if Dj=true then eA (xH (J yy O.aP.toNat).c O.C Y ((p2.length:Nat):Int)) (λCa=>(if Ca=true then some (.inl ())else some (.inr false)))else some (.inr false)))else some (.inr false)))) (Ag ((if(J yy O.aP.toNat).k=5 then(if O.K<0 then some (.inr false)else(if O.K>=16 then some (.inr false)else some (.inl ())))else some (.inl ()))) (eA ((if O.aP=5 then if 0<p2.length then some true else none else some false)) (λg28=>(if g28=true then if bM O.B p2.length then(if(J p2 O.B.toNat).aS=0 then some true else(if O.C>=0 then some (decide (O.C<=(wi (Y.cZ-(J p2 O.B.toNat).aS))))else some false))else none else some true)))))else none)
end
noncomputable section
variable {z w:World}{L:List bu}
theorem Bb(H:u7 O Y p2=some r0)(h:iV z (L) w)(eT:cx L 5 cS cX Y.ai)(Bz:Bk L u9 VB p2)(xp:cx L 5 iu (some ⟨1,0,none⟩) yy) :
 nM 122 #[gQ O,pe #[Z Y.aS,Z Y.cZ,Z Y.bP,bO cX Y.ai.length de],bO u9 p2.length wR] w z (vB r0) (L):=by
 unfold u7 at H;refine ke Tryz.func122 96 rfl λj=>ks<|kN h (mI O) 132 λb1 w h=>kN h (#[Z Y.aS,Z Y.cZ,Z Y.bP,bO cX Y.ai.length de]) 85 λb2 w h=>bS<|G<|?_;obtain⟨o4,H,Oy⟩:=F8 H;refine λ_ r=>dz (β:=Unit) (λ_ a w=>.inl ()=o4/\∃j,mF 96 (lk [(2,bO u9 p2.length wR),(3,pA b1 0),(4,pA b2 0)] j) a/\Fit z (aG (vA b1 O::sn b2 Y cX de::L)) w) ?_ ?_
 ·refine qq r<|aN [U]<|kL (h.pick 1) 0<|ko [dm (O.aP<0),dm (O.aP<0)]<|qI H (λc5 H=>?_) λc5 H=>?_
  ·refine cu (dT c5) [14,15,16]<|oM (dT c5) (vB true)<|G<|λ_ r=>hJ r (b:=true) rfl<|qq r<|iv<|wr<|tr<|λ_ r=>sX (vB false) rfl r<|?_;replace H:=xm H Oy;cases H;exact⟨rfl,h.se 2 []⟩
  refine cW (dF c5) [14] [pA b1 0]<|vL (dF c5) (h.pick 1) 0<|cW (dF c5) [16] [dm (O.aP>=10)]<|oG (dF c5) (dm (O.aP>=10))<|G<|dQ H (λc6 H=>?_) λc6 H=>?_
  ·refine iv<|wr<|tr<|λ_ r=>sX (vB false) rfl r<|?_;replace H:=xm H Oy;cases H;exact⟨rfl,h.se 2 []⟩
  refine gC<|?_;exact λ_ r=>⟨(),gN H,r.fj (h.se 2 [1,0])⟩
 clear h r;rintro _ a w ⟨rfl,j,r,h⟩;replace H:=F9 Oy;refine qq r<|aN [U]<|kL h 0<|qg H λc7 H=>kp (pA (dR (some ⟨1,0,none⟩)) (O.aP.toNat*5)) (Oe (xs:=yy) (k:=.i64) (E:=215) rfl aY aY aY aY rfl c7)<|xG (KG (J yy O.aP.toNat)) (cs:=KE (J yy O.aP.toNat)) ⟨xp.HE c7 (h.dn 2) 0 rfl,xp.HE c7 (h.dn 2) 1 rfl,xp.HE c7 (h.dn 2) 2 rfl,xp.HE c7 (h.dn 2) 3 rfl,xp.HE c7 (h.dn 2) 4 rfl,bU⟩<|?_;refine kN h (#[Z 0,Z 0,Z 0,Z 0,vB false]) 215 λb8 w h=>kA h (TF b8 (J yy O.aP.toNat)) λw h=>G<|aN [U,Z ((p2.length:Nat):Int),Z ((p2.length:Nat):Int)]<|G<|qd0 H λo10 H hK9=>λ_ r=>dz (β:=Unit) (λ_ a w=>()=o10/\∃j,mF 96 (lk [(2,bO u9 p2.length wR),(3,pA b1 0),(4,pA b2 0),(7,pA b8 0),(8,Z ((p2.length:Nat):Int))] j) a/\Fit z (aG (vA b1 O::sn b2 Y cX de::TF b8 (J yy O.aP.toNat)::L)) w) ?_ ?_
 ·refine qq r<|ks<|qg H λvw H=>bS<|kp (vB false) (V7 (n0:=p2.length) (cc:=wR) rfl aY aY (E:=85) aY (Bz.ne vw))<|G<|λ_ r=>jb r (b:=false) rfl<|qq r<|gC<|?_;exact λ_ r=>⟨(),gN H,r.fj (h.se 3 [1,2,0])⟩
 clear h r;rintro _ a w ⟨rfl,j,r,h⟩;replace H:=kk0 hK9;obtain⟨o13,H,Rp⟩:=F8 H;refine dz (β:=Unit) (λ_ a w=>.inl ()=o13/\∃j,mF 96 (lk [(2,bO u9 p2.length wR),(3,pA b1 0),(4,pA b2 0),(7,pA b8 0)] j) a/\Fit z (aG (vA b1 O::sn b2 Y cX de::TF b8 (J yy O.aP.toNat)::L)) w) ?_ ?_
 ·refine qq r<|aN [U]<|kL (h.pick 2) 0<|bS<|kL h 1<|kM (h.pick 1)<|gg H λjc I9 H=>ko [Z ((p2.length:Nat):Int)]<|fe (Aq (B9:=cX) (Ey:=de) (HY:=(cx.up 3 eT)) I9 h :) λw h=>ko [vB (!jc),vB (!jc)]<|qI H (λuS H=>?_) λuS H=>?_
  ·refine cW (nT uS) [35] [pA b8 1]<|vL (nT uS) (h.pick 2) 1<|cW (nT uS) [37] [pA b1 2]<|vL (nT uS) h 2<|λ_ r=>ldm (sY r (nT uS)) r (pe #[Z Y.aS,Z Y.cZ,Z Y.bP,bO cX Y.ai.length de]) (cs:=[Z Y.aS,Z Y.cZ,Z Y.bP,bO cX Y.ai.length de]) ((h.pick 1).held 0 rfl)<|?_;refine gg H λDj Cy H=>cW (nT uS) [40] [Z ((p2.length:Nat):Int)]<|YX (nT uS) (Aq (B9:=cX) (Ey:=de) (HY:=(cx.up 3 eT)) Cy h :) λw h=>cW (nT uS) [42] [vB (!Dj)]<|oG (nT uS) (vB (!Dj))<|ko [vB (!Dj)]<|qI H (λuT H=>?_) λuT H=>?_
   ·refine cW (nT uT) [45] [pA b8 2]<|vL (nT uT) (h.pick 2) 2<|cW (nT uT) [47] [pA b1 3]<|vL (nT uT) h 3<|λ_ r=>ldm (sY r (nT uT)) r (pe #[Z Y.aS,Z Y.cZ,Z Y.bP,bO cX Y.ai.length de]) (cs:=[Z Y.aS,Z Y.cZ,Z Y.bP,bO cX Y.ai.length de]) ((h.pick 1).held 0 rfl)<|?_;refine gg H λCa MT H=>cW (nT uT) [50] [Z ((p2.length:Nat):Int)]<|YX (nT uT) (Aq (B9:=cX) (Ey:=de) (HY:=(cx.up 3 eT)) MT h :) λw h=>cW (nT uT) [52] [vB (!Ca)]<|oG (nT uT) (vB (!Ca))<|G<|IJ H (λFj H=>?_) λFj H=>?_
    ·refine gC<|?_;exact λ_ r=>⟨(),gN H,r.fj h⟩
    refine iv<|wr<|tr<|λ_ r=>sX (vB false) rfl r<|?_;replace H:=xm H Rp;cases H;exact⟨rfl,h.se 3 []⟩
   refine cu (nF uT) [45,46,47,48,49,50,51,52]<|oM (nF uT) (vB true)<|G<|λ_ r=>hJ r (b:=true) rfl<|qq r<|iv<|wr<|tr<|λ_ r=>sX (vB false) rfl r<|?_;replace H:=xm H Rp;cases H;exact⟨rfl,h.se 3 []⟩
  refine cu (nF uS) [35,36,37,38,39,40,41,42]<|oM (nF uS) (vB true)<|bS<|cu (rfl:true=true) [45,46,47,48,49,50,51,52]<|bS<|G<|λ_ r=>hJ r (b:=true) rfl<|qq r<|iv<|wr<|tr<|λ_ r=>sX (vB false) rfl r<|?_;replace H:=xm H Rp;cases H;exact⟨rfl,h.se 3 []⟩
 clear h r;rintro _ a w ⟨rfl,j,r,h⟩;replace H:=F9 Rp;obtain⟨o24,H,Oz⟩:=F8 H;refine dz (β:=Unit) (λ_ a w=>.inl ()=o24/\∃j,mF 96 (lk [(2,bO u9 p2.length wR),(3,pA b1 0),(4,pA b2 0)] j) a/\Fit z (aG (vA b1 O::sn b2 Y cX de::L)) w) ?_ ?_
 ·refine qq r<|aN [U]<|kL (h.pick 2) 3<|ko [vB ((J yy O.aP.toNat).k==5),vB ((J yy O.aP.toNat).k==5)]<|qI H (λyL H=>?_) λyL H=>?_
  ·refine cW (beq_iff_eq.mpr yL) [58] [pA b1 4]<|λ_ r=>ld (sY r (beq_iff_eq.mpr yL)) r (Z O.K) (h.cell 4 rfl)<|?_;refine cW (beq_iff_eq.mpr yL) [60,61] [dm (O.K<0),dm (O.K<0)]<|qI H (λDi H=>?_) λDi H=>?_
   ·refine cu (dT Di) [62,63,64]<|λ_ r=>Dz (sY r (beq_iff_eq.mpr yL)) r (vB true) (IY (b:=(decide (O.K<0))) rfl aY (dT Di) aY)<|?_;refine oM (beq_iff_eq.mpr yL) (vB true)<|G<|λ_ r=>hJ r (b:=true) rfl<|qq r<|iv<|wr<|tr<|λ_ r=>sX (vB false) rfl r<|?_;replace H:=xm H Oz;cases H;exact⟨rfl,h.se 3 []⟩
   refine cW (dF Di) [62] [pA b1 4]<|vL (dF Di) h 4<|cW (dF Di) [64] [dm (O.K>=16)]<|λ_ r=>Dz (sY r (beq_iff_eq.mpr yL)) r (dm (O.K>=16)) (IZ (b:=(decide (O.K<0))) rfl aY (dF Di) aY)<|?_;refine oM (beq_iff_eq.mpr yL) (dm (O.K>=16))<|G<|dQ H (λsL H=>?_) λsL H=>?_
   ·refine iv<|wr<|tr<|λ_ r=>sX (vB false) rfl r<|?_;replace H:=xm H Oz;cases H;exact⟨rfl,h.se 3 []⟩
   refine gC<|?_;exact λ_ r=>⟨(),gN H,r.fj (h.se 3 [0,1])⟩
  refine cu (bN yL) [58,59,60,61]<|J8 false [62,63,64]<|cu (bN yL) [65]<|oG (bN yL) (vB false)<|G<|λ_ r=>jb r (b:=false) rfl<|qq r<|gC<|?_;exact λ_ r=>⟨(),gN H,r.fj (h.se 3 [0,1])⟩
 clear h r;rintro _ a w ⟨rfl,j,r,h⟩;replace H:=F9 Oz;refine qq r<|wq<|HM H λo30 H adP=>λ_ r=>dz (β:=Unit) (λ_ a w=>∃g28:Bool,g28=o30/\∃j,mF 96 (lk [(2,bO u9 p2.length wR),(3,pA b1 0),(4,pA b2 0),(73,vB g28)] j) a/\Fit z (aG (vA b1 O::sn b2 Y cX de::L)) w) ?_ ?_
 ·refine qq r<|wl<|bS<|kL h 0<|ko [vB (O.aP==5),vB (O.aP==5)]<|qI H (λzH H=>?_) λzH H=>?_
  ·refine qg H λE3 H=>cW (beq_iff_eq.mpr zH) [71] [bO u9 p2.length wR]<|λ_ r=>Dz (sY r (beq_iff_eq.mpr zH)) r (vB true) (Td (n0:=p2.length) (cc:=wR) rfl aY aY (E:=85) aY (Bz.ne E3))<|?_;refine oM (beq_iff_eq.mpr zH) (vB true)<|G<|?_;exact λ_ r=>⟨(),true,gN H,r.fj h⟩
  refine cu (bN zH) [71,72]<|oG (bN zH) (vB false)<|G<|?_;exact λ_ r=>⟨(),false,gN H,r.fj h⟩
 clear h r;rintro _ a w ⟨g28,rfl,j,r,h⟩;replace H:=Hw adP;refine qq r<|FZ H (λB3 H=>?_) λB3 H=>?_
 ·refine aN dk<|kL h 2<|qg H λEr H=>kp (pA (dR u9) (kz u9+O.B.toNat*4)) (DG 85 wR rfl rfl Bz Er)<|bS<|Aa (Z (J p2 O.B.toNat).aS) (Bz.cell Er (h.dn 2) 0 rfl)<|?_;refine bS<|G<|aN [U,vB ((J p2 O.B.toNat).aS==0),vB ((J p2 O.B.toNat).aS==0)]<|qI H (λKL H=>?_) λKL H=>?_
  ·refine cu (beq_iff_eq.mpr KL) [83,84,85,86]<|J8 true [87,88,89,90,91,92,93]<|cu (beq_iff_eq.mpr KL) [94]<|oM (beq_iff_eq.mpr KL) (vB true)<|bS<|cr<|tr<|?_;cases H;exact fX (h.se 2 [])
  refine cW (bN KL) [83] [pA b1 3]<|vL (bN KL) h 3<|cW (bN KL) [85,86] [dm (O.C>=0),dm (O.C>=0)]<|qI H (λN1 H=>?_) λN1 H=>?_
  ·refine cW (dT N1) [87] [pA b1 3]<|vL (dT N1) h 3<|cW (dT N1) [89] [pA b2 1]<|vL (dT N1) (h.pick 1) 1<|cW (dT N1) [91,92,93] [Z (J p2 O.B.toNat).aS,Z (wi (Y.cZ-(J p2 O.B.toNat).aS)),dm (O.C<=(wi (Y.cZ-(J p2 O.B.toNat).aS)))]<|λ_ r=>Dz (sY r (bN KL)) r (dm (O.C<=(wi (Y.cZ-(J p2 O.B.toNat).aS)))) (IY (b:=(decide (O.C>=0))) rfl aY (dT N1) aY)<|?_;refine oG (bN KL) (dm (O.C<=(wi (Y.cZ-(J p2 O.B.toNat).aS))))<|ko [dm (O.C<=(wi (Y.cZ-(J p2 O.B.toNat).aS)))]<|cr<|tr<|?_;cases H;exact fX (h.se 2 [])
  refine cu (dF N1) [87,88,89,90,91,92,93]<|λ_ r=>Dz (sY r (bN KL)) r (vB false) (IZ (b:=(decide (O.C>=0))) rfl aY (dF N1) aY)<|?_;refine oG (bN KL) (vB false)<|bS<|cr<|tr<|?_;cases H;exact fX (h.se 2 [])
 refine gC<|iv<|wr<|?_;cases H;exact fX (h.se 2 [])
def wA(O:aD):Option (Bool):=
 if bM (wi (((O.ai.length:Nat):Int)-1)) O.ai.length then(if(J O.ai (wi (((O.ai.length:Nat):Int)-1)).toNat).aP=3 then some true else some ((J O.ai (wi (((O.ai.length:Nat):Int)-1)).toNat).aP==9))else none
theorem Cb(H:wA O=some r0)(h:iV z (L) w)(cE:cx L 5 cS bA O.ai) :
 nM 123 #[pe #[Z O.aS,Z O.cZ,Z O.bP,bO bA O.ai.length bX]] w z (vB r0) (L):=by
 unfold wA at H;refine ke Tryz.func123 19 rfl λj=>ks<|kN h (#[Z O.aS,Z O.cZ,Z O.bP,bO bA O.ai.length bX]) 85 λb1 w h=>bS<|G<|aN [U]<|kL h 3<|bS<|kL h 3<|qg H λc2 H=>ko [Z ((O.ai.length:Nat):Int),Z (wi (((O.ai.length:Nat):Int)-1))]<|kj 132 bX cE c2<|ko [pA (dR bA) (kz bA+(wi (((O.ai.length:Nat):Int)-1)).toNat*5)]<|Aa (Z (J O.ai (wi (((O.ai.length:Nat):Int)-1)).toNat).aP) (cE.cell c2 (h.dn 1) 0 rfl)<|?_;refine ko [Z (J O.ai (wi (((O.ai.length:Nat):Int)-1)).toNat).aP]<|G<|aN [Z (J O.ai (wi (((O.ai.length:Nat):Int)-1)).toNat).aP,vB ((J O.ai (wi (((O.ai.length:Nat):Int)-1)).toNat).aP==3),vB ((J O.ai (wi (((O.ai.length:Nat):Int)-1)).toNat).aP==3)]<|qI H (λc3 H=>?_) λc3 H=>?_
 ·refine cu (beq_iff_eq.mpr c3) [16,17]<|oM (beq_iff_eq.mpr c3) (vB true)<|bS<|cr<|?_;cases H;exact fX (h.se 1 [])
 refine cW (bN c3) [16,17] [Z (J O.ai (wi (((O.ai.length:Nat):Int)-1)).toNat).aP,vB ((J O.ai (wi (((O.ai.length:Nat):Int)-1)).toNat).aP==9)]<|oG (bN c3) (vB ((J O.ai (wi (((O.ai.length:Nat):Int)-1)).toNat).aP==9))<|ko [vB ((J O.ai (wi (((O.ai.length:Nat):Int)-1)).toNat).aP==9)]<|cr<|?_;cases H;exact fX (h.se 1 [])
def gA(K:Nat)(O:Int)(Y:aD)(p2:List aD):Nat->Int->Option ((Unit)⊕((Unit)⊕nK))
 | 0,_=>none
 | k1+1,g4=>(if g4<((Y.ai.length:Nat):Int)then if bM g4 Y.ai.length then eA (u7 (J Y.ai g4.toNat) Y p2) (λr8=>(if r8=true then(gA K O Y p2 k1 (wi (g4+1)))else some (.inr (.inr (⟨52,O,g4⟩:nK)))))else none else some (.inl ()))
def n6(K:Nat)(O:Int)(Y:aD)(p2:List aD):Option ((Unit)⊕nK):=
 Ag ((gA K O Y p2 K 0)) (eA (wA Y) (λuO=>(if uO=true then some (.inl ())else some (.inr (⟨53,O,wi (((Y.ai.length:Nat):Int)-1)⟩:nK)))))
abbrev XZ:List Value:=[U,U,U,U,U]
theorem Bn{K:Nat}{O:Int}{Y:aD}{p2:List aD}{cX u9:gF}{de wR:Nat}{VB:Nat->Option Addr×Nat}(H:n6 K O Y p2=some (.inl ()))(h:iV z (L) w)(eT:cx L 5 cS cX Y.ai)(Bz:Bk L u9 VB p2)(xp:cx L 5 iu (some ⟨1,0,none⟩) yy) :
 nM 89 #[Z O,pe #[Z Y.aS,Z Y.cZ,Z Y.bP,bO cX Y.ai.length de],bO u9 p2.length wR] w z (.tuple #[]) (L):=by
 unfold n6 at H;refine ke Tryz.func89 38 rfl λj=>ks<|kN h (#[Z Y.aS,Z Y.cZ,Z Y.bP,bO cX Y.ai.length de]) 85 λb1 w h=>G<|?_;obtain⟨o3,H,Fh⟩:=F8 H;refine λ_ r=>dz (β:=Unit) (λ_ a w=>.inl ()=o3/\∃j,mF 38 (lk [(0,Z O),(4,pA b1 0)] j) a/\Fit z (aG (sn b1 Y cX de::L)) w) ?_ ?_
 ·refine qq r<|aN [U]<|kL h 3<|ko [Z ((Y.ai.length:Nat):Int),U]<|G<|wb<|λ_ r=>eD (β:=Nat) id (λm a w=>∃g4:Int,(gA K O Y p2 m g4)=some o3/\∃j,mF 38 (lk [(0,Z O),(2,bO u9 p2.length wR),(4,pA b1 0),(9,bO cX Y.ai.length de),(10,Z ((Y.ai.length:Nat):Int)),(11,Z g4)] j) a/\Fit z (aG (sn b1 Y cX de::L)) w) K ⟨0,H,r.fj h⟩<|?_;clear h r H;rintro k1 a w ⟨g4,H,j,r,h⟩;cases k1 with
  | zero=>exact absurd H (by simp[gA])
  | succ k1 =>
   rw[gA]at H;refine qq r<|aN [dm (g4<((Y.ai.length:Nat):Int))]<|G<|wq<|dQ H (λc5 H=>?_) λc5 H=>?_
   ·refine gC<|wq<|wb<|ks<|qg H λc6 H=>bS<|kj 132 de eT c6<|xG (gQ (J Y.ai g4.toNat)) (cs:=gP (J Y.ai g4.toNat)) ⟨eT.cell c6 (h.dn 1) 0 rfl,eT.cell c6 (h.dn 1) 1 rfl,eT.cell c6 (h.dn 1) 2 rfl,eT.cell c6 (h.dn 1) 3 rfl,eT.cell c6 (h.dn 1) 4 rfl,bU⟩<|?_;refine kN h (CH) 132 λb7 w h=>bS<|kA h (vA b7 (J Y.ai g4.toNat)) λw h=>G<|ks<|kM h<|kM (h.pick 1)<|gg H λr8 e9 H=>bS<|fe (Bb (u9:=u9) (wR:=wR) (Bz:=(Aj.up 2 Bz)) (cX:=cX) (de:=de) (eT:=(cx.up 2 eT)) (xp:=cx.up 2 xp) (VB:=VB) e9 h :) λw h=>ko [vB (!r8)]<|G<|IJ H (λqR H=>?_) λqR H=>?_
    ·refine wk<|bn<|tn<|wl<|ko [Z (wi (g4+1)),Z (wi (g4+1))]<|G<|?_;exact λ_ r=>⟨_,⟨(wi (g4+1)),H,r.fj (h.se 2 [1])⟩,jG _⟩
    refine wl<|ko XZ<|λ_ r=>Fe (wn rfl) r rfl (T:=171) (u:=pe #[Z 52,Z O,Z g4]) aY<|ux<|oA<|oA<|ux<|oA<|Cx r<|?_;replace H:=xm H Fh;cases H
   refine wx<|te<|te<|bh<|tn<|?_;exact λ_ r=>⟨(),gN H,r.fj h⟩
 clear h r;rintro _ a w ⟨rfl,j,r,h⟩;replace H:=F9 Fh;refine qq r<|ks<|kM h<|gg H λuO Es H=>fe (Cb (bA:=cX) (bX:=de) (cE:=(cx.up 1 eT)) Es h :) λw h=>ko [vB (!uO)]<|G<|IJ H (λyl H=>?_) λyl H=>?_
 ·refine wk<|?_;cases H;exact HN (h.se 1 [])
 refine wl<|ko dk<|kL h 3<|ko [Z ((Y.ai.length:Nat):Int),Z (wi (((Y.ai.length:Nat):Int)-1)),pe #[Z 53,Z O,Z (wi (((Y.ai.length:Nat):Int)-1))],pe #[Z 53,Z O,Z (wi (((Y.ai.length:Nat):Int)-1))],if_ 171 (pe #[Z 53,Z O,Z (wi (((Y.ai.length:Nat):Int)-1))])]<|λ_ r=>Fe (wn rfl) r rfl (T:=171) (u:=pe #[Z 53,Z O,Z (wi (((Y.ai.length:Nat):Int)-1))]) aY<|Cx r<|?_;cases H
theorem Bo{K:Nat}{O:Int}{Y:aD}{p2:List aD}{cX u9:gF}{de wR:Nat}{VB:Nat->Option Addr×Nat}{rP:nK}(H:n6 K O Y p2=some (.inr rP))(h:iV z (L) w)(eT:cx L 5 cS cX Y.ai)(Bz:Bk L u9 VB p2)(xp:cx L 5 iu (some ⟨1,0,none⟩) yy) :
 Calls Tryz.prog 89 #[Z O,pe #[Z Y.aS,Z Y.cZ,Z Y.bP,bO cX Y.ai.length de],bO u9 p2.length wR] w λe w=>e=.panicked [{v:=if_ 171 (AY rP),recovered:=false}]/\Fit z (aG (L)) w:=by
 unfold n6 at H;refine ke Tryz.func89 38 rfl λj=>ks<|kN h (#[Z Y.aS,Z Y.cZ,Z Y.bP,bO cX Y.ai.length de]) 85 λb1 w h=>G<|?_;obtain⟨o3,H,Fh⟩:=F8 H;refine λ_ r=>dz (β:=Unit) (λ_ a w=>.inl ()=o3/\∃j,mF 38 (lk [(0,Z O),(4,pA b1 0)] j) a/\Fit z (aG (sn b1 Y cX de::L)) w) ?_ ?_
 ·refine qq r<|aN [U]<|kL h 3<|ko [Z ((Y.ai.length:Nat):Int),U]<|G<|wb<|λ_ r=>eD (β:=Nat) id (λm a w=>∃g4:Int,(gA K O Y p2 m g4)=some o3/\∃j,mF 38 (lk [(0,Z O),(2,bO u9 p2.length wR),(4,pA b1 0),(9,bO cX Y.ai.length de),(10,Z ((Y.ai.length:Nat):Int)),(11,Z g4)] j) a/\Fit z (aG (sn b1 Y cX de::L)) w) K ⟨0,H,r.fj h⟩<|?_;clear h r H;rintro k1 a w ⟨g4,H,j,r,h⟩;cases k1 with
  | zero=>exact absurd H (by simp[gA])
  | succ k1 =>
   rw[gA]at H;refine qq r<|aN [dm (g4<((Y.ai.length:Nat):Int))]<|G<|wq<|dQ H (λc5 H=>?_) λc5 H=>?_
   ·refine gC<|wq<|wb<|ks<|qg H λc6 H=>bS<|kj 132 de eT c6<|xG (gQ (J Y.ai g4.toNat)) (cs:=gP (J Y.ai g4.toNat)) ⟨eT.cell c6 (h.dn 1) 0 rfl,eT.cell c6 (h.dn 1) 1 rfl,eT.cell c6 (h.dn 1) 2 rfl,eT.cell c6 (h.dn 1) 3 rfl,eT.cell c6 (h.dn 1) 4 rfl,bU⟩<|?_;refine kN h (CH) 132 λb7 w h=>bS<|kA h (vA b7 (J Y.ai g4.toNat)) λw h=>G<|ks<|kM h<|kM (h.pick 1)<|gg H λr8 e9 H=>bS<|fe (Bb (u9:=u9) (wR:=wR) (Bz:=(Aj.up 2 Bz)) (cX:=cX) (de:=de) (eT:=(cx.up 2 eT)) (xp:=cx.up 2 xp) (VB:=VB) e9 h :) λw h=>ko [vB (!r8)]<|G<|IJ H (λqR H=>?_) λqR H=>?_
    ·refine wk<|bn<|tn<|wl<|ko [Z (wi (g4+1)),Z (wi (g4+1))]<|G<|?_;exact λ_ r=>⟨_,⟨(wi (g4+1)),H,r.fj (h.se 2 [1])⟩,jG _⟩
    refine wl<|ko XZ<|λ_ r=>Fe (wn rfl) r rfl (T:=171) (u:=pe #[Z 52,Z O,Z g4]) aY<|ux<|oA<|oA<|ux<|oA<|Cx r<|?_;replace H:=xm H Fh;replace H:=ejR H;subst H;exact⟨rfl,h.se 2 []⟩
   refine wx<|te<|te<|bh<|tn<|?_;exact λ_ r=>⟨(),gN H,r.fj h⟩
 clear h r;rintro _ a w ⟨rfl,j,r,h⟩;replace H:=F9 Fh;refine qq r<|ks<|kM h<|gg H λuO Es H=>fe (Cb (bA:=cX) (bX:=de) (cE:=(cx.up 1 eT)) Es h :) λw h=>ko [vB (!uO)]<|G<|IJ H (λyl H=>?_) λyl H=>?_
 ·refine wk<|λ_ r=>qb rfl r<|?_;cases H
 refine wl<|ko dk<|kL h 3<|ko [Z ((Y.ai.length:Nat):Int),Z (wi (((Y.ai.length:Nat):Int)-1)),pe #[Z 53,Z O,Z (wi (((Y.ai.length:Nat):Int)-1))],pe #[Z 53,Z O,Z (wi (((Y.ai.length:Nat):Int)-1))],if_ 171 (pe #[Z 53,Z O,Z (wi (((Y.ai.length:Nat):Int)-1))])]<|λ_ r=>Fe (wn rfl) r rfl (T:=171) (u:=pe #[Z 53,Z O,Z (wi (((Y.ai.length:Nat):Int)-1))]) aY<|Cx r<|?_;replace H:=ejR H;subst H;exact⟨rfl,h.se 1 []⟩
def vW(O:aT):Option (Bool):=
 some false
theorem Fk(H:vW O=some r0)(h:iV z (L) w) :
 nM 149 #[wU O] w z (vB r0) (L):=by
 unfold vW at H;refine ke Tryz.func149 3 rfl λj=>ks<|kN h (Gc O) 221 λb1 w h=>bS<|G<|iv<|wr<|?_;cases H;exact fX (h.se 1 [])
def wB(O:cG)(Y:Int)(p2:Int):Option (Int):=
 (if O.aP=5 then(if O.A=Y then some 2 else(if O.aP=6 then(if p2=2 then some 4 else some p2)else some p2))else(if O.aP=6 then(if p2=2 then some 4 else some p2)else some p2))
theorem HZ(H:wB O Y p2=some r0)(h:iV z (L) w) :
 nM 170 #[gQ O,Z Y,Z p2] w z (Z r0) (L):=by
 unfold wB at H;refine ke Tryz.func170 26 rfl λj=>ks<|kN h (mI O) 132 λb1 w h=>bS<|G<|wq<|wb<|aN [U]<|kL h 0<|ko [vB (O.aP==5),vB (O.aP==5)]<|qI H (λc2 H=>?_) λc2 H=>?_
 ·refine cW (beq_iff_eq.mpr c2) [12] [pA b1 1]<|λ_ r=>ld (sY r (beq_iff_eq.mpr c2)) r (Z O.A) (h.cell 1 rfl)<|?_;refine cW (beq_iff_eq.mpr c2) [14,15] [Z Y,vB (O.A==Y)]<|oM (beq_iff_eq.mpr c2) (vB (O.A==Y))<|ko [vB (O.A==Y)]<|G<|dQ H (λc3 H=>?_) λc3 H=>?_
  ·refine iv<|wr<|br<|tr<|?_;cases H;exact fX (h.se 1 [])
  refine aN [U]<|kL h 0<|ko [vB (O.aP==6),vB (O.aP==6)]<|qI H (λc4 H=>?_) λc4 H=>?_
  ·refine cW (beq_iff_eq.mpr c4) [22,23] [Z p2,vB (p2==2)]<|oM (beq_iff_eq.mpr c4) (vB (p2==2))<|ko [vB (p2==2)]<|G<|dQ H (λc5 H=>?_) λc5 H=>?_
   ·refine iv<|wr<|br<|tr<|?_;cases H;exact fX (h.se 1 [])
   refine wk<|bn<|tn<|aN dk<|cr<|?_;cases H;exact fX (h.se 1 [])
  refine cu (bN c4) [22,23]<|oG (bN c4) (vB false)<|bS<|G<|λ_ r=>jb r (b:=false) rfl<|qq r<|wk<|bn<|tn<|aN dk<|cr<|?_;cases H;exact fX (h.se 1 [])
 refine cu (bN c2) [12,13,14,15]<|oG (bN c2) (vB false)<|bS<|G<|λ_ r=>jb r (b:=false) rfl<|qq r<|aN [U]<|kL h 0<|ko [vB (O.aP==6),vB (O.aP==6)]<|qI H (λc6 H=>?_) λc6 H=>?_
 ·refine cW (beq_iff_eq.mpr c6) [22,23] [Z p2,vB (p2==2)]<|oM (beq_iff_eq.mpr c6) (vB (p2==2))<|ko [vB (p2==2)]<|G<|dQ H (λc7 H=>?_) λc7 H=>?_
  ·refine iv<|wr<|br<|tr<|?_;cases H;exact fX (h.se 1 [])
  refine wk<|bn<|tn<|aN dk<|cr<|?_;cases H;exact fX (h.se 1 [])
 refine cu (bN c6) [22,23]<|oG (bN c6) (vB false)<|bS<|G<|λ_ r=>jb r (b:=false) rfl<|qq r<|wk<|bn<|tn<|aN dk<|cr<|?_;cases H;exact fX (h.se 1 [])
def wC(O:aD)(Y:Int):Option ((List Int)):=
 if bM Y O.ai.length then eA (if bM (J O.ai Y.toNat).aP yy.length then(if(J yy (J O.ai Y.toNat).aP.toNat).next=true then(if(wi (Y+1))<((O.ai.length:Nat):Int)then if(([]:List Int).length+1)*8<=140737488355328 then some (([]:List Int)++[wi (Y+1)])else none else some ([]:List Int))else some ([]:List Int))else none) (λl6=>(if(J O.ai Y.toNat).aP=3 then if(l6.length+1)*8<=140737488355328 then some (l6++[(J O.ai Y.toNat).A])else none else(if(J O.ai Y.toNat).aP=4 then if(l6.length+1)*8<=140737488355328 then some (l6++[(J O.ai Y.toNat).B])else none else some l6)))else none
theorem H6(H:wC O Y=some r0)(h:iV z (L) w)(cE:cx L 5 cS bA O.ai)(xp:cx L 5 iu (some ⟨1,0,none⟩) yy) :
 Calls Tryz.prog 171 #[pe #[Z O.aS,Z O.cZ,Z O.bP,bO bA O.ai.length bX],Z Y] w λe w=>∃y1 y2,e=.returned (bO y1 r0.length y2)/\Fit z (aG (GI y1 y2 r0::L)) w:=by
 unfold wC at H;refine ke Tryz.func171 47 rfl λj=>ks<|kN h (#[Z O.aS,Z O.cZ,Z O.bP,bO bA O.ai.length bX]) 85 λb1 w h=>bS<|G<|aN [U]<|kL h 3<|qg H λc2 H=>bS<|kj 132 bX cE c2<|xG (gQ (J O.ai Y.toNat)) (cs:=gP (J O.ai Y.toNat)) ⟨cE.cell c2 (h.dn 1) 0 rfl,cE.cell c2 (h.dn 1) 1 rfl,cE.cell c2 (h.dn 1) 2 rfl,cE.cell c2 (h.dn 1) 3 rfl,cE.cell c2 (h.dn 1) 4 rfl,bU⟩<|?_;refine kN h (CH) 132 λb3 w h=>kA h (vA b3 (J O.ai Y.toNat)) λw h=>G<|iv<|HM H λo8 H MS=>λ_ r=>dz (β:=Unit) (λ_ a w=>∃ca4:gF,∃cc5:Nat,∃l6:List Int,l6=o8/\∃j,mF 47 (lk [(5,pA b3 0),(6,bO ca4 l6.length cc5)] j) a/\Fit z (aG (vA b3 (J O.ai Y.toNat)::GI ca4 cc5 l6::L)) w) ?_ ?_
 ·refine qq r<|aN [U]<|kL h 0<|qg H λc9 H=>kp (pA (dR (some ⟨1,0,none⟩)) ((J O.ai Y.toNat).aP.toNat*5)) (Oe (xs:=yy) (k:=.i64) (E:=215) rfl aY aY aY aY rfl c9)<|bS<|Aa (vB (J yy (J O.ai Y.toNat).aP.toNat).next) (xp.HE c9 (h.dn 2) 4 rfl)<|?_;refine bS<|qI H (λqR H=>?_) λqR H=>?_
  ·refine cW (qR) [18,19,20] [Z Y,Z (wi (Y+1)),pA b1 3]<|λ_ r=>ld (sY r (qR)) r (bO bA O.ai.length bX) ((h.pick 1).cell 3 rfl)<|?_;refine cW (qR) [22,23] [Z ((O.ai.length:Nat):Int),dm ((wi (Y+1))<((O.ai.length:Nat):Int))]<|oM (qR) (dm ((wi (Y+1))<((O.ai.length:Nat):Int)))<|G<|dQ H (λvw H=>?_) λvw H=>?_
   ·refine wl<|ko [U,U,Z (wi (Y+1))]<|kV h (#[Z (wi (Y+1))]) 3 λuh w h=>?_;replace h:=h.kR (e:=3) (sz:=1) (enc:=aO);refine qg H λpR H=>λ_ r=>nY (n0:=0) (c:=1) (bytes:=8) (wn rfl) rfl rfl r rfl aY aY aL (E:=3) (xs:=([]:List Int)) aY aY h (news:=[wi (Y+1)]) (m:=1) rfl ((h.pick 1).news rfl) pR rfl λtB ug w _ h r=>qq r<|ko [bO tB (([]:List Int)++[wi (Y+1)]).length ug]<|G<|?_;exact λ_ r=>⟨(),tB,ug,(([]:List Int)++[wi (Y+1)]),gN H,r.fj (h.se 4 [2,0])⟩
   refine gC<|?_;replace h:=h.kR (e:=3) (sz:=1) (enc:=aO);exact λ_ r=>⟨(),none,0,([]:List Int),gN H,r.fj (h.se 3 [1,0])⟩
  refine cu (bF qR) [18,19,20,21,22,23]<|oG (bF qR) (vB false)<|G<|λ_ r=>jb r (b:=false) rfl<|qq r<|gC<|?_;replace h:=h.kR (e:=3) (sz:=1) (enc:=aO);exact λ_ r=>⟨(),none,0,([]:List Int),gN H,r.fj (h.se 3 [1,0])⟩
 clear h r;rintro _ a w ⟨ca4,cc5,l6,rfl,j,r,h⟩;replace H:=Hw MS;refine qq r<|wq<|aN [U]<|kL h 0<|G<|wb<|aN [vB ((J O.ai Y.toNat).aP==3),vB ((J O.ai Y.toNat).aP==3)]<|G<|dQ H (λuS H=>?_) λuS H=>?_
 ·refine wl<|ko dk<|kL h 1<|kV h (#[Z (J O.ai Y.toNat).A]) 3 λb17 w h=>qh h.m2 λh=>qg H λmV H=>λ_ r=>nY (n0:=l6.length) (c:=1) (bytes:=8) (wn rfl) rfl rfl r rfl aY aY aL (E:=3) (xs:=l6) aY aY h (news:=[(J O.ai Y.toNat).A]) (m:=1) rfl ((h.pick 1).news rfl) mV rfl λFl Fm w _ h r=>qq r<|bS<|kl<|bn<|tn<|aN dk<|cr<|?_;cases H;exact xy2 Fl Fm (h.se 3 [0])
 refine aN [vB ((J O.ai Y.toNat).aP==4),vB ((J O.ai Y.toNat).aP==4)]<|G<|dQ H (λsq H=>?_) λsq H=>?_
 ·refine wl<|ko dk<|kL h 2<|kV h (#[Z (J O.ai Y.toNat).B]) 3 λyN w h=>qh h.m2 λh=>qg H λyL H=>λ_ r=>nY (n0:=l6.length) (c:=1) (bytes:=8) (wn rfl) rfl rfl r rfl aY aY aL (E:=3) (xs:=l6) aY aY h (news:=[(J O.ai Y.toNat).B]) (m:=1) rfl ((h.pick 1).news rfl) yL rfl λadQ adR w _ h r=>qq r<|bS<|kl<|bn<|tn<|aN dk<|cr<|?_;cases H;exact xy2 adQ adR (h.se 3 [0])
 refine wk<|bn<|tn<|aN dk<|cr<|?_;cases H;exact xy2 ca4 cc5 (h.se 2 [1])
def jH(K:Nat)(l8:List aT)(Bc:Int)(rB:List Int):Nat->(List (aT×aT))->(List aT)->Int->Option ((List (aT×aT))×(List aT))
 | 0,_,_,_=>none
 | k2+1,OB,OC,oD=>(if oD<((rB.length:Nat):Int)then if bM oD rB.length then(if(yj OB (⟨(J rB oD.toNat),Bc⟩:aT)).isSome=true then(jH K l8 Bc rB k2 OB OC (wi (oD+1)))else if yj OB (⟨(J rB oD.toNat),Bc⟩:aT)=none then if(OC.length+1)*16<=140737488355328 then(jH K l8 Bc rB k2 (OB++[((⟨(J rB oD.toNat),Bc⟩:aT),J l8 0)]) (OC++[(⟨(J rB oD.toNat),Bc⟩:aT)]) (wi (oD+1)))else none else none)else none else some (OB,OC))
def lC(K:Nat)(O:aD)(Y:Int):Nat->(List (aT×aT))->(List aT)->Option ((List (aT×aT)))
 | 0,_,_=>none
 | k1+1,l5,l8=>(if((l8.length:Nat):Int)>0 then if bM (0:Int) l8.length then if 0<=(1:Int)/\(1:Int)<=((l8.length:Nat):Int)then if 0<l8.length then eA (vW (J l8 0)) (λDj=>(if Dj=true then some l5 else if bM (J l8 0).J O.ai.length then eA (wB (J O.ai (J l8 0).J.toNat) Y (J l8 0).state) (λBc=>eA (wC O (J l8 0).J) (λrB=>tL ((jH K l8 Bc rB K l5 (l8.drop 1) 0)) (λQa Gg=>(lC K O Y k1 Qa Gg))))else none))else none else none else none else some l5)
def rD(K:Nat)(O:aD)(Y:Int):Option ((List (aT×aT))):=
 (lC K O Y K (([]:List (aT×aT))++[((⟨0,1⟩:aT),(⟨-1,0⟩:aT))]) ([(⟨0,1⟩:aT)]))
abbrev tC:aT:=⟨0,1⟩
abbrev Dk:aT:=⟨-1,0⟩
abbrev yO:aT:=⟨0,0⟩
theorem CO(H:rD K O Y=some r0)(h:iV z (L) w)(cE:cx L 5 cS bA O.ai)(xp:cx L 5 iu (some ⟨1,0,none⟩) yy) :
 Calls Tryz.prog 148 #[pe #[Z O.aS,Z O.cZ,Z O.bP,bO bA O.ai.length bX],Z Y,.func (.func 149) #[] #[]] w λe w=>∃XW,e=.returned (.map (some XW))/\Fit z (aG (mapOf dL dL XW r0::L)) w:=by
 unfold rD at H;refine ke Tryz.func148 73 rfl λj=>ks<|kN h (#[Z O.aS,Z O.cZ,Z O.bP,bO bA O.ai.length bX]) 85 λb1 w h=>bS<|G<|λ_ r=>wp_scope_straight<|qq r<|aN [U]<|kN h (#[Z 0,Z 0]) 221 λb2 w h=>kA h (gS b2 #[Z 0,Z 1] 221) λw h=>G<|ks<|λ_ r=>Tp (wn rfl) rfl rfl r rfl dL dL h λb3 w _ h r=>qq r<|kM (h.pick 1)<|bS<|λ_ r=>Tq (t:=218) (et:=221) (wn rfl) rfl r (Or.inr rfl) aY tC Dk aY aY aY KH rfl h λw h=>qq r<|ko dk<|G<|ks<|kM (h.pick 1)<|kV h (#[Z 0,Z 1]) 221 λb4 w h=>?_;replace h:=Fit.Cv (n:=1) (l:=[tC]) (by rfl) (by rfl) oB dO h;refine bS<|G<|wq<|λ_ r=>wp_label<|qq r<|tn<|wq<|wb<|qh h.P5 λh=>?_;have hn8:1=([tC]).length:=h.Tw;replace h:=Fit.I2 hn8 (λq_=>DC 221 2 dL (bO (some ⟨b4,0,none⟩) q_ 1) ([tC])) h;intro _ r;replace r:=r.re 9 (nu (λq_=>Value.slice (some ⟨b4,0,none⟩) q_ 1) hn8);refine eD (β:=Nat) id (λm a w=>∃GK:gF,∃cc7:Nat,∃l5:List (aT×aT),∃l8:List aT,(lC K O Y m l5 l8)=some r0/\∃j,mF 73 (lk [(1,Z Y),(2,.func (.func 149) #[] #[]),(3,pA b1 0),(8,.map (some b3)),(9,bO GK l8.length cc7)] j) a/\Fit z (aG (sn b1 O bA bX::mapOf dL dL b3 l5::DC 221 2 dL (bO GK l8.length cc7) l8::L)) w) K ⟨(some ⟨b4,0,none⟩),1,(([]:List (aT×aT))++[(tC,Dk)]),([tC]),H,r.fj (h.se 4 [3,1,0])⟩<|?_;clear h r H;rintro k1 a w ⟨GK,cc7,l5,l8,H,j,r,h⟩;cases k1 with
 | zero=>exact absurd H (by simp[lC])
 | succ k1 =>
  rw[lC]at H;refine qq r<|wq<|aN [U,Z ((l8.length:Nat):Int),dm (((l8.length:Nat):Int)>0)]<|G<|dQ H (λqR H=>?_) λqR H=>?_
  ·refine gC<|wb<|ks<|qg H λvw H=>bS<|kp (pA (dR GK) (kz GK+0*2)) (adJ (i:=(0:Int)) (k:=.i64) (E:=221) rfl aY aY aY aY (h.pick 2) vw)<|xG (wU (J l8 0)) (cs:=Gb (J l8 0)) ⟨(h.pick 2).ME oB (f:=0) (bp vw) rfl,(h.pick 2).ME oB (f:=1) (bp vw) rfl,bU⟩<|?_;refine kN h (#[Z 0,Z 0]) 221 λuh w h=>kA h (P6 uh (J l8 0)) λw h=>G<|ks<|qg H λyl H=>qg H λAZ H=>bS<|qh h.m3 λh=>λ_ r=>Wh (k:=.i64) (wn rfl) rfl rfl r rfl aY aY (E:=221) aY aY oB h yl AZ λadS adT a h r =>qq r<|bS<|G<|wq<|aN [U]<|kM (h.pick 1)<|gg H λDj Cy H=>fe (Fk Cy h :) λw h=>G<|FZ H (λuT H=>?_) λuT H=>?_
   ·refine wx<|te<|λ_ r=>Ct dO<|qq r<|te<|bh<|tn<|aN dk<|cr<|λ_ r=>Tn<|qq r<|?_;cases H;exact xy1 b3 (h.se 4 [3])
   refine gC<|wq<|qg H λmV H=>gg H λBc OD H=>nc [(b1,3,[bO bA O.ai.length bX]),(uh,0,[Z (J l8 0).J]),(dR bA,kz bA+(J l8 0).J.toNat*5,gP (J O.ai (J l8 0).J.toNat)),(uh,1,[Z (J l8 0).state])] [0,2,4,7] 11 h (λh=>⟨⟨(h.pick 2).cell 3 rfl,bU⟩,⟨(h.pick 1).cell 0 rfl,bU⟩,⟨cE.cell mV (h.dn 4) 0 rfl,cE.cell mV (h.dn 4) 1 rfl,cE.cell mV (h.dn 4) 2 rfl,cE.cell mV (h.dn 4) 3 rfl,cE.cell mV (h.dn 4) 4 rfl,bU⟩,⟨(h.pick 1).cell 1 rfl,bU⟩,bU⟩) λw h hd =>nB hd 7 [(0,35,pA b1 3),(2,37,pA uh 0),(6,41,Z Y),(7,42,pA uh 1)]<|eR hd 0 6 1 rfl<|eR hd 1 5 3 rfl<|nZ hd 4 4 rfl (pA (dR bA) (kz bA+(J l8 0).J.toNat*5)) (λw=>HU 132 bX rfl rfl cE mV)<|xF hd 2 3 5 rfl rfl<|eR hd 3 2 8 rfl<|mh 9 rfl<|fe (HZ OD h :) λw h=>G<|mK<|iK 0 10 rfl (Z Bc)<|nk<|tn<|ks<|kM (h.pick 2)<|bS<|kL (h.pick 1) 0<|gg H λrB TG H=>Vy (H6 (bA:=bA) (bX:=bX) (cE:=(cx.up 4 cE)) (xp:=cx.up 4 xp) TG h :) λDK Gk w h=>ko [Z ((rB.length:Nat):Int),U]<|G<|qd2 H λo32 H adU=>λ_ r=>sk (λa w=>∃Wq:gF,∃Wr:Nat,∃Qa:List (aT×aT),∃Gg:List aT,(Qa,Gg)=o32/\∃j,mF 73 (lk [(1,Z Y),(2,.func (.func 149) #[] #[]),(3,pA b1 0),(8,.map (some b3)),(9,bO Wq Gg.length Wr)] j) a/\Fit z (aG (sn b1 O bA bX::mapOf dL dL b3 Qa::DC 221 2 dL (bO Wq Gg.length Wr) Gg::L)) w) ?_ ?_
   ·refine qq r<|wb<|λ_ r=>eD (β:=Nat) id (λm a w=>∃KJ:gF,∃MP:Nat,∃OB:List (aT×aT),∃OC:List aT,∃oD:Int,(jH K l8 Bc rB m OB OC oD)=some o32/\∃j,mF 73 (lk [(1,Z Y),(2,.func (.func 149) #[] #[]),(3,pA b1 0),(8,.map (some b3)),(9,bO KJ OC.length MP),(10,pA uh 0),(11,Z Bc),(48,bO DK rB.length Gk),(49,Z ((rB.length:Nat):Int)),(50,Z oD)] j) a/\Fit z (aG (sn b1 O bA bX::mapOf dL dL b3 OB::DC 221 2 dL (bO KJ OC.length MP) OC::P6 uh (J l8 0)::GI DK Gk rB::L)) w) K ⟨adS,adT,l5,(l8.drop 1),0,H,r.fj (h.se 5 [3,4,1,2,0])⟩<|?_;clear h r H;rintro k2 a w ⟨KJ,MP,OB,OC,oD,H,j,r,h⟩;cases k2 with
    | zero=>exact absurd H (by simp[jH])
    | succ k2 =>
     rw[jH]at H;refine qq r<|aN [dm (oD<((rB.length:Nat):Int))]<|G<|wq<|dQ H (λXY H=>?_) λXY H=>?_
     ·refine gC<|wq<|wb<|ks<|qg H λLN H=>ki (h.pick 4) LN<|Aa (Z (J rB oD.toNat)) ((h.pick 4).cU aL (f:=0) (bp LN) rfl)<|?_;refine bS<|G<|aN lI<|kN h (#[Z 0,Z 0]) 221 λb40 w h=>kA h (gS b40 #[Z (J rB oD.toNat),Z Bc] 221) λw h=>G<|wq<|aN [U]<|kM h<|λ_ r=>Wc (et:=221) (wn rfl) rfl rfl r rfl aY (⟨(J rB oD.toNat),Bc⟩:aT) aY aY KH (v0:=yO) aY (h.pick 2)<|?_;refine ko [.tuple #[wU ((yj OB (⟨(J rB oD.toNat),Bc⟩:aT)).getD yO),vB (yj OB (⟨(J rB oD.toNat),Bc⟩:aT)).isSome],U,U]<|kN h (#[Z 0,Z 0]) 221 λb41 w h=>kA h (P6 b41 ((yj OB (⟨(J rB oD.toNat),Bc⟩:aT)).getD yO)) λw h=>bS<|G<|iv<|FZ H (λMU H=>?_) λMU H=>?_
      ·refine wx<|te<|bh<|tn<|wl<|ko [Z (wi (oD+1)),Z (wi (oD+1))]<|G<|?_;exact λ_ r=>⟨_,⟨KJ,MP,OB,OC,(wi (oD+1)),H,r.fj (h.se 7 [2,3,4,5,6])⟩,jG _⟩
      refine gC<|aN [U]<|kM (h.pick 1)<|kM (h.pick 5)<|qh h.m3 λh=>qg H λRq H=>λ_ r=>Tq (t:=218) (et:=221) (wn rfl) rfl r (Or.inl rfl) aY (⟨(J rB oD.toNat),Bc⟩:aT) (J l8 0) aY aY aY KH Rq h λw h=>qq r<|G<|wl<|bS<|kM (h.pick 2)<|kV h (#[Z (J rB oD.toNat),Z Bc]) 221 λQb w h=>qh h.m5 λh=>qg H λWs H=>λ_ r=>MF (n0:=OC.length) (c:=1) (bytes:=16) (wn rfl) rfl rfl r rfl aY aY oB (E:=221) (xs:=OC) aY aY h (news:=[(⟨(J rB oD.toNat),Bc⟩:aT)]) (m:=1) rfl ((h.pick 1).news rfl) Ws rfl λadV adW w _ h r=>qq r<|bS<|kl<|bn<|tn<|wl<|ko [Z (wi (oD+1)),Z (wi (oD+1))]<|G<|?_;exact λ_ r=>⟨_,⟨adV,adW,(OB++[((⟨(J rB oD.toNat),Bc⟩:aT),J l8 0)]),(OC++[(⟨(J rB oD.toNat),Bc⟩:aT)]),(wi (oD+1)),H,r.fj (h.se 8 [5,2,0,6,7])⟩,jG _⟩
     refine wx<|te<|te<|bh<|tn<|?_;exact λ_ r=>⟨KJ,MP,OB,OC,gN H,r.fj (h.se 5 [0,1,2])⟩
   clear h r;rintro a w ⟨Wq,Wr,Qa,Gg,rfl,j,r,h⟩;replace H:=kk2 adU;refine qq r<|bn<|tn<|?_;exact λ_ r=>⟨_,⟨Wq,Wr,Qa,Gg,H,r.fj h⟩,jG _⟩
  refine wx<|te<|te<|bh<|tn<|aN dk<|cr<|λ_ r=>Tn<|qq r<|?_;cases H;exact xy1 b3 (h.se 3 [1])
def pq(K:Nat)(O:aD):Nat->(List (List Int))->Int->Option ((List (List Int)))
 | 0,_,_=>none
 | k1+1,l7,g8=>(if g8<(((List.replicate O.ai.length ([]:List Int)).length:Nat):Int)then if 0<=O.bP/\O.bP*8<=140737488355328 then if bM g8 l7.length then(pq K O k1 (l7.set g8.toNat (List.replicate O.bP.toNat (0:Int))) (wi (g8+1)))else none else none else some l7)
def pB(K:Nat)(sM:Int)(xq:(aT×aT)):(List (List Int))->Option ((List (List Int)))
 | GL=>if bM xq.1.J GL.length then if bM sM (J GL xq.1.J.toNat).length then some (GL.set xq.1.J.toNat ((J GL xq.1.J.toNat).set sM.toNat (Of (J (J GL xq.1.J.toNat) sM.toNat) xq.1.state)))else none else none
def pC(K:Nat)(O:aD):Nat->(List (List Int))->Int->Option ((List (List Int)))
 | 0,_,_=>none
 | k2+1,VC,sM=>(if sM<O.bP then eA (eA (rD K O sM) (λrB=>(eA (wo (pB K sM) VC rB) (λGL=>some GL)))) (λzh=>(pC K O k2 zh (wi (sM+1))))else some VC)
def wD(K:Nat)(O:aD):Option ((List (List Int))):=
 if 0<=((O.ai.length:Nat):Int)/\((O.ai.length:Nat):Int)*24<=140737488355328 then eA ((pq K O K (List.replicate O.ai.length ([]:List Int)) 0)) (λl4=>(pC K O K l4 0))else none
theorem Cd(H:wD K O=some r0)(h:iV z (L) w)(cE:cx L 5 cS bA O.ai)(xp:cx L 5 iu (some ⟨1,0,none⟩) yy) :
 Calls Tryz.prog 124 #[pe #[Z O.aS,Z O.cZ,Z O.bP,bO bA O.ai.length bX]] w λe w=>∃y1 y2,e=.returned (bO y1 r0.length y2)/\Fit z (aG (KD y1 y2 r0::L)) w:=by
 unfold wD at H;refine ke Tryz.func124 50 rfl λj=>ks<|kN h (#[Z O.aS,Z O.cZ,Z O.bP,bO bA O.ai.length bX]) 85 λb1 w h=>bS<|G<|aN [U]<|kL h 3<|qg H λc2 H=>ko [Z ((O.ai.length:Nat):Int)]<|λ_ r=>Ei (own:=jS) (i:=((O.ai.length:Nat):Int)) (bytes:=24) (zc:=#[bO none 0 0]) ([]:List Int) (wn rfl) rfl rfl r rfl aY aY c2 rfl (by simp[Value.oneCell']) dO (E:=28) aY aY rfl (λh=>iQ (x:=([]:List Int)) (uD:=none) (uE:=0) (h.kR)) h λlH w _ h r=>qq r<|bS<|G<|HM H λo6 H hK5=>λ_ r=>dz (β:=Unit) (λ_ a w=>∃l4:List (List Int),l4=o6/\∃j,mF 50 (lk [(1,pA b1 0),(3,bO lH (List.replicate O.ai.length ([]:List Int)).length O.ai.length)] j) a/\Fit z (aG (sn b1 O bA bX::vu 28 1 jS (bO lH (List.replicate O.ai.length ([]:List Int)).length O.ai.length) l4::L)) w) ?_ ?_
 ·refine qq r<|aN [U,Z (((List.replicate O.ai.length ([]:List Int)).length:Nat):Int),U]<|G<|wb<|λ_ r=>eD (β:=Nat) id (λm a w=>∃l7:List (List Int),∃g8:Int,(pq K O m l7 g8)=some o6/\∃j,mF 50 (lk [(1,pA b1 0),(3,bO lH (List.replicate O.ai.length ([]:List Int)).length O.ai.length),(12,Z (((List.replicate O.ai.length ([]:List Int)).length:Nat):Int)),(13,Z g8)] j) a/\Fit z (aG (sn b1 O bA bX::vu 28 1 jS (bO lH (List.replicate O.ai.length ([]:List Int)).length O.ai.length) l7::L)) w) K ⟨(List.replicate O.ai.length ([]:List Int)),0,H,r.fj (h.se 2 [1,0])⟩<|?_;clear h r H;rintro k1 a w ⟨l7,g8,H,j,r,h⟩;cases k1 with
  | zero=>exact absurd H (by simp[pq])
  | succ k1 =>
   rw[pq]at H;refine qq r<|aN [dm (g8<(((List.replicate O.ai.length ([]:List Int)).length:Nat):Int))]<|G<|wq<|dQ H (λc9 H=>?_) λc9 H=>?_
   ·refine gC<|wq<|wb<|aN dk<|G<|wl<|ko lI<|kL h 2<|qg H λqR H=>λ_ r=>uL (i:=O.bP) (bytes:=8) (zc:=#[Z 0]) (0:Int) (wn rfl) rfl rfl r rfl aY aY qR aL (E:=3) aY aY rfl rfl h λaW w _ h r=>qq r<|qg H λDI H=>kp (nI lH g8 1) (GG (k:=.i64) (E:=28) rfl aY aY aY aY (h.pick 2) DI)<|?_;obtain⟨afy,h⟩:=h.m2.oS (bp DI);obtain⟨tB,ug,I9,h⟩:=nU (h.m1);subst I9;refine qh h.m1 λh=>λ_ r=>Dc (wn rfl) rfl r rfl aY aY (v:=bO aW (List.replicate O.bP.toNat (0:Int)).length O.bP.toNat) rfl rfl aY aY h (i:=g8.toNat) (f:=0) dO λw h=>qq r<|kl<|bn<|tn<|wl<|ko [Z (wi (g8+1)),Z (wi (g8+1))]<|G<|qh h.m2 λh=>?_;replace h:=iQ (x:=(List.replicate O.bP.toNat (0:Int))) h;replace h:=(h.m1).zy;exact λ_ r=>⟨_,⟨(l7.set g8.toNat (List.replicate O.bP.toNat (0:Int))),(wi (g8+1)),H,r.fj (h.se 3 [2,0])⟩,jG _⟩
   refine wx<|te<|te<|bh<|tn<|?_;exact λ_ r=>⟨(),l7,gN H,r.fj h⟩
 clear h r;rintro _ a w ⟨l4,rfl,j,r,h⟩;replace H:=Hw hK5;refine qq r<|wq<|aN [U]<|kL h 2<|bS<|G<|wb<|λ_ r=>eD (β:=Nat) id (λm a w=>∃VC:List (List Int),∃sM:Int,(pC K O m VC sM)=some r0/\∃j,mF 50 (lk [(1,pA b1 0),(3,bO lH (List.replicate O.ai.length ([]:List Int)).length O.ai.length),(24,Z O.bP),(25,Z sM)] j) a/\Fit z (aG (sn b1 O bA bX::vu 28 1 jS (bO lH (List.replicate O.ai.length ([]:List Int)).length O.ai.length) VC::L)) w) K ⟨l4,0,H,r.fj h⟩<|?_;clear h r H;rintro k2 a w ⟨VC,sM,H,j,r,h⟩;cases k2 with
 | zero=>exact absurd H (by simp[pC])
 | succ k2 =>
  rw[pC]at H;refine qq r<|aN [dm (sM<O.bP)]<|G<|wq<|dQ H (λuT H=>?_) λuT H=>?_
  ·refine gC<|HM H λo22 H adX=>λ_ r=>dz (β:=Unit) (λ_ a w=>∃zh:List (List Int),zh=o22/\∃j,mF 50 (lk [(1,pA b1 0),(3,bO lH (List.replicate O.ai.length ([]:List Int)).length O.ai.length),(24,Z O.bP),(25,Z sM)] j) a/\Fit z (aG (sn b1 O bA bX::vu 28 1 jS (bO lH (List.replicate O.ai.length ([]:List Int)).length O.ai.length) zh::L)) w) ?_ ?_
   ·refine qq r<|wb<|aN dk<|G<|ks<|kM h<|gg H λrB TG H=>bS<|xc1 (CO (bA:=bA) (bX:=bX) (cE:=(cx.up 2 cE)) (xp:=cx.up 2 xp) TG h :) λabE w h=>λ_ r=>Ts (kt:=221) (et:=221) (wn rfl) rfl rfl r rfl aY aY h λb26 w _ h r=>qq r<|G<|wb<|gg H λTP Qc H=>λ_ r=>Oj rB (pB K sM) VC (λabF s_ a w=>∃GL:List (List Int),GL=s_/\∃j,mF 50 (lk [(1,pA b1 0),(3,bO lH (List.replicate O.ai.length ([]:List Int)).length O.ai.length),(5,Z sM),(24,Z O.bP),(25,Z sM),(31,pA b26 0)] j) a/\Fit z (aG (sn b1 O bA bX::vu 28 1 jS (bO lH (List.replicate O.ai.length ([]:List Int)).length O.ai.length) GL::HJ b26 abE rB.length abF::mapOf dL dL abE rB::L)) w) ⟨VC,rfl,r.fj (h.se 4 [2,3,0,1])⟩<|?_;clear h r;rintro abF _ a w hs_ ⟨GL,rfl,j,r,h⟩;refine qq r<|ks<|qh h.m3.m3 λh=>λ_ r=>Wd (wn rfl) rfl rfl r rfl aY rfl h ?_ ?_
    ·clear r;intro abG a r;have e_:=hs_.done Qc abG;subst e_;refine qq r<|bS<|G<|wq<|λ_ r=>jb r (b:=false) rfl<|qq r<|wx<|te<|te<|bh<|bn<|tn<|?_;exact λ_ r=>⟨(),GL,gN H,r.fj (h.se 4 [2,3])⟩
    clear r h;intro afz xq w a hx_ hi_ h r;obtain⟨s1_,Hs_,hp_⟩:=hs_.push Qc hx_ hi_;clear H;have H:=Hs_;rw[pB]at H;refine qq r<|bS<|G<|wq<|λ_ r=>hJ r (b:=true) rfl<|qq r<|gC<|wb<|ks<|λ_ r=>Tt (wn rfl) rfl rfl r rfl aY rfl h hx_<|?_;refine bS<|kN h (#[Z 0,Z 0]) 221 λKM w h=>kA h (P6 KM xq.1) λw h=>G<|qg H λEr H=>?_;obtain⟨afA,h⟩:=h.m4.oS (bp Er);obtain⟨TQ,abH,Ov,h⟩:=nU (h.m1);subst Ov;refine qg H λLN H=>nc [(KM,0,[Z xq.1.J]),(dR lH,xq.1.J.toNat*1,[bO TQ (J GL xq.1.J.toNat).length abH]),(dR TQ,sM.toNat*1,[Z (J (J GL xq.1.J.toNat) sM.toNat)]),(KM,1,[Z xq.1.state])] [1,3,6,8] 13 h (λh=>⟨⟨(h.pick 2).cell 0 rfl,bU⟩,⟨(h.pick 1).rq dO (f:=0) rfl,bU⟩,⟨h.cU aL (f:=0) (bp LN) rfl,bU⟩,⟨(h.pick 2).cell 1 rfl,bU⟩,bU⟩) λw h hd =>nB hd 9 [(0,36,bO lH (List.replicate O.ai.length ([]:List Int)).length O.ai.length),(1,37,pA KM 0),(5,41,Z sM),(8,44,pA KM 1)]<|eR hd 0 8 2 rfl<|nZ hd 7 3 rfl (pA (dR lH) (xq.1.J.toNat*1)) (λw=>xn (k:=.i64) (E:=28) rfl aY aY aY aY (h.pick 1) Er)<|eR hd 1 6 4 rfl<|nZ hd 5 6 rfl (nI TQ sM 1) (λw=>xS 3 rfl h LN)<|eR hd 2 4 7 rfl<|eR hd 3 3 9 rfl<|nZ hd 2 10 rfl (Z (Of (J (J GL xq.1.J.toNat) sM.toNat) xq.1.state)) (λw=>ror rfl aY aY)<|nZ hd 1 11 rfl (nI TQ sM 1) (λw=>xS 3 rfl h LN)<|λ_ r=>lQ 12 rfl<|Kt (wn rfl) r aL h sM.toNat 0 (Z (Of (J (J GL xq.1.J.toNat) sM.toNat) xq.1.state)) (J (J GL xq.1.J.toNat) sM.toNat) (Of (J (J GL xq.1.J.toNat) sM.toNat) xq.1.state) (bp LN) λw h=>qq r<|G<|mK<|nk<|bn<|tn<|?_;replace h:=h.Ku (λq_=>BS 28 1 jS (bO lH (List.replicate O.ai.length ([]:List Int)).length O.ai.length) GL xq.1.J.toNat [bO TQ q_ abH]);replace h:=iQ (x:=((J GL xq.1.J.toNat).set sM.toNat (Of (J (J GL xq.1.J.toNat) sM.toNat) xq.1.state))) h;replace h:=(h.m1).zy;exact λ_ r=>⟨_,_,hp_,(GL.set xq.1.J.toNat ((J GL xq.1.J.toNat).set sM.toNat (Of (J (J GL xq.1.J.toNat) sM.toNat) xq.1.state))),gN H,r.fj (h.se 5 [4,0,2,3])⟩
   clear h r;rintro _ a w ⟨zh,rfl,j,r,h⟩;replace H:=Hw adX;refine qq r<|wl<|ko [Z (wi (sM+1)),Z (wi (sM+1))]<|G<|?_;exact λ_ r=>⟨_,⟨zh,(wi (sM+1)),H,r.fj h⟩,jG _⟩
  refine wx<|te<|te<|bh<|tn<|aN dk<|cr<|λ_ r=>sX (bO lH (List.replicate O.ai.length ([]:List Int)).length O.ai.length) rfl r<|qh h.m1 λh=>?_;have TM:(List.replicate O.ai.length ([]:List Int)).length=VC.length:=h.Od;replace h:=Fit.I2 TM (λq_=>vu 28 1 jS (bO lH q_ O.ai.length) VC) h;cases H;exact⟨lH,O.ai.length,(by first | rfl | simp only[TM]),h.se 2 [0]⟩
def jy(K:Nat)(r2:List (List Int))(g6:Int):Nat->Int->Int->Option (Int)
 | 0,_,_=>none
 | k2+1,oD,CP=>(if CP<(((J r2 g6.toNat).length:Nat):Int)then if bM CP (J r2 g6.toNat).length then(if(iq (J (J r2 g6.toNat) CP.toNat) (2:Int))=0 then(jy K r2 g6 k2 oD (wi (CP+1)))else(jy K r2 g6 k2 56 (wi (CP+1))))else none else some oD)
def lR(K:Nat)(O:Int)(Y:aD)(r2:List (List Int)):Nat->Int->Option ((Unit)⊕nK)
 | 0,_=>none
 | k1+1,g6=>(if g6<((Y.ai.length:Nat):Int)then Ag (if bM g6 Y.ai.length then eA ((if(J Y.ai g6.toNat).aP=5 then if bM g6 r2.length then if bM (J Y.ai g6.toNat).A (J r2 g6.toNat).length then(if(iq (J (J r2 g6.toNat) (J Y.ai g6.toNat).A.toNat) (2:Int))=0 then some 0 else some 54)else none else none else(if(J Y.ai g6.toNat).aP=7 then if bM g6 r2.length then if bM (J Y.ai g6.toNat).B (J r2 g6.toNat).length then(if(iq (J (J r2 g6.toNat) (J Y.ai g6.toNat).B.toNat) (3:Int))=0 then some 0 else some 55)else none else none else(if(J Y.ai g6.toNat).aP=9 then if bM g6 r2.length then(jy K r2 g6 K 0 0)else none else some 0)))) (λQd=>(if Qd=0 then some (.inl ())else some (.inr (.inr (⟨Qd,O,g6⟩:nK)))))else none) ((lR K O Y r2 k1 (wi (g6+1))))else some (.inl ()))
def vP(K:Nat)(O:Int)(Y:aD):Option ((Unit)⊕nK):=
 eA (wD K Y) (λr2=>(lR K O Y r2 K 0))
abbrev u6_:List Value:=[U,U,U,U,U,U]
theorem H7{K:Nat}{O:Int}{Y:aD}{cX:gF}{de:Nat}(H:vP K O Y=some (.inl ()))(h:iV z (L) w)(eT:cx L 5 cS cX Y.ai)(xp:cx L 5 iu (some ⟨1,0,none⟩) yy) :
 nM 90 #[Z O,pe #[Z Y.aS,Z Y.cZ,Z Y.bP,bO cX Y.ai.length de]] w z (.tuple #[]) (L):=by
 unfold vP at H;refine ke Tryz.func90 70 rfl λj=>ks<|kN h (#[Z Y.aS,Z Y.cZ,Z Y.bP,bO cX Y.ai.length de]) 85 λb1 w h=>G<|ks<|kM h<|gg H λr2 e3 H=>Vy (Cd (bA:=cX) (bX:=de) (cE:=(cx.up 1 eT)) (xp:=cx.up 1 xp) e3 h :) λx4 x5 w h=>bS<|G<|aN [U]<|kL (h.pick 1) 3<|ko [Z ((Y.ai.length:Nat):Int),U]<|G<|wb<|λ_ r=>eD (β:=Nat) id (λm a w=>∃g6:Int,(lR K O Y r2 m g6)=some (.inl ())/\∃j,mF 70 (lk [(0,Z O),(4,bO x4 r2.length x5),(13,bO cX Y.ai.length de),(14,Z ((Y.ai.length:Nat):Int)),(15,Z g6)] j) a/\Fit z (aG (KD x4 x5 r2::L)) w) K ⟨0,H,r.fj (h.se 2 [0])⟩<|?_;clear h r H;rintro k1 a w ⟨g6,H,j,r,h⟩;cases k1 with
 | zero=>exact absurd H (by simp[lR])
 | succ k1 =>
  rw[lR]at H;refine qq r<|aN [dm (g6<((Y.ai.length:Nat):Int))]<|G<|wq<|dQ H (λc7 H=>?_) λc7 H=>?_
  ·refine gC<|?_;obtain⟨o9,H,Wk⟩:=F8 H;refine λ_ r=>dz (β:=Unit) (λ_ a w=>.inl ()=o9/\∃j,mF 70 (lk [(0,Z O),(4,bO x4 r2.length x5),(13,bO cX Y.ai.length de),(14,Z ((Y.ai.length:Nat):Int)),(15,Z g6)] j) a/\Fit z (aG (KD x4 x5 r2::L)) w) ?_ ?_
   ·refine qq r<|wb<|ks<|qg H λqR H=>bS<|kj 132 de eT qR<|xG (gQ (J Y.ai g6.toNat)) (cs:=gP (J Y.ai g6.toNat)) ⟨eT.cell qR (h.dn 1) 0 rfl,eT.cell qR (h.dn 1) 1 rfl,eT.cell qR (h.dn 1) 2 rfl,eT.cell qR (h.dn 1) 3 rfl,eT.cell qR (h.dn 1) 4 rfl,bU⟩<|?_;refine kN h (CH) 132 λOu w h=>bS<|kA h (vA Ou (J Y.ai g6.toNat)) λw h=>G<|iv<|HM H λo14 H Y8=>λ_ r=>dz (β:=Unit) (λ_ a w=>∃Qd:Int,Qd=o14/\∃j,mF 70 (lk [(0,Z O),(4,bO x4 r2.length x5),(5,Z g6),(7,Z Qd),(13,bO cX Y.ai.length de),(14,Z ((Y.ai.length:Nat):Int)),(15,Z g6)] j) a/\Fit z (aG (KD x4 x5 r2::L)) w) ?_ ?_
    ·refine qq r<|aN [U]<|kL h 0<|G<|wb<|aN [vB ((J Y.ai g6.toNat).aP==5),vB ((J Y.ai g6.toNat).aP==5)]<|G<|dQ H (λpR H=>?_) λpR H=>?_
     ·refine wq<|qg H λuS H=>?_;obtain⟨abI,h⟩:=h.m1.oS (bp uS);obtain⟨Fo,OE,Oq,h⟩:=nU (h.m1);subst Oq;refine qg H λsq H=>nc [(dR x4,g6.toNat*1,[bO Fo (J r2 g6.toNat).length OE]),(Ou,1,[Z (J Y.ai g6.toNat).A]),(dR Fo,(J Y.ai g6.toNat).A.toNat*1,[Z (J (J r2 g6.toNat) (J Y.ai g6.toNat).A.toNat)])] [2,4,6] 10 h (λh=>⟨⟨(h.pick 1).rq dO (f:=0) rfl,bU⟩,⟨(h.pick 2).cell 1 rfl,bU⟩,⟨h.cU aL (f:=0) (bp sq) rfl,bU⟩,bU⟩) λw h hd =>nB hd 8 [(0,24,bO x4 r2.length x5),(1,25,Z g6)]<|nZ hd 7 2 rfl (nI x4 g6 1) (λw=>xn (k:=.i64) (E:=28) rfl aY aY aY aY (h.pick 1) uS)<|nB hd 6 [(4,28,pA Ou 1)]<|eR hd 0 5 3 rfl<|eR hd 1 4 5 rfl<|nZ hd 3 6 rfl (pA (dR Fo) ((J Y.ai g6.toNat).A.toNat*1)) (λw=>xS 3 rfl h sq)<|eR hd 2 2 7 rfl<|nZ hd 1 8 rfl (Z (iq (J (J r2 g6.toNat) (J Y.ai g6.toNat).A.toNat) (2:Int))) (λw=>rand rfl aY aY)<|nB hd 0 [(9,33,vB ((iq (J (J r2 g6.toNat) (J Y.ai g6.toNat).A.toNat) (2:Int)) != 0))]<|nk<|tn<|rU H (λFj H=>?_) λFj H=>?_
      ·refine wk<|bn<|tn<|?_;replace h:=iQ (x:=(J r2 g6.toNat)) h;replace h:=(h.m1).iE;exact λ_ r=>⟨(),0,gN H,r.fj (h.se 2 [0])⟩
      refine wl<|bS<|kl<|bn<|tn<|?_;replace h:=iQ (x:=(J r2 g6.toNat)) h;replace h:=(h.m1).iE;exact λ_ r=>⟨(),54,gN H,r.fj (h.se 2 [0])⟩
     refine aN [vB ((J Y.ai g6.toNat).aP==7),vB ((J Y.ai g6.toNat).aP==7)]<|G<|dQ H (λAs H=>?_) λAs H=>?_
     ·refine wq<|qg H λAb H=>?_;obtain⟨adY,h⟩:=h.m1.oS (bp Ab);obtain⟨zG,CK,Ro,h⟩:=nU (h.m1);subst Ro;refine qg H λAo H=>nc [(dR x4,g6.toNat*1,[bO zG (J r2 g6.toNat).length CK]),(Ou,2,[Z (J Y.ai g6.toNat).B]),(dR zG,(J Y.ai g6.toNat).B.toNat*1,[Z (J (J r2 g6.toNat) (J Y.ai g6.toNat).B.toNat)])] [2,4,6] 10 h (λh=>⟨⟨(h.pick 1).rq dO (f:=0) rfl,bU⟩,⟨(h.pick 2).cell 2 rfl,bU⟩,⟨h.cU aL (f:=0) (bp Ao) rfl,bU⟩,bU⟩) λw h hd =>nB hd 8 [(0,36,bO x4 r2.length x5),(1,37,Z g6)]<|nZ hd 7 2 rfl (nI x4 g6 1) (λw=>xn (k:=.i64) (E:=28) rfl aY aY aY aY (h.pick 1) Ab)<|nB hd 6 [(4,40,pA Ou 2)]<|eR hd 0 5 3 rfl<|eR hd 1 4 5 rfl<|nZ hd 3 6 rfl (pA (dR zG) ((J Y.ai g6.toNat).B.toNat*1)) (λw=>xS 3 rfl h Ao)<|eR hd 2 2 7 rfl<|nZ hd 1 8 rfl (Z (iq (J (J r2 g6.toNat) (J Y.ai g6.toNat).B.toNat) (3:Int))) (λw=>rand rfl aY aY)<|nB hd 0 [(9,45,vB ((iq (J (J r2 g6.toNat) (J Y.ai g6.toNat).B.toNat) (3:Int)) != 0))]<|nk<|tn<|rU H (λuU H=>?_) λuU H=>?_
      ·refine wk<|bn<|tn<|?_;replace h:=iQ (x:=(J r2 g6.toNat)) h;replace h:=(h.m1).iE;exact λ_ r=>⟨(),0,gN H,r.fj (h.se 2 [0])⟩
      refine wl<|bS<|kl<|bn<|tn<|?_;replace h:=iQ (x:=(J r2 g6.toNat)) h;replace h:=(h.m1).iE;exact λ_ r=>⟨(),55,gN H,r.fj (h.se 2 [0])⟩
     refine aN [vB ((J Y.ai g6.toNat).aP==9),vB ((J Y.ai g6.toNat).aP==9)]<|G<|dQ H (λzH H=>?_) λzH H=>?_
     ·refine ks<|qg H λE3 H=>ko dk<|kp (nI x4 g6 1) (GG (k:=.i64) (E:=28) rfl aY aY aY aY (h.pick 1) E3)<|?_;obtain⟨adZ,h⟩:=h.m1.oS (bp E3);obtain⟨KN,KO,KI,h⟩:=nU (h.m1);subst KI;refine Aa (bO KN (J r2 g6.toNat).length KO) ((h.pick 1).rq dO (f:=0) rfl)<|?_;refine ko [Z (((J r2 g6.toNat).length:Nat):Int),U]<|G<|wb<|λ_ r=>eD (β:=Nat) id (λm a w=>∃oD:Int,∃CP:Int,(jy K r2 g6 m oD CP)=some o14/\∃j,mF 70 (lk [(0,Z O),(4,bO x4 r2.length x5),(5,Z g6),(7,Z oD),(13,bO cX Y.ai.length de),(14,Z ((Y.ai.length:Nat):Int)),(15,Z g6),(51,bO KN (J r2 g6.toNat).length KO),(52,Z (((J r2 g6.toNat).length:Nat):Int)),(53,Z CP)] j) a/\Fit z (aG (BS 28 1 jS (bO x4 r2.length x5) r2 g6.toNat [bO KN (J r2 g6.toNat).length KO]::GI KN KO (J r2 g6.toNat)::L)) w) K ⟨0,0,H,r.fj (h.se 3 [1,0])⟩<|?_;clear h r H;rintro k2 a w ⟨oD,CP,H,j,r,h⟩;cases k2 with
      | zero=>exact absurd H (by simp[jy])
      | succ k2 =>
       rw[jy]at H;refine qq r<|aN [dm (CP<(((J r2 g6.toNat).length:Nat):Int))]<|G<|wq<|dQ H (λLN H=>?_) λLN H=>?_
       ·refine gC<|wq<|wb<|ks<|qg H λWt H=>ki (h.pick 1) Wt<|Aa (Z (J (J r2 g6.toNat) CP.toNat)) ((h.pick 1).cU aL (f:=0) (bp Wt) rfl)<|?_;refine bS<|G<|aN [U]<|kp (Z (iq (J (J r2 g6.toNat) CP.toNat) (2:Int))) (rand rfl aY aY)<|ko [vB ((iq (J (J r2 g6.toNat) CP.toNat) (2:Int)) != 0)]<|G<|rU H (λLP H=>?_) λLP H=>?_
        ·refine wk<|bn<|tn<|wl<|ko [Z (wi (CP+1)),Z (wi (CP+1))]<|G<|?_;exact λ_ r=>⟨_,⟨oD,(wi (CP+1)),H,r.fj h⟩,jG _⟩
        refine wl<|bS<|kl<|bn<|tn<|wl<|ko [Z (wi (CP+1)),Z (wi (CP+1))]<|G<|?_;exact λ_ r=>⟨_,⟨56,(wi (CP+1)),H,r.fj h⟩,jG _⟩
       refine wx<|te<|te<|bh<|bn<|tn<|qh h.m1 λh=>?_;replace h:=iQ (x:=(J r2 g6.toNat)) h;replace h:=(h.m1).iE;exact λ_ r=>⟨(),oD,gN H,r.fj h⟩
     refine wk<|bn<|tn<|?_;exact λ_ r=>⟨(),0,gN H,r.fj (h.se 2 [1])⟩
    clear h r;rintro _ a w ⟨Qd,rfl,j,r,h⟩;replace H:=Hw Y8;refine qq r<|aN [U,vB (Qd != 0)]<|G<|rU H (λMU H=>?_) λMU H=>?_
    ·refine wk<|bn<|tn<|?_;exact λ_ r=>⟨(),gN H,r.fj h⟩
    refine wl<|ko u6_<|λ_ r=>Fe (wn rfl) r rfl (T:=171) (u:=pe #[Z Qd,Z O,Z g6]) aY<|ux<|oA<|oA<|ux<|Cx r<|?_;replace H:=xm H Wk;cases H
   clear h r;rintro _ a w ⟨rfl,j,r,h⟩;replace H:=F9 Wk;refine qq r<|wl<|ko [Z (wi (g6+1)),Z (wi (g6+1))]<|G<|?_;exact λ_ r=>⟨_,⟨(wi (g6+1)),H,r.fj h⟩,jG _⟩
  refine wx<|te<|te<|bh<|?_;cases H;exact HN (h.se 1 [])
theorem H8{K:Nat}{O:Int}{Y:aD}{cX:gF}{de:Nat}{rP:nK}(H:vP K O Y=some (.inr rP))(h:iV z (L) w)(eT:cx L 5 cS cX Y.ai)(xp:cx L 5 iu (some ⟨1,0,none⟩) yy) :
 Calls Tryz.prog 90 #[Z O,pe #[Z Y.aS,Z Y.cZ,Z Y.bP,bO cX Y.ai.length de]] w λe w=>e=.panicked [{v:=if_ 171 (AY rP),recovered:=false}]/\Fit z (aG (L)) w:=by
 unfold vP at H;refine ke Tryz.func90 70 rfl λj=>ks<|kN h (#[Z Y.aS,Z Y.cZ,Z Y.bP,bO cX Y.ai.length de]) 85 λb1 w h=>G<|ks<|kM h<|gg H λr2 e3 H=>Vy (Cd (bA:=cX) (bX:=de) (cE:=(cx.up 1 eT)) (xp:=cx.up 1 xp) e3 h :) λx4 x5 w h=>bS<|G<|aN [U]<|kL (h.pick 1) 3<|ko [Z ((Y.ai.length:Nat):Int),U]<|G<|wb<|λ_ r=>eD (β:=Nat) id (λm a w=>∃g6:Int,(lR K O Y r2 m g6)=some (.inr rP)/\∃j,mF 70 (lk [(0,Z O),(4,bO x4 r2.length x5),(13,bO cX Y.ai.length de),(14,Z ((Y.ai.length:Nat):Int)),(15,Z g6)] j) a/\Fit z (aG (KD x4 x5 r2::L)) w) K ⟨0,H,r.fj (h.se 2 [0])⟩<|?_;clear h r H;rintro k1 a w ⟨g6,H,j,r,h⟩;cases k1 with
 | zero=>exact absurd H (by simp[lR])
 | succ k1 =>
  rw[lR]at H;refine qq r<|aN [dm (g6<((Y.ai.length:Nat):Int))]<|G<|wq<|dQ H (λc7 H=>?_) λc7 H=>?_
  ·refine gC<|?_;obtain⟨o9,H,Wk⟩:=F8 H;refine λ_ r=>dz (β:=Unit) (λ_ a w=>.inl ()=o9/\∃j,mF 70 (lk [(0,Z O),(4,bO x4 r2.length x5),(13,bO cX Y.ai.length de),(14,Z ((Y.ai.length:Nat):Int)),(15,Z g6)] j) a/\Fit z (aG (KD x4 x5 r2::L)) w) ?_ ?_
   ·refine qq r<|wb<|ks<|qg H λqR H=>bS<|kj 132 de eT qR<|xG (gQ (J Y.ai g6.toNat)) (cs:=gP (J Y.ai g6.toNat)) ⟨eT.cell qR (h.dn 1) 0 rfl,eT.cell qR (h.dn 1) 1 rfl,eT.cell qR (h.dn 1) 2 rfl,eT.cell qR (h.dn 1) 3 rfl,eT.cell qR (h.dn 1) 4 rfl,bU⟩<|?_;refine kN h (CH) 132 λOu w h=>bS<|kA h (vA Ou (J Y.ai g6.toNat)) λw h=>G<|iv<|HM H λo14 H Y8=>λ_ r=>dz (β:=Unit) (λ_ a w=>∃Qd:Int,Qd=o14/\∃j,mF 70 (lk [(0,Z O),(4,bO x4 r2.length x5),(5,Z g6),(7,Z Qd),(13,bO cX Y.ai.length de),(14,Z ((Y.ai.length:Nat):Int)),(15,Z g6)] j) a/\Fit z (aG (KD x4 x5 r2::L)) w) ?_ ?_
    ·refine qq r<|aN [U]<|kL h 0<|G<|wb<|aN [vB ((J Y.ai g6.toNat).aP==5),vB ((J Y.ai g6.toNat).aP==5)]<|G<|dQ H (λpR H=>?_) λpR H=>?_
     ·refine wq<|qg H λuS H=>?_;obtain⟨abI,h⟩:=h.m1.oS (bp uS);obtain⟨Fo,OE,Oq,h⟩:=nU (h.m1);subst Oq;refine qg H λsq H=>nc [(dR x4,g6.toNat*1,[bO Fo (J r2 g6.toNat).length OE]),(Ou,1,[Z (J Y.ai g6.toNat).A]),(dR Fo,(J Y.ai g6.toNat).A.toNat*1,[Z (J (J r2 g6.toNat) (J Y.ai g6.toNat).A.toNat)])] [2,4,6] 10 h (λh=>⟨⟨(h.pick 1).rq dO (f:=0) rfl,bU⟩,⟨(h.pick 2).cell 1 rfl,bU⟩,⟨h.cU aL (f:=0) (bp sq) rfl,bU⟩,bU⟩) λw h hd =>nB hd 8 [(0,24,bO x4 r2.length x5),(1,25,Z g6)]<|nZ hd 7 2 rfl (nI x4 g6 1) (λw=>xn (k:=.i64) (E:=28) rfl aY aY aY aY (h.pick 1) uS)<|nB hd 6 [(4,28,pA Ou 1)]<|eR hd 0 5 3 rfl<|eR hd 1 4 5 rfl<|nZ hd 3 6 rfl (pA (dR Fo) ((J Y.ai g6.toNat).A.toNat*1)) (λw=>xS 3 rfl h sq)<|eR hd 2 2 7 rfl<|nZ hd 1 8 rfl (Z (iq (J (J r2 g6.toNat) (J Y.ai g6.toNat).A.toNat) (2:Int))) (λw=>rand rfl aY aY)<|nB hd 0 [(9,33,vB ((iq (J (J r2 g6.toNat) (J Y.ai g6.toNat).A.toNat) (2:Int)) != 0))]<|nk<|tn<|rU H (λFj H=>?_) λFj H=>?_
      ·refine wk<|bn<|tn<|?_;replace h:=iQ (x:=(J r2 g6.toNat)) h;replace h:=(h.m1).iE;exact λ_ r=>⟨(),0,gN H,r.fj (h.se 2 [0])⟩
      refine wl<|bS<|kl<|bn<|tn<|?_;replace h:=iQ (x:=(J r2 g6.toNat)) h;replace h:=(h.m1).iE;exact λ_ r=>⟨(),54,gN H,r.fj (h.se 2 [0])⟩
     refine aN [vB ((J Y.ai g6.toNat).aP==7),vB ((J Y.ai g6.toNat).aP==7)]<|G<|dQ H (λAs H=>?_) λAs H=>?_
     ·refine wq<|qg H λAb H=>?_;obtain⟨adY,h⟩:=h.m1.oS (bp Ab);obtain⟨zG,CK,Ro,h⟩:=nU (h.m1);subst Ro;refine qg H λAo H=>nc [(dR x4,g6.toNat*1,[bO zG (J r2 g6.toNat).length CK]),(Ou,2,[Z (J Y.ai g6.toNat).B]),(dR zG,(J Y.ai g6.toNat).B.toNat*1,[Z (J (J r2 g6.toNat) (J Y.ai g6.toNat).B.toNat)])] [2,4,6] 10 h (λh=>⟨⟨(h.pick 1).rq dO (f:=0) rfl,bU⟩,⟨(h.pick 2).cell 2 rfl,bU⟩,⟨h.cU aL (f:=0) (bp Ao) rfl,bU⟩,bU⟩) λw h hd =>nB hd 8 [(0,36,bO x4 r2.length x5),(1,37,Z g6)]<|nZ hd 7 2 rfl (nI x4 g6 1) (λw=>xn (k:=.i64) (E:=28) rfl aY aY aY aY (h.pick 1) Ab)<|nB hd 6 [(4,40,pA Ou 2)]<|eR hd 0 5 3 rfl<|eR hd 1 4 5 rfl<|nZ hd 3 6 rfl (pA (dR zG) ((J Y.ai g6.toNat).B.toNat*1)) (λw=>xS 3 rfl h Ao)<|eR hd 2 2 7 rfl<|nZ hd 1 8 rfl (Z (iq (J (J r2 g6.toNat) (J Y.ai g6.toNat).B.toNat) (3:Int))) (λw=>rand rfl aY aY)<|nB hd 0 [(9,45,vB ((iq (J (J r2 g6.toNat) (J Y.ai g6.toNat).B.toNat) (3:Int)) != 0))]<|nk<|tn<|rU H (λuU H=>?_) λuU H=>?_
      ·refine wk<|bn<|tn<|?_;replace h:=iQ (x:=(J r2 g6.toNat)) h;replace h:=(h.m1).iE;exact λ_ r=>⟨(),0,gN H,r.fj (h.se 2 [0])⟩
      refine wl<|bS<|kl<|bn<|tn<|?_;replace h:=iQ (x:=(J r2 g6.toNat)) h;replace h:=(h.m1).iE;exact λ_ r=>⟨(),55,gN H,r.fj (h.se 2 [0])⟩
     refine aN [vB ((J Y.ai g6.toNat).aP==9),vB ((J Y.ai g6.toNat).aP==9)]<|G<|dQ H (λzH H=>?_) λzH H=>?_
     ·refine ks<|qg H λE3 H=>ko dk<|kp (nI x4 g6 1) (GG (k:=.i64) (E:=28) rfl aY aY aY aY (h.pick 1) E3)<|?_;obtain⟨adZ,h⟩:=h.m1.oS (bp E3);obtain⟨KN,KO,KI,h⟩:=nU (h.m1);subst KI;refine Aa (bO KN (J r2 g6.toNat).length KO) ((h.pick 1).rq dO (f:=0) rfl)<|?_;refine ko [Z (((J r2 g6.toNat).length:Nat):Int),U]<|G<|wb<|λ_ r=>eD (β:=Nat) id (λm a w=>∃oD:Int,∃CP:Int,(jy K r2 g6 m oD CP)=some o14/\∃j,mF 70 (lk [(0,Z O),(4,bO x4 r2.length x5),(5,Z g6),(7,Z oD),(13,bO cX Y.ai.length de),(14,Z ((Y.ai.length:Nat):Int)),(15,Z g6),(51,bO KN (J r2 g6.toNat).length KO),(52,Z (((J r2 g6.toNat).length:Nat):Int)),(53,Z CP)] j) a/\Fit z (aG (BS 28 1 jS (bO x4 r2.length x5) r2 g6.toNat [bO KN (J r2 g6.toNat).length KO]::GI KN KO (J r2 g6.toNat)::L)) w) K ⟨0,0,H,r.fj (h.se 3 [1,0])⟩<|?_;clear h r H;rintro k2 a w ⟨oD,CP,H,j,r,h⟩;cases k2 with
      | zero=>exact absurd H (by simp[jy])
      | succ k2 =>
       rw[jy]at H;refine qq r<|aN [dm (CP<(((J r2 g6.toNat).length:Nat):Int))]<|G<|wq<|dQ H (λLN H=>?_) λLN H=>?_
       ·refine gC<|wq<|wb<|ks<|qg H λWt H=>ki (h.pick 1) Wt<|Aa (Z (J (J r2 g6.toNat) CP.toNat)) ((h.pick 1).cU aL (f:=0) (bp Wt) rfl)<|?_;refine bS<|G<|aN [U]<|kp (Z (iq (J (J r2 g6.toNat) CP.toNat) (2:Int))) (rand rfl aY aY)<|ko [vB ((iq (J (J r2 g6.toNat) CP.toNat) (2:Int)) != 0)]<|G<|rU H (λLP H=>?_) λLP H=>?_
        ·refine wk<|bn<|tn<|wl<|ko [Z (wi (CP+1)),Z (wi (CP+1))]<|G<|?_;exact λ_ r=>⟨_,⟨oD,(wi (CP+1)),H,r.fj h⟩,jG _⟩
        refine wl<|bS<|kl<|bn<|tn<|wl<|ko [Z (wi (CP+1)),Z (wi (CP+1))]<|G<|?_;exact λ_ r=>⟨_,⟨56,(wi (CP+1)),H,r.fj h⟩,jG _⟩
       refine wx<|te<|te<|bh<|bn<|tn<|qh h.m1 λh=>?_;replace h:=iQ (x:=(J r2 g6.toNat)) h;replace h:=(h.m1).iE;exact λ_ r=>⟨(),oD,gN H,r.fj h⟩
     refine wk<|bn<|tn<|?_;exact λ_ r=>⟨(),0,gN H,r.fj (h.se 2 [1])⟩
    clear h r;rintro _ a w ⟨Qd,rfl,j,r,h⟩;replace H:=Hw Y8;refine qq r<|aN [U,vB (Qd != 0)]<|G<|rU H (λMU H=>?_) λMU H=>?_
    ·refine wk<|bn<|tn<|?_;exact λ_ r=>⟨(),gN H,r.fj h⟩
    refine wl<|ko u6_<|λ_ r=>Fe (wn rfl) r rfl (T:=171) (u:=pe #[Z Qd,Z O,Z g6]) aY<|ux<|oA<|oA<|ux<|Cx r<|?_;replace H:=xm H Wk;replace H:=ejR H;subst H;exact⟨rfl,h.se 1 []⟩
   clear h r;rintro _ a w ⟨rfl,j,r,h⟩;replace H:=F9 Wk;refine qq r<|wl<|ko [Z (wi (g6+1)),Z (wi (g6+1))]<|G<|?_;exact λ_ r=>⟨_,⟨(wi (g6+1)),H,r.fj h⟩,jG _⟩
  refine wx<|te<|te<|bh<|λ_ r=>qb rfl r<|?_;cases H
def oO(K:Nat)(O:aH):Nat->Int->Option ((Unit)⊕(eM))
 | 0,_=>none
 | k1+1,g9=>(if g9<((O.ah.length:Nat):Int)then if bM g9 O.ah.length then eA (u6 (J O.ah g9.toNat)) (λvQ=>(if vQ=true then(oO K O k1 (wi (g9+1)))else some (.inr (⟨51,g9,0⟩:eM))))else none else some (.inl ()))
def oP(K:Nat)(O:aH):Nat->Int->Option ((Unit)⊕(eM))
 | 0,_=>none
 | k2+1,sM=>(if sM<((O.ah.length:Nat):Int)then if bM sM O.ah.length then eA (n6 K sM (J O.ah sM.toNat) O.ah) (λLQ=>(match LQ with | .inl q24=>(oP K O k2 (wi (sM+1))) | .inr q25=>some (.inr (⟨q25.Ff,q25.DD,q25.HR⟩:eM))))else none else some (.inl ()))
def qO(K:Nat)(O:aH):Nat->Int->Option (eM)
 | 0,_=>none
 | k3+1,wE=>(if wE<((O.ah.length:Nat):Int)then if bM wE O.ah.length then eA (vP K wE (J O.ah wE.toNat)) (λBZ=>(match BZ with | .inl q32=>(qO K O k3 (wi (wE+1))) | .inr q33=>some (⟨q33.Ff,q33.DD,q33.HR⟩:eM)))else none else some (⟨0,0,0⟩:eM))
def xW(K:Nat)(O:aH):Option (eM):=
 Ag ((if((O.ah.length:Nat):Int)<1 then some (.inr (⟨50,0,0⟩:eM))else(if((O.ah.length:Nat):Int)>32 then some (.inr (⟨50,0,0⟩:eM))else some (.inl ())))) (Ag ((oO K O K 0)) (Ag ((oP K O K 0)) ((qO K O K 0))))
theorem Ja(H:xW K O=some r0)(h:iV z (L) w)(aR:Bk L aZ aI O.ah)(xp:cx L 5 iu (some ⟨1,0,none⟩) yy) :
 nM 55 #[pe #[bO aZ O.ah.length bH]] w z (BV r0) (L):=by
 unfold xW at H;refine YT Tryz.func55 rfl 62 rfl rfl [(0,pe #[bO aZ O.ah.length bH])] ⟨rfl,bU⟩ λj _ r=>qq r<|ks<|kN h (#[bO aZ O.ah.length bH]) 24 λb1 w h=>kN h (#[Z 0,Z 0,Z 0]) 81 λb2 w h=>G<|aN [U]<|λ_ r=>Tu (wn rfl) rfl r (q:={target:=.fn (.func 87) #[pA b2 0],args:=#[]}) aY<|?_;refine G<|?_;obtain⟨o4,H,Oy⟩:=F8 H;refine λ_ r=>dz (β:=Unit) (λ_ a w=>.inl ()=o4/\∃j,cP [MB b2] 62 (lk [(1,pA b1 0),(2,pA b2 0)] j) a/\Fit z (aG (gS b1 #[bO aZ O.ah.length bH] 24::gS b2 #[Z 0,Z 0,Z 0] 81::L)) w) ?_ ?_
 ·refine qq r<|aN [U]<|kL (h.pick 1) 0<|ko [Z ((O.ah.length:Nat):Int),dm (((O.ah.length:Nat):Int)<1),dm (((O.ah.length:Nat):Int)<1)]<|qI H (λc5 H=>?_) λc5 H=>?_
  ·refine cu (dT c5) [15,16,17,18]<|oM (dT c5) (vB true)<|G<|λ_ r=>hJ r (b:=true) rfl<|qq r<|aN [U]<|kA h (gS b2 #[Z 50,Z 0,Z 0] 81) λw h=>cr<|tr<|λ_ r=>Ak r rfl aY h<|?_;replace H:=xm H Oy;cases H;exact⟨rfl,h.se 2 []⟩
  refine cW (dF c5) [15] [pA b1 0]<|vL (dF c5) (h.pick 1) 0<|cW (dF c5) [17,18] [Z ((O.ah.length:Nat):Int),dm (((O.ah.length:Nat):Int)>32)]<|oG (dF c5) (dm (((O.ah.length:Nat):Int)>32))<|G<|dQ H (λc6 H=>?_) λc6 H=>?_
  ·refine aN [U]<|kA h (gS b2 #[Z 50,Z 0,Z 0] 81) λw h=>cr<|tr<|λ_ r=>Ak r rfl aY h<|?_;replace H:=xm H Oy;cases H;exact⟨rfl,h.se 2 []⟩
  refine gC<|?_;exact λ_ r=>⟨(),gN H,r.fj (h.se 2 [1,0])⟩
 clear h r;rintro _ a w ⟨rfl,j,r,h⟩;replace H:=F9 Oy;obtain⟨o8,H,MS⟩:=F8 H;refine dz (β:=Unit) (λ_ a w=>.inl ()=o8/\∃j,cP [MB b2] 62 (lk [(1,pA b1 0),(2,pA b2 0)] j) a/\Fit z (aG (gS b1 #[bO aZ O.ah.length bH] 24::gS b2 #[Z 0,Z 0,Z 0] 81::L)) w) ?_ ?_
 ·refine qq r<|aN [U]<|kL h 0<|ko [Z ((O.ah.length:Nat):Int),U]<|G<|wb<|λ_ r=>eD (β:=Nat) id (λm a w=>∃g9:Int,(oO K O m g9)=some o8/\∃j,cP [MB b2] 62 (lk [(1,pA b1 0),(2,pA b2 0),(22,bO aZ O.ah.length bH),(23,Z ((O.ah.length:Nat):Int)),(24,Z g9)] j) a/\Fit z (aG (gS b1 #[bO aZ O.ah.length bH] 24::gS b2 #[Z 0,Z 0,Z 0] 81::L)) w) K ⟨0,H,r.fj h⟩<|?_;clear h r H;rintro k1 a w ⟨g9,H,j,r,h⟩;cases k1 with
  | zero=>exact absurd H (by simp[oO])
  | succ k1 =>
   rw[oO]at H;refine qq r<|aN [dm (g9<((O.ah.length:Nat):Int))]<|G<|wq<|dQ H (λqR H=>?_) λqR H=>?_
   ·refine gC<|wq<|wb<|ks<|qg H λvw H=>bS<|kp (pA (dR aZ) (kz aZ+g9.toNat*4)) (DG 85 bH rfl rfl aR vw)<|xG (pe #[Z (J O.ah g9.toNat).aS,Z (J O.ah g9.toNat).cZ,Z (J O.ah g9.toNat).bP,bO ((aI g9.toNat).1) (J O.ah g9.toNat).ai.length ((aI g9.toNat).2)]) (cs:=[Z (J O.ah g9.toNat).aS,Z (J O.ah g9.toNat).cZ,Z (J O.ah g9.toNat).bP,bO ((aI g9.toNat).1) (J O.ah g9.toNat).ai.length ((aI g9.toNat).2)]) ⟨aR.cell vw (h.dn 2) 0 rfl,aR.cell vw (h.dn 2) 1 rfl,aR.cell vw (h.dn 2) 2 rfl,aR.cell vw (h.dn 2) 3 rfl,bU⟩<|?_;refine kN h (#[Z 0,Z 0,Z 0,bO none 0 0]) 85 λuh w h=>bS<|kA h (sn uh (J O.ah g9.toNat) ((aI g9.toNat).1) ((aI g9.toNat).2)) λw h=>G<|ks<|kM h<|gg H λvQ Gl H=>fe (Gj (bA:=((aI g9.toNat).1)) (bX:=((aI g9.toNat).2)) (cE:=(cx.up 3 (aR.wm vw))) Gl h :) λw h=>ko [vB (!vQ)]<|G<|IJ H (λpR H=>?_) λpR H=>?_
    ·refine wk<|bn<|tn<|wl<|ko [Z (wi (g9+1)),Z (wi (g9+1))]<|G<|?_;exact λ_ r=>⟨_,⟨(wi (g9+1)),H,r.fj (h.se 3 [1,2])⟩,jG _⟩
    refine aN dk<|qh h.m2 λh=>kA h (gS b2 #[Z 51,Z g9,Z 0] 81) λw h=>cr<|br<|tr<|tr<|br<|tr<|λ_ r=>Ak r rfl aY h<|?_;replace H:=xm H MS;cases H;exact⟨rfl,h.se 3 []⟩
   refine wx<|te<|te<|bh<|tn<|?_;exact λ_ r=>⟨(),gN H,r.fj h⟩
 clear h r;rintro _ a w ⟨rfl,j,r,h⟩;replace H:=F9 MS;obtain⟨Sp,H,Gm⟩:=F8 H;refine dz (β:=Unit) (λ_ a w=>.inl ()=Sp/\∃j,cP [MB b2] 62 (lk [(1,pA b1 0),(2,pA b2 0)] j) a/\Fit z (aG (gS b1 #[bO aZ O.ah.length bH] 24::gS b2 #[Z 0,Z 0,Z 0] 81::L)) w) ?_ ?_
 ·refine qq r<|aN [U]<|kL h 0<|ko [Z ((O.ah.length:Nat):Int),U]<|G<|wb<|λ_ r=>eD (β:=Nat) id (λm a w=>∃sM:Int,(oP K O m sM)=some Sp/\∃j,cP [MB b2] 62 (lk [(1,pA b1 0),(2,pA b2 0),(36,bO aZ O.ah.length bH),(37,Z ((O.ah.length:Nat):Int)),(38,Z sM)] j) a/\Fit z (aG (gS b1 #[bO aZ O.ah.length bH] 24::gS b2 #[Z 0,Z 0,Z 0] 81::L)) w) K ⟨0,H,r.fj h⟩<|?_;clear h r H;rintro k2 a w ⟨sM,H,j,r,h⟩;cases k2 with
  | zero=>exact absurd H (by simp[oP])
  | succ k2 =>
   rw[oP]at H;refine qq r<|aN [dm (sM<((O.ah.length:Nat):Int))]<|G<|wq<|dQ H (λuT H=>?_) λuT H=>?_
   ·refine gC<|wq<|wb<|ks<|qg H λmV H=>bS<|kp (pA (dR aZ) (kz aZ+sM.toNat*4)) (DG 85 bH rfl rfl aR mV)<|xG (pe #[Z (J O.ah sM.toNat).aS,Z (J O.ah sM.toNat).cZ,Z (J O.ah sM.toNat).bP,bO ((aI sM.toNat).1) (J O.ah sM.toNat).ai.length ((aI sM.toNat).2)]) (cs:=[Z (J O.ah sM.toNat).aS,Z (J O.ah sM.toNat).cZ,Z (J O.ah sM.toNat).bP,bO ((aI sM.toNat).1) (J O.ah sM.toNat).ai.length ((aI sM.toNat).2)]) ⟨aR.cell mV (h.dn 2) 0 rfl,aR.cell mV (h.dn 2) 1 rfl,aR.cell mV (h.dn 2) 2 rfl,aR.cell mV (h.dn 2) 3 rfl,bU⟩<|?_;refine kN h (#[Z 0,Z 0,Z 0,bO none 0 0]) 85 λb21 w h=>bS<|kA h (sn b21 (J O.ah sM.toNat) ((aI sM.toNat).1) ((aI sM.toNat).2)) λw h=>G<|wl<|bS<|kM h<|bS<|kL (h.pick 1) 0<|gg H λLQ Bp H=>?_;cases LQ with
    | inl q24 =>
     refine fe (Bn (u9:=aZ) (wR:=bH) (Bz:=(Aj.up 3 aR)) (cX:=((aI sM.toNat).1)) (de:=((aI sM.toNat).2)) (eT:=(cx.up 3 (aR.wm mV))) (xp:=cx.up 3 xp) (VB:=aI) Bp h :) λw h=>kl<|bn<|tn<|wl<|ko [Z (wi (sM+1)),Z (wi (sM+1))]<|G<|?_;exact λ_ r=>⟨_,⟨(wi (sM+1)),H,r.fj (h.se 3 [1,2])⟩,jG _⟩
    | inr q25 =>
     have hc:=Bo (u9:=aZ) (wR:=bH) (Bz:=(Aj.up 3 aR)) (cX:=((aI sM.toNat).1)) (de:=((aI sM.toNat).2)) (eT:=(cx.up 3 (aR.wm mV))) (xp:=cx.up 3 xp) (VB:=aI) (H:=Bp) (h:=h);intro _ r;refine Mv (wn rfl) r (f:=89) (args:=#[Z sM,pe #[Z (J O.ah sM.toNat).aS,Z (J O.ah sM.toNat).cZ,Z (J O.ah sM.toNat).bP,bO ((aI sM.toNat).1) (J O.ah sM.toNat).ai.length ((aI sM.toNat).2)],bO aZ O.ah.length bH]) aY hc ?_;clear hc h;rintro _ w ⟨rfl,h⟩;refine⟨_,rfl,?_⟩;refine ux<|oA<|oA<|ux<|oA<|qh h.m2 λh=>HK r rfl aY h λw h=>?_;replace H:=xm H Gm;cases H;exact⟨rfl,h.se 3 []⟩
   refine wx<|te<|te<|bh<|tn<|?_;exact λ_ r=>⟨(),gN H,r.fj h⟩
 clear h r;rintro _ a w ⟨rfl,j,r,h⟩;replace H:=F9 Gm;refine qq r<|wq<|aN [U]<|kL h 0<|ko [Z ((O.ah.length:Nat):Int),U]<|G<|wb<|λ_ r=>eD (β:=Nat) id (λm a w=>∃wE:Int,(qO K O m wE)=some r0/\∃j,cP [MB b2] 62 (lk [(2,pA b2 0),(50,bO aZ O.ah.length bH),(51,Z ((O.ah.length:Nat):Int)),(52,Z wE)] j) a/\Fit z (aG (gS b2 #[Z 0,Z 0,Z 0] 81::L)) w) K ⟨0,H,r.fj (h.se 2 [1])⟩<|?_;clear h r H;rintro k3 a w ⟨wE,H,j,r,h⟩;cases k3 with
 | zero=>exact absurd H (by simp[qO])
 | succ k3 =>
  rw[qO]at H;refine qq r<|aN [dm (wE<((O.ah.length:Nat):Int))]<|G<|wq<|dQ H (λsL H=>?_) λsL H=>?_
  ·refine gC<|wq<|wb<|ks<|qg H λDL H=>bS<|kp (pA (dR aZ) (kz aZ+wE.toNat*4)) (DG 85 bH rfl rfl aR DL)<|xG (pe #[Z (J O.ah wE.toNat).aS,Z (J O.ah wE.toNat).cZ,Z (J O.ah wE.toNat).bP,bO ((aI wE.toNat).1) (J O.ah wE.toNat).ai.length ((aI wE.toNat).2)]) (cs:=[Z (J O.ah wE.toNat).aS,Z (J O.ah wE.toNat).cZ,Z (J O.ah wE.toNat).bP,bO ((aI wE.toNat).1) (J O.ah wE.toNat).ai.length ((aI wE.toNat).2)]) ⟨aR.cell DL (h.dn 1) 0 rfl,aR.cell DL (h.dn 1) 1 rfl,aR.cell DL (h.dn 1) 2 rfl,aR.cell DL (h.dn 1) 3 rfl,bU⟩<|?_;refine kN h (#[Z 0,Z 0,Z 0,bO none 0 0]) 85 λb29 w h=>bS<|kA h (sn b29 (J O.ah wE.toNat) ((aI wE.toNat).1) ((aI wE.toNat).2)) λw h=>G<|wl<|bS<|kM h<|gg H λBZ Vz H=>?_;cases BZ with
   | inl q32 =>
    refine fe (H7 (cX:=((aI wE.toNat).1)) (de:=((aI wE.toNat).2)) (eT:=(cx.up 2 (aR.wm DL))) (xp:=cx.up 2 xp) Vz h :) λw h=>kl<|bn<|tn<|wl<|ko [Z (wi (wE+1)),Z (wi (wE+1))]<|G<|?_;exact λ_ r=>⟨_,⟨(wi (wE+1)),H,r.fj (h.se 2 [1])⟩,jG _⟩
   | inr q33 =>
    have hc:=H8 (cX:=((aI wE.toNat).1)) (de:=((aI wE.toNat).2)) (eT:=(cx.up 2 (aR.wm DL))) (xp:=cx.up 2 xp) (H:=Vz) (h:=h);intro _ r;refine Mv (wn rfl) r (f:=90) (args:=#[Z wE,pe #[Z (J O.ah wE.toNat).aS,Z (J O.ah wE.toNat).cZ,Z (J O.ah wE.toNat).bP,bO ((aI wE.toNat).1) (J O.ah wE.toNat).ai.length ((aI wE.toNat).2)]]) aY hc ?_;clear hc h;rintro _ w ⟨rfl,h⟩;refine⟨_,rfl,?_⟩;refine ux<|oA<|oA<|ux<|oA<|qh h.m1 λh=>HK r rfl aY h λw h=>?_;cases H;exact⟨rfl,h.se 2 []⟩
  refine wx<|te<|te<|bh<|tn<|aN [U]<|kA h (gS b2 #[Z 0,Z 0,Z 0] 81) λw h=>cr<|λ_ r=>Ak r rfl aY h<|?_;cases H;exact⟨rfl,h.se 1 []⟩
def vb(O:Int):Option (Bool):=
 (if O>=1 then some (decide (O<=64))else some false)
theorem Ez(H:vb O=some r0)(h:iV z (L) w) :
 nM 56 #[Z O] w z (vB r0) (L):=by
 unfold vb at H;refine ke Tryz.func56 9 rfl λj=>iv<|aN [U,dm (O>=1),dm (O>=1)]<|qI H (λc1 H=>?_) λc1 H=>?_
 ·refine cW (dT c1) [6,7] [Z O,dm (O<=64)]<|oM (dT c1) (dm (O<=64))<|ko [dm (O<=64)]<|cr<|?_;cases H;exact fX h
 refine cu (dF c1) [6,7]<|oG (dF c1) (vB false)<|bS<|cr<|?_;cases H;exact fX h
def ve(O:eL):Option (Bool):=
 (if O.ck>=1 then(if O.ck<=4096 then(if(1:Int)<=O.dU then(if O.dU<=O.kB then some (decide (O.kB<=4096))else some false)else some false)else some false)else some false)
theorem EA(H:ve O=some r0)(h:iV z (L) w) :
 nM 57 #[lT O] w z (vB r0) (L):=by
 unfold ve at H;refine ke Tryz.func57 28 rfl λj=>ks<|kN h (mY O) 27 λb1 w h=>bS<|G<|aN [U]<|kL h 0<|ko [dm (O.ck>=1),dm (O.ck>=1)]<|qI H (λc2 H=>?_) λc2 H=>?_
 ·refine cW (dT c2) [7] [pA b1 0]<|vL (dT c2) h 0<|cW (dT c2) [9] [dm (O.ck<=4096)]<|oM (dT c2) (dm (O.ck<=4096))<|ko [dm (O.ck<=4096)]<|qI H (λc3 H=>?_) λc3 H=>?_
  ·refine cW (dT c3) [12] [pA b1 1]<|vL (dT c3) h 1<|cW (dT c3) [14] [dm ((1:Int)<=O.dU)]<|oM (dT c3) (dm ((1:Int)<=O.dU))<|ko [dm ((1:Int)<=O.dU)]<|qI H (λc4 H=>?_) λc4 H=>?_
   ·refine cW (dT c4) [17] [pA b1 1]<|vL (dT c4) h 1<|cW (dT c4) [19] [pA b1 2]<|vL (dT c4) h 2<|cW (dT c4) [21] [dm (O.dU<=O.kB)]<|oM (dT c4) (dm (O.dU<=O.kB))<|ko [dm (O.dU<=O.kB)]<|qI H (λc5 H=>?_) λc5 H=>?_
    ·refine cW (dT c5) [24] [pA b1 2]<|vL (dT c5) h 2<|cW (dT c5) [26] [dm (O.kB<=4096)]<|oM (dT c5) (dm (O.kB<=4096))<|ko [dm (O.kB<=4096)]<|cr<|?_;cases H;exact fX (h.se 1 [])
    refine cu (dF c5) [24,25,26]<|oG (dF c5) (vB false)<|bS<|cr<|?_;cases H;exact fX (h.se 1 [])
   refine cu (dF c4) [17,18,19,20,21]<|oG (dF c4) (vB false)<|bS<|cu (rfl:false=false) [24,25,26]<|ko dk<|cr<|?_;cases H;exact fX (h.se 1 [])
  refine cu (dF c3) [12,13,14]<|oG (dF c3) (vB false)<|bS<|cu (rfl:false=false) [17,18,19,20,21]<|ko dk<|cu (rfl:false=false) [24,25,26]<|ko dk<|cr<|?_;cases H;exact fX (h.se 1 [])
 refine cu (dF c2) [7,8,9]<|oG (dF c2) (vB false)<|bS<|cu (rfl:false=false) [12,13,14]<|ko dk<|cu (rfl:false=false) [17,18,19,20,21]<|ko dk<|cu (rfl:false=false) [24,25,26]<|ko dk<|cr<|?_;cases H;exact fX (h.se 1 [])
def qP(K:Nat)(O:aH)(Y:List Int)(p2:Int)(p3:eL):Option (Int):=
 eA (xW K O) (λr3=>(if r3.wQ=0 then if bM (0:Int) O.ah.length then(if((Y.length:Nat):Int)=(J O.ah 0).aS then eA (vb p2) (λr8=>(if r8=true then eA (ve p3) (λuO=>(if uO=true then some 0 else some 111))else some 110))else some 61)else none else some 60))
theorem zI(H:qP K O Y p2 p3=some r0)(h:iV z (L) w)(aR:Bk L aZ aI O.ah)(IP:cx L 1 aO HX Y)(xp:cx L 5 iu (some ⟨1,0,none⟩) yy) :
 nM 36 #[pe #[bO aZ O.ah.length bH],bO HX Y.length Kc,Z p2,lT p3] w z (Z r0) (L):=by
 unfold qP at H;refine ke Tryz.func36 31 rfl λj=>ks<|kN h (#[bO aZ O.ah.length bH]) 24 λb1 w h=>kN h (mY p3) 27 λb2 w h=>bS<|G<|wq<|wb<|ks<|xG (pe #[bO aZ O.ah.length bH]) (cs:=[bO aZ O.ah.length bH]) ⟨(h.pick 1).cell 0 rfl,bU⟩<|?_;refine gg H λr3 e4 H=>fe (Ja (aZ:=aZ) (bH:=bH) (aR:=(Aj.up 2 aR)) (xp:=cx.up 2 xp) (aI:=aI) e4 h :) λw h=>ko [U,vB (r3.wQ != 0),vB (r3.wQ != 0)]<|G<|rU H (λc5 H=>?_) λc5 H=>?_
 ·refine aN [U,Z ((Y.length:Nat):Int),U]<|kL (h.pick 1) 0<|qg H λc6 H=>kp (pA (dR aZ) (kz aZ+0*4)) (DG 85 bH rfl rfl aR c6)<|bS<|Aa (Z (J O.ah 0).aS) (aR.cell c6 (h.dn 2) 0 rfl)<|?_;refine ko [vB (((Y.length:Nat):Int) != (J O.ah 0).aS),vB (((Y.length:Nat):Int) != (J O.ah 0).aS)]<|G<|rU H (λc7 H=>?_) λc7 H=>?_
  ·refine ks<|gg H λr8 e9 H=>bS<|fe (Ez e9 h :) λw h=>ko [vB (!r8),vB (!r8)]<|G<|IJ H (λqR H=>?_) λqR H=>?_
   ·refine ks<|kM h<|gg H λuO Es H=>fe (EA Es h :) λw h=>ko [vB (!uO),vB (!uO)]<|G<|IJ H (λyl H=>?_) λyl H=>?_
    ·refine wk<|bn<|tn<|iv<|wr<|?_;cases H;exact fX (h.se 2 [])
    refine iv<|wr<|br<|tr<|?_;cases H;exact fX (h.se 2 [])
   refine iv<|wr<|br<|tr<|?_;cases H;exact fX (h.se 2 [])
  refine iv<|wr<|br<|tr<|?_;cases H;exact fX (h.se 2 [])
 refine iv<|wr<|br<|tr<|?_;cases H;exact fX (h.se 2 [])
def mW(O:ag)(Y:Int):Option (Int):=
 (if Y<1 then some 21 else(if Y>(wi (O.oN-O.fP))then some 22 else some 0))
theorem Au(H:mW O Y=some r0)(h:iV z (hU B0 O kT lu lH nN L) w) :
 nM 211 #[pA B0 0,Z Y] w z (Z r0) (hU B0 O kT lu lH nN L):=by
 unfold mW at H;refine ke Tryz.func211 22 rfl λj=>iv<|wq<|aN [U,dm (Y<1)]<|G<|dQ H (λc5 H=>?_) λc5 H=>?_
 ·refine iv<|wr<|tr<|?_;cases H;exact fX h
 refine gC<|wq<|wq<|nc [(B0,0,[Z O.oN]),(B0,1,[Z O.fP])] [1,5,6,9,10] 15 h (λh=>⟨⟨h.cell 0 rfl,bU⟩,⟨h.cell 1 rfl,bU⟩,bU⟩) λw h hd =>mD hd 12 7 [([0],pA B0 0),([1,2],vB false)]<|λ_ r=>Rh hd 11 3 rfl (sY r (c:=false) rfl) r (Z Y)<|?_;refine λ_ r=>Rh hd 10 4 rfl (sY r (c:=false) rfl) r (pA B0 0)<|?_;refine λ_ r=>Rh hd 9 5 rfl (sY r (c:=false) rfl) r (pA B0 0)<|?_;refine λ_ r=>Rh hd 8 6 rfl (sY r (c:=false) rfl) r (pA B0 0)<|?_;refine λ_ r=>Rh hd 7 8 rfl (sY r (c:=false) rfl) r (pA B0 0)<|?_;refine λ_ r=>Rh hd 6 9 rfl (sY r (c:=false) rfl) r (pA B0 0)<|?_;refine λ_ r=>Rh hd 5 10 rfl (sY r (c:=false) rfl) r (pA B0 1)<|?_;refine λ_ r=>elx hd 0 4 7 r (sY r (c:=false) rfl) rfl rfl<|?_;refine λ_ r=>elx hd 1 3 11 r (sY r (c:=false) rfl) rfl rfl<|?_;refine λ_ r=>Rh hd 2 12 rfl (sY r (c:=false) rfl) r (Z (wi (O.oN-O.fP)))<|?_;refine λ_ r=>Rh hd 1 13 rfl (sY r (c:=false) rfl) r (dm (Y>(wi (O.oN-O.fP))))<|?_;refine nB hd 0 [(14,21,dm (Y>(wi (O.oN-O.fP))))]<|nk<|tn<|dQ H (λc6 H=>?_) λc6 H=>?_
 ·refine iv<|wr<|tr<|?_;cases H;exact fX h
 refine gC<|iv<|wr<|?_;cases H;exact fX h
def qv(O:ag)(Y:Int):Option (Int×ag):=
 some (O.fP,{O with fP:=wi (O.fP+Y)})
theorem Ce{q0:ag}(H:qv O Y=some (r0,q0))(h:iV z (hU B0 O kT lu lH nN L) w) :
 yC 212 #[pA B0 0,Z Y] w z (Z r0) λx1 x2 x3 x4=>hU B0 q0 x1 x2 x3 x4 L:=by
 unfold qv at H;refine ke Tryz.func212 19 rfl λj=>iv<|aN lI<|kL h 1<|bS<|G<|aN lI<|kL h 1<|ko [U,Z (wi (O.fP+Y)),U,U]<|kS h 1 (gS B0 #[Z O.oN,Z (wi (O.fP+Y)),bO kT O.cell.length lu,bO lH O.log.length nN,Z O.u4,vB O.watched] 78) λw h=>G<|aN dk<|cr<|?_;cases H;exact IK kT lu lH nN h
def ga(O:ag)(Y:Int)(p2:Int)(p3:Int)(p4:Int)(p5:Bool):Option (ag):=
 (if O.watched=true then if(O.log.length+1)*48<=140737488355328 then some ({O with log:=O.log++[(⟨O.u4,Y,p2,p3,p4,p5⟩:bl)]})else none else some O)
abbrev Wu (B:Nat) (S:ag) (a2:gF) (c2:Nat) (a3:gF) (c3:Nat) (q:Nat):bu:=pts B (.cells #[Z S.oN,Z S.fP,.slice a2 S.cell.length c2,.slice a3 q c3,Z S.u4,vB S.watched] 78)
theorem mX{q0:ag}(H:ga O Y p2 p3 p4 p5=some q0)(h:iV z (hU B0 O kT lu lH nN L) w) :
 yC 210 #[pA B0 0,Z Y,Z p2,Z p3,Z p4,vB p5] w z (.tuple #[]) λx1 x2 x3 x4=>hU B0 q0 x1 x2 x3 x4 L:=by
 unfold ga at H;refine ke Tryz.func210 35 rfl λj=>aN lI<|kL h 5<|G<|FZ H (λc5 H=>?_) λc5 H=>?_
 ·refine qg H λc9 H=>nc [(B0,3,[bO lH O.log.length nN]),(B0,4,[Z O.u4])] [2,3,6,7,14] 20 h (λh=>⟨⟨h.cell 3 rfl,bU⟩,⟨h.cell 4 rfl,bU⟩,bU⟩) λw h hd =>mD hd 8 16 [([0,1,2,5,6],pA B0 0),([3],pA B0 3),([7],pA B0 4),([9],Z Y),([10],Z p2),([11],Z p3),([12],Z p4),([13],vB p5)]<|eR hd 0 7 4 rfl<|eR hd 1 6 8 rfl<|nB hd 5 [(14,30,pe #[Z O.u4,Z Y,Z p2,Z p3,Z p4,vB p5])]<|mh 15 rfl<|kV h (#[Z O.u4,Z Y,Z p2,Z p3,Z p4,vB p5]) 269 λb6 w h=>G<|λ_ r=>xE<|lQ 16 rfl<|qh h.m3 λh=>nY (n0:=O.log.length) (c:=1) (bytes:=48) (wn rfl) rfl rfl r rfl aY aY CG (E:=269) (xs:=O.log) aY aY h (news:=[(⟨O.u4,Y,p2,p3,p4,p5⟩:bl)]) (m:=1) rfl ((h.pick 1).news rfl) c9 rfl λlJ mj w _ h r=>qq r<|G<|mK<|iK 2 17 rfl (pA B0 0)<|iK 1 18 rfl (pA B0 3)<|mh 19 rfl<|qh h.m2 λh=>kS h 3 (Wu B0 O kT lu lJ mj ((O.log++[(⟨O.u4,Y,p2,p3,p4,p5⟩:bl)]).length)) λw h=>G<|mK<|nk<|?_;cases H;exact xv4 kT lu lJ mj (h.se 4 [0,3,1])
 refine wk<|?_;cases H;exact xv4 kT lu lH nN h
def fN(O:ag)(Y:Int):Option (Int×Int×ag):=
 Ob (some ()) (eA (mW O Y) (λr7=>(if r7=0 then tL (qv O Y) (λBB Cf=>if 0<=Y/\(Cf.cell.length+Y.toNat)*8<=140737488355328 then eA (ga ({Cf with cell:=Cf.cell++List.replicate Y.toNat (0:Int)}) 4 BB Y 0 true) (λgD=>some (BB,0,gD))else none)else some (0,r7,O))))
abbrev GM (B:Nat) (S:ag) (a2:gF) (c2:Nat) (a3:gF) (c3:Nat) (q:Nat):bu:=pts B (.cells #[Z S.oN,Z S.fP,.slice a2 q c2,.slice a3 S.log.length c3,Z S.u4,vB S.watched] 78)
theorem mN{q0:ag}(H:fN O Y=some (r0,r1,q0))(h:iV z (hU B0 O kT lu lH nN L) w) :
 yC 207 #[pA B0 0,Z Y] w z (.tuple #[Z r0,Z r1]) λx1 x2 x3 x4=>hU B0 q0 x1 x2 x3 x4 L:=by
 unfold fN at H;refine ke Tryz.func207 37 rfl λj=>aN dk<|G<|iv<|qd0 H λo6 H hK5=>λ_ r=>dz (β:=Unit) (λ_ a w=>()=o6/\∃j,mF 37 (lk [(0,pA B0 0),(1,Z Y),(6,pA B0 0)] j) a/\Fit z (aG (hU B0 O kT lu lH nN L)) w) ?_ ?_
 ·refine qq r<|aN dk<|G<|λ_ r=>hJ r (b:=true) rfl<|qq r<|wl<|ko Ba<|G<|?_;exact λ_ r=>⟨(),gN H,r.fj h⟩
 clear h r;rintro _ a w ⟨rfl,j,r,h⟩;replace H:=kk0 hK5;refine qq r<|wq<|ks<|gg H λr7 e8 H=>ko dk<|fe (Au e8 h :) λw h=>bS<|G<|aN [U,vB (r7 != 0)]<|G<|rU H (λc9 H=>?_) λc9 H=>?_
 ·refine gC<|ks<|w7 H λBB Cf Es H=>ko dk<|lS (Ce Es h :) λxI yD Cg CQ w h=>bS<|G<|aN Ba<|kL h 2<|bS<|qh h.m1 λh=>qg H λuT H=>λ_ r=>Rc (kx:=.i64) (n0:=Cf.cell.length) (i:=Y) (m:=Y.toNat) (bytes:=8) (zc:=#[Z 0]) (0:Int) (wn rfl) rfl rfl r rfl aY aY (Int.toNat_of_nonneg uT.1).symm aL (E:=2) (xs:=Cf.cell) aY aY aY rfl h uT.2 rfl λFo OE w _ h r=>qq r<|ko dk<|qh h.m1 λh=>kS h 2 (GM B0 Cf Fo OE Cg CQ ((Cf.cell++List.replicate Y.toNat (0:Int)).length)) λw h=>G<|ks<|gg H λgD MT H=>ko lI<|lS (mX MT h :) λsZ Ac Ch DK w h=>G<|aN lI<|cr<|?_;cases H;exact BA sZ Ac Ch DK h
 refine aN lI<|cr<|tr<|?_;cases H;exact BA kT lu lH nN h
def vg(O:Int):Option (Int):=
 (if O<1 then some 0 else(if O>4096 then some 0 else some (wi ((1:Int)+(wi (O*10))))))
theorem Bd(H:vg O=some r0)(h:iV z (L) w) :
 nM 81 #[Z O] w z (Z r0) (L):=by
 unfold vg at H;refine ke Tryz.func81 12 rfl λj=>iv<|wq<|aN [U,dm (O<1),dm (O<1)]<|qI H (λc1 H=>?_) λc1 H=>?_
 ·refine cu (dT c1) [6,7]<|oM (dT c1) (vB true)<|G<|λ_ r=>hJ r (b:=true) rfl<|qq r<|iv<|wr<|tr<|?_;cases H;exact fX h
 refine cW (dF c1) [6,7] [Z O,dm (O>4096)]<|oG (dF c1) (dm (O>4096))<|G<|dQ H (λc2 H=>?_) λc2 H=>?_
 ·refine iv<|wr<|tr<|?_;cases H;exact fX h
 refine gC<|aN [U,Z (wi (O*10)),Z (wi ((1:Int)+(wi (O*10)))),Z (wi ((1:Int)+(wi (O*10))))]<|cr<|?_;cases H;exact fX h
def gK(O:bj)(Y:Int):Option (Int):=
 some (wi ((wi (O.lj+1))+(wi (Y*10))))
theorem lK(H:gK O Y=some r0)(h:iV z (L) w) :
 nM 91 #[fG O,Z Y] w z (Z r0) (L):=by
 unfold gK at H;refine ke Tryz.func91 11 rfl λj=>ks<|kN h (hO O) 90 λb1 w h=>bS<|G<|aN [U]<|kL h 0<|ko [Z (wi (O.lj+1)),U,Z (wi (Y*10)),Z (wi ((wi (O.lj+1))+(wi (Y*10)))),Z (wi ((wi (O.lj+1))+(wi (Y*10))))]<|cr<|?_;cases H;exact fX (h.se 1 [])
def rE(O:ag)(Y:Int):Option (Bool):=
 (if Y>=0 then some (decide (Y<O.fP))else some false)
theorem CR(H:rE O Y=some r0)(h:iV z (hU B0 O kT lu lH nN L) w) :
 nM 213 #[pA B0 0,Z Y] w z (vB r0) (hU B0 O kT lu lH nN L):=by
 unfold rE at H;refine ke Tryz.func213 15 rfl λj=>iv<|aN [U,dm (Y>=0),dm (Y>=0)]<|qI H (λc5 H=>?_) λc5 H=>?_
 ·refine cW (dT c5) [8,9,10,11] [Z Y,pA B0 0,pA B0 0,pA B0 1]<|vL (dT c5) h 1<|cW (dT c5) [13] [dm (Y<O.fP)]<|oM (dT c5) (dm (Y<O.fP))<|ko [dm (Y<O.fP)]<|cr<|?_;cases H;exact fX h
 refine cu (dF c5) [8,9,10,11,12,13]<|oG (dF c5) (vB false)<|bS<|cr<|?_;cases H;exact fX h
def iw(O:ag)(Y:Int):Option (Bool):=
 eA (rE O Y) (λr5=>some (!r5))
theorem oJ(H:iw O Y=some r0)(h:iV z (hU B0 O kT lu lH nN L) w) :
 nM 209 #[pA B0 0,Z Y] w z (vB r0) (hU B0 O kT lu lH nN L):=by
 unfold iw at H;refine ke Tryz.func209 15 rfl λj=>iv<|ks<|gg H λr5 e6 H=>ko lI<|cW (rfl:false=false) [8,9,10,11] [pA B0 0,pA B0 0,pA B0 0,Z Y]<|YX (rfl:false=false) (CR e6 h :) λw h=>cW (rfl:false=false) [13] [vB (!r5)]<|ko [vB (!r5),vB (!r5)]<|cr<|?_;cases H;exact fX h
def dP(O:ag)(Y:Int)(p2:Int):Option (Int×ag):=
 eA (iw O Y) (λr5=>(if r5=true then some (20,O)else if bM Y O.cell.length then eA (ga ({O with cell:=O.cell.set Y.toNat p2}) 1 Y p2 0 true) (λN2=>some (0,N2))else none))
theorem _root_.Go.Proofs.YtaiffafelihaaaaGreatDoor.SL.Fit.H9{α:Type}{e sz cc n:Nat}{enc:α->List Value}{ca:gF}{l:List α}{z w:World}{X:List bu}{B:Nat}{S:ag}{a2:gF}{c2:Nat}{a3:gF}{c3:Nat}(h:Fit z (aG (rowOf e sz enc (.slice ca n cc) l::GM B S a2 c2 a3 c3 n::X)) w):Fit z (aG (rowOf e sz enc (.slice ca l.length cc) l::GM B S a2 c2 a3 c3 l.length::X)) w:=h.Ku (GM B S a2 c2 a3 c3)
theorem fq{q0:ag}(H:dP O Y p2=some (r0,q0))(h:iV z (hU B0 O kT lu lH nN L) w) :
 yC 208 #[pA B0 0,Z Y,Z p2] w z (Z r0) λx1 x2 x3 x4=>hU B0 q0 x1 x2 x3 x4 L:=by
 unfold dP at H;refine ke Tryz.func208 21 rfl λj=>iv<|wq<|ks<|gg H λr5 e6 H=>ko dk<|fe (oJ e6 h :) λw h=>G<|FZ H (λc7 H=>?_) λc7 H=>?_
 ·refine iv<|wr<|tr<|?_;cases H;exact IK kT lu lH nN h
 refine gC<|aN lI<|kL h 2<|qg H λc8 H=>ko dk<|ki (h.pick 1) c8<|qh h.m1 λh=>λ_ r=>Kt (wn rfl) r aL h Y.toNat 0 (Z p2) (J O.cell Y.toNat) p2 (bp c8) λw h=>qq r<|G<|aN lI<|?_;replace h:=h.H9;refine gg H λN2 Y3 H=>qh h.m2.m1.m2 λh=>lS (mX Y3 h :) λBC xI yD Cg w h=>G<|iv<|wr<|?_;cases H;exact IK BC xI yD Cg h
def jI(K:Nat)(Y:Int)(uO:Int):Nat->ag->Int->Option (bj×Int×ag)
 | 0,_,_=>none
 | k1+1,EB,wE=>(if wE<Y then eA (gK (⟨uO,Y⟩:bj) wE) (λEw=>tL (dP EB Ew 1) (λBZ VD=>(if BZ=0 then(jI K Y uO k1 VD (wi (wE+1)))else some ((⟨0,0⟩:bj),BZ,VD))))else some ((⟨uO,Y⟩:bj),0,EB))
def oV(K:Nat)(O:ag)(Y:Int):Option (bj×Int×ag):=
 eA (vg Y) (λr6=>(if r6=0 then some ((⟨0,0⟩:bj),3,O)else eA (vg Y) (λr9=>ql (fN O r9) (λuO xV IQ=>(if xV=0 then(jI K Y uO K IQ 0)else some ((⟨0,0⟩:bj),xV,IQ))))))
theorem CS{q0:ag}(H:oV K O Y=some (r0,r1,q0))(h:iV z (hU B0 O kT lu lH nN L) w) :
 yC 58 #[if_ 33 (pA B0 0),Z Y] w z (.tuple #[fG r0,Z r1]) λx1 x2 x3 x4=>hU B0 q0 x1 x2 x3 x4 L:=by
 unfold oV at H;refine ke Tryz.func58 53 rfl λj=>ks<|kN h (#[Z 0,Z 0]) 90 λb5 w h=>bS<|G<|wq<|aN dk<|G<|λ_ r=>jb r (b:=false) rfl<|qq r<|gC<|wq<|ks<|gg H λr6 e7 H=>bS<|fe (Bd e7 h :) λw h=>ko [vB (r6==0)]<|G<|dQ H (λc8 H=>?_) λc8 H=>?_
 ·refine aN [U]<|kA h (gS b5 #[Z 0,Z 0] 90) λw h=>bS<|cr<|tr<|λ_ r=>qY [Z 0,Z 0] (Z 3) rfl r (h.held 0 rfl)<|?_;cases H;exact⟨kT,lu,lH,nN,rfl,h.se 4 [1,2,3]⟩
 refine gC<|wq<|gg H λr9 Fi H=>uN H λuO xV IQ Gl H=>nc [] [] 12 h (λ_=>trivial) λw h hd =>mD hd 7 19 [([0],if_ 33 (pA B0 0)),([1],Z Y),([3,4],.func (.method "Reserve") #[if_ 33 (pA B0 0)] #[]),([5],if_ 33 (pA B0 0))]<|mh 2 rfl<|fe (Bd Fi h :) λw h=>G<|λ_ r=>xE<|lQ 6 rfl<|qh h.m3.m3.m3 λh=>qq r<|lS (mN Gl h :) λCg CQ KP Ia w h=>G<|mK<|iK 4 7 rfl (.tuple #[Z uO,Z xV])<|iK 3 8 rfl (Z uO)<|iK 2 9 rfl (Z xV)<|iK 1 10 rfl (Z uO)<|iK 0 11 rfl (Z xV)<|nk<|tn<|wq<|aN [U,vB (xV != 0)]<|G<|rU H (λuT H=>?_) λuT H=>?_
 ·refine gC<|aN lI<|kN h (#[Z 0,Z 0]) 90 λb20 w h=>kA h (gS b20 #[Z uO,Z Y] 90) λw h=>G<|wq<|aN dk<|G<|wb<|λ_ r=>eD (β:=Nat) id (λm a w=>∃MN:gF,∃MO:Nat,∃uG:gF,∃xu:Nat,∃EB:ag,∃wE:Int,(jI K Y uO m EB wE)=some (r0,r1,q0)/\∃j,mF 53 (lk [(0,if_ 33 (pA B0 0)),(4,pA b5 0),(8,pA b20 0),(35,Z Y),(36,Z wE)] j) a/\Fit z (aG (hU B0 EB MN MO uG xu (gS b5 #[Z 0,Z 0] 90::gS b20 #[Z uO,Z Y] 90::L))) w) K ⟨Cg,CQ,KP,Ia,IQ,0,H,r.fj (h.se 5 [1,2,3,4,0])⟩<|?_;clear h r H;rintro k1 a w ⟨MN,MO,uG,xu,EB,wE,H,j,r,h⟩;cases k1 with
  | zero=>exact absurd H (by simp[jI])
  | succ k1 =>
   rw[jI]at H;refine qq r<|aN [dm (wE<Y)]<|G<|wq<|dQ H (λsL H=>?_) λsL H=>?_
   ·refine gC<|wq<|wb<|aN dk<|G<|wq<|gg H λEw VA H=>w7 H λBZ VD OA H=>nc [(b20,0,[Z uO,Z Y])] [3,4,5] 9 h (λh=>⟨((h.pick 4).held 0 rfl),bU⟩) λw h hd =>mD hd 4 39 [([0],if_ 33 (pA B0 0)),([2],Z wE),([4,5],.func (.method "Store") #[if_ 33 (pA B0 0)] #[]),([6],if_ 33 (pA B0 0))]<|xF hd 0 3 1 rfl rfl<|mh 3 rfl<|fe (lK VA h :) λw h=>G<|vN ⟨((h.pick 4).held 0 rfl),bU⟩ λhd =>mh 7 rfl<|lS (fq OA h :) λx33 x34 x35 IU w h=>G<|mK<|iK 0 8 rfl (Z BZ)<|nk<|tn<|aN [U,vB (BZ != 0)]<|G<|rU H (λTT H=>?_) λTT H=>?_
    ·refine wk<|bn<|tn<|wl<|ko [Z (wi (wE+1)),Z (wi (wE+1))]<|G<|?_;exact λ_ r=>⟨_,⟨x33,x34,x35,IU,VD,(wi (wE+1)),H,r.fj h⟩,jG _⟩
    refine aN dk<|qh h.m3 λh=>kA h (gS b5 #[Z 0,Z 0] 90) λw h=>bS<|cr<|br<|tr<|tr<|br<|tr<|λ_ r=>qY [Z 0,Z 0] (Z BZ) rfl r (h.held 0 rfl)<|?_;cases H;exact⟨x33,x34,x35,IU,rfl,h.se 5 [1,2,3]⟩
   refine wx<|te<|te<|bh<|tn<|ks<|kM (h.pick 4)<|qh h.m3 λh=>kA h (gS b5 #[Z uO,Z Y] 90) λw h=>bS<|cr<|λ_ r=>qY [Z uO,Z Y] (Z 0) rfl r (h.held 0 rfl)<|?_;cases H;exact⟨MN,MO,uG,xu,rfl,h.se 5 [1,2,3]⟩
 refine aN dk<|qh h.m3 λh=>kA h (gS b5 #[Z 0,Z 0] 90) λw h=>bS<|cr<|tr<|λ_ r=>qY [Z 0,Z 0] (Z xV) rfl r (h.held 0 rfl)<|?_;cases H;exact⟨Cg,CQ,KP,Ia,rfl,h.se 4 [1,2,3]⟩
def pD(O:Int):Option (Int):=
 (if O<1 then some 0 else(if O>64 then some 0 else some (wi ((2:Int)+O))))
theorem vX(H:pD O=some r0)(h:iV z (L) w) :
 nM 82 #[Z O] w z (Z r0) (L):=by
 unfold pD at H;refine ke Tryz.func82 11 rfl λj=>iv<|wq<|aN [U,dm (O<1),dm (O<1)]<|qI H (λc1 H=>?_) λc1 H=>?_
 ·refine cu (dT c1) [6,7]<|oM (dT c1) (vB true)<|G<|λ_ r=>hJ r (b:=true) rfl<|qq r<|iv<|wr<|tr<|?_;cases H;exact fX h
 refine cW (dF c1) [6,7] [Z O,dm (O>64)]<|oG (dF c1) (dm (O>64))<|G<|dQ H (λc2 H=>?_) λc2 H=>?_
 ·refine iv<|wr<|tr<|?_;cases H;exact fX h
 refine gC<|aN [U,Z (wi ((2:Int)+O)),Z (wi ((2:Int)+O))]<|cr<|?_;cases H;exact fX h
def rF(O:ag)(Y:Int):Option (fc×Int×ag):=
 eA (pD Y) (λr6=>(if r6=0 then some ((⟨0,0⟩:fc),3,O)else eA (pD Y) (λr9=>ql (fN O r9) (λuO xV IQ=>(if xV=0 then some ((⟨uO,Y⟩:fc),0,IQ)else some ((⟨0,0⟩:fc),xV,IQ))))))
theorem EC{q0:ag}(H:rF O Y=some (r0,r1,q0))(h:iV z (hU B0 O kT lu lH nN L) w) :
 yC 59 #[if_ 33 (pA B0 0),Z Y] w z (.tuple #[qJ r0,Z r1]) λx1 x2 x3 x4=>hU B0 q0 x1 x2 x3 x4 L:=by
 unfold rF at H;refine ke Tryz.func59 32 rfl λj=>ks<|kN h (#[Z 0,Z 0]) 92 λb5 w h=>bS<|G<|wq<|aN dk<|G<|λ_ r=>jb r (b:=false) rfl<|qq r<|gC<|wq<|ks<|gg H λr6 e7 H=>bS<|fe (vX e7 h :) λw h=>ko [vB (r6==0)]<|G<|dQ H (λc8 H=>?_) λc8 H=>?_
 ·refine aN [U]<|kA h (gS b5 #[Z 0,Z 0] 92) λw h=>bS<|cr<|tr<|λ_ r=>qY [Z 0,Z 0] (Z 3) rfl r (h.held 0 rfl)<|?_;cases H;exact⟨kT,lu,lH,nN,rfl,h.se 4 [1,2,3]⟩
 refine gC<|wq<|gg H λr9 Fi H=>uN H λuO xV IQ Gl H=>nc [] [] 12 h (λ_=>trivial) λw h hd =>mD hd 7 16 [([0],if_ 33 (pA B0 0)),([1],Z Y),([3,4],.func (.method "Reserve") #[if_ 33 (pA B0 0)] #[]),([5],if_ 33 (pA B0 0))]<|mh 2 rfl<|fe (vX Fi h :) λw h=>G<|λ_ r=>xE<|lQ 6 rfl<|qh h.m3.m3.m3 λh=>qq r<|lS (mN Gl h :) λCg CQ KP Ia w h=>G<|mK<|iK 4 7 rfl (.tuple #[Z uO,Z xV])<|iK 3 8 rfl (Z uO)<|iK 2 9 rfl (Z xV)<|iK 1 10 rfl (Z uO)<|iK 0 11 rfl (Z xV)<|nk<|tn<|wq<|aN [U,vB (xV != 0)]<|G<|rU H (λuT H=>?_) λuT H=>?_
 ·refine gC<|aN lI<|qh h.m3 λh=>kA h (gS b5 #[Z uO,Z Y] 92) λw h=>bS<|cr<|λ_ r=>qY [Z uO,Z Y] (Z 0) rfl r (h.held 0 rfl)<|?_;cases H;exact⟨Cg,CQ,KP,Ia,rfl,h.se 4 [1,2,3]⟩
 refine aN dk<|qh h.m3 λh=>kA h (gS b5 #[Z 0,Z 0] 92) λw h=>bS<|cr<|tr<|λ_ r=>qY [Z 0,Z 0] (Z xV) rfl r (h.held 0 rfl)<|?_;cases H;exact⟨Cg,CQ,KP,Ia,rfl,h.se 4 [1,2,3]⟩
def xw(O:Int)(Y:Int):Option (Bool):=
 (if(1:Int)<=O then(if O<=Y then some (decide (Y<=4096))else some false)else some false)
theorem Gn(H:xw O Y=some r0)(h:iV z (L) w) :
 nM 92 #[Z O,Z Y] w z (vB r0) (L):=by
 unfold xw at H;refine ke Tryz.func92 16 rfl λj=>iv<|aN [U,dm ((1:Int)<=O),dm ((1:Int)<=O)]<|qI H (λc1 H=>?_) λc1 H=>?_
 ·refine cW (dT c1) [8,9,10] [Z O,Z Y,dm (O<=Y)]<|oM (dT c1) (dm (O<=Y))<|ko [dm (O<=Y)]<|qI H (λc2 H=>?_) λc2 H=>?_
  ·refine cW (dT c2) [13,14] [Z Y,dm (Y<=4096)]<|oM (dT c2) (dm (Y<=4096))<|ko [dm (Y<=4096)]<|cr<|?_;cases H;exact fX h
  refine cu (dF c2) [13,14]<|oG (dF c2) (vB false)<|bS<|cr<|?_;cases H;exact fX h
 refine cu (dF c1) [8,9,10]<|oG (dF c1) (vB false)<|bS<|cu (rfl:false=false) [13,14]<|ko dk<|cr<|?_;cases H;exact fX h
def qc(O:ag)(Y:Int)(p2:Int):Option (cw×Int×ag):=
 eA (xw Y p2) (λr6=>(if r6=true then ql (fN O (wi ((4:Int)+Y))) (λr9 BB Cf=>(if BB=0 then tL (dP Cf (wi (r9+2)) (wi (r9+3))) (λBl uj=>(if Bl=0 then tL (dP uj (wi (r9+3)) Y) (λDJ Qe=>(if DJ=0 then some ((⟨r9,p2⟩:cw),0,Qe)else some ((⟨0,0⟩:cw),DJ,Qe)))else some ((⟨0,0⟩:cw),Bl,uj)))else some ((⟨0,0⟩:cw),BB,Cf)))else some ((⟨0,0⟩:cw),30,O)))
end
open Go SL GX
section
variable {K:Nat}
theorem D5{i:Nat}(h:i<4611686018427387904):wi ((i:Int)+1)=((i+1:Nat):Int):=by rw[eO I];omega
theorem ED{α:Type}[Inhabited α]{n i:Nat}{x:α}(h:i<n):J (List.replicate n x) i=x:=by
 unfold J;rw[List.getD_eq_getElem?_getD,List.getElem?_replicate,aM h];rfl
theorem tD{α:Type}[Inhabited α]{l:List α}{i:Nat}(h:i<l.length):J l i∈l:=by
 unfold J;rw[List.getD_eq_getElem?_getD,List.getElem?_eq_getElem h];exact List.getElem_mem h
theorem KQ{α β:Type}[Inhabited α][Inhabited β](f:α->β){l:List α}{i:Nat}(h:i<l.length):J (l.map f) i=f (J l i):=by
 unfold J;rw[List.getD_eq_getElem?_getD,List.getD_eq_getElem?_getD,List.getElem?_map,List.getElem?_eq_getElem h];rfl
abbrev Pt:=Int×Int
def nx(f:aD)(a:Int):List Int:=
 if (J f.ai a.toNat).aP=3 then [(J f.ai a.toNat).A]else if(J f.ai a.toNat).aP=9 then []else if(J f.ai a.toNat).aP=4 then [a+1,(J f.ai a.toNat).B]else [a+1]
def OG(f:aD)(sl a st:Int):Int:=
 if (J f.ai a.toNat).aP=5/\(J f.ai a.toNat).A=sl then 2 else if(J f.ai a.toNat).aP=6/\st=2 then 4 else st
def nw(V:List Pt)(s:Int):List Int->List Pt
 | []=>[]
 | n::ns=>if(n,s)∈V then nw V s ns else(n,s)::nw (V++[(n,s)]) s ns
def Qf(f:aD)(sl:Int):Nat->List Pt->Nat->List Pt
 | 0,V,_=>V
 | d+1,V,k=>if k<V.length then Qf f sl d (V++nw V (OG f sl (J V k).1 (J V k).2) (nx f (J V k).1)) (k+1)else V
structure OH(f:aD):Prop where
 lo:1<=f.ai.length
 hi:f.ai.length<=512
 nx:∀a:Int,0<=a->a<f.ai.length->∀n∈nx f a,0<=n/\n<f.ai.length
 kind:∀a:Int,0<=a->a<f.ai.length->0<=(J f.ai a.toNat).aP/\(J f.ai a.toNat).aP<10
def Rr(s:Int):Prop:=s=1∨s=2∨s=4
structure MV(f:aD)(V:List Pt):Prop where
 VE:∀x∈V,0<=x.1/\x.1<f.ai.length/\Rr x.2
 nd:V.Nodup
theorem Ib:∀(n:Nat) (l:List Nat),l.Nodup->(∀x∈l,x<n)->l.length<=n
 | 0,l,_,h=>by cases l with | nil=>simp | cons a l=>exact absurd (h a (by simp)) I
 | n+1,l,hd,h=>by
  by_cases e:n∈l
  ·have:=Ib n (l.erase n) (hd.erase n) (λx hx=>by
    have h1:=h x (List.mem_of_mem_erase hx);have:x≠n:=λe=>by subst e;exact(List.Nodup.not_mem_erase hd) hx
    omega)
   rw[List.length_erase_of_mem e]at this;omega
  ·have:=Ib n l hd (λx hx=>by
    have h1:=h x hx;have:x≠n:=λe'=>by subst e';exact e hx
    omega)
   omega
def cd(x:Pt):Nat:=x.1.toNat*3+(if x.2=1 then 0 else if x.2=2 then 1 else 2)
theorem MV.len{f:aD}{V:List Pt}(h:MV f V):V.length<=3*f.ai.length:=by
 have:=Ib (3*f.ai.length) (V.map cd) (by
  refine List.pairwise_map.2 (h.nd.imp_of_mem λ{x y} hx hy hxy e=>hxy ?_);obtain⟨a1,a2,a3⟩:=h.VE x hx;obtain⟨b1,b2,b3⟩:=h.VE y hy;obtain⟨x1,x2⟩:=x;obtain⟨y1,y2⟩:=y;unfold cd at e;simp only at *;rcases a3 with rfl | rfl | rfl<;>rcases b3 with rfl | rfl | rfl<;>simp at e<;>first | omega | (obtain rfl:x1=y1:=I);rfl) (λn hn=>by
  obtain⟨x,hx,rfl⟩:=List.mem_map.1 hn;obtain⟨a1,a2,a3⟩:=h.VE x hx;unfold cd;rcases a3 with h | h | h<;>simp only[h]<;>simp<;>omega)
 simpa using this
theorem KR{f:aD}{s:Int}(hs:Rr s):∀(ns:List Int) (V:List Pt),MV f V->(∀n∈ns,0<=n/\n<f.ai.length)->MV f (V++nw V s ns)/\∀n∈ns,(n,s)∈V++nw V s ns
 | [],V,h,_=>by simp[nw];exact h
 | n::ns,V,h,hn=>by
  unfold nw;split
  ·rename_i e;obtain⟨a,b⟩:=KR hs ns V h (λm hm=>hn m (L4 _ hm));refine⟨a,λm hm => ?_⟩;rcases List.mem_cons.1 hm with rfl | hm
   ·exact List.mem_append_left _ e
   ·exact b m hm
  ·rename_i e;have h':MV f (V++[(n,s)]):=⟨λx hx=>by
    rcases List.mem_append.1 hx with hx | hx
    ·exact h.VE x hx
    ·rw[List.mem_singleton.1 hx];exact⟨(hn n (by simp)).1,(hn n (by simp)).2,hs⟩,List.nodup_append.2 ⟨h.nd,by simp,λx hx y hy e'=>by rw[List.mem_singleton.1 hy]at e';subst e';exact e hx⟩⟩
   obtain⟨a,b⟩:=KR hs ns (V++[(n,s)]) h' (λm hm=>hn m (L4 _ hm));rw[s5,JT]at a b;refine⟨a,λm hm => ?_⟩;rcases List.mem_cons.1 hm with rfl | hm
   ·simp
   ·exact b m hm
def DM(f:aD)(sl:Int)(V:List Pt)(k:Nat):Prop:=∀j,j<k->j<V.length->∀n∈nx f (J V j).1,(n,OG f sl (J V j).1 (J V j).2)∈V
theorem Y9{f:aD}{sl a s:Int}(h:Rr s):Rr (OG f sl a s):=by
 unfold OG;split
 ·exact .inr (.inl rfl)
 ·split
  ·exact .inr (.inr rfl)
  ·exact h
theorem Fp{f:aD}(hf:OH f){sl:Int}{V:List Pt}{k:Nat}(h:MV f V)(hk:k<V.length)(hc:DM f sl V k) :
 MV f (V++nw V (OG f sl (J V k).1 (J V k).2) (nx f (J V k).1))/\DM f sl (V++nw V (OG f sl (J V k).1 (J V k).2) (nx f (J V k).1)) (k+1):=by
 obtain⟨a1,a2,a3⟩:=h.VE _ (tD hk);obtain⟨a,b⟩:=KR (Y9 (f:=f) (sl:=sl) (a:=(J V k).1) a3) (nx f (J V k).1) V h (hf.nx _ a1 a2);refine⟨a,λj hj hl n hn => ?_⟩;have hjV:j<V.length:=by omega
 rw[s7 hjV]at hn⊢;by_cases e:j=k
 ·subst e;exact b n hn
 ·exact List.mem_append_left _ (hc j I hjV n hn)
theorem TU{f:aD}(hf:OH f){sl:Int}:∀(d k:Nat) (V:List Pt),k+d=3*f.ai.length->MV f V->DM f sl V k->k<=V.length->
 MV f (Qf f sl d V k)/\DM f sl (Qf f sl d V k) (Qf f sl d V k).length/\(∀x∈V,x∈Qf f sl d V k)
 | 0,k,V,hd,h,hc,hk=>by
  unfold Qf;have:=h.len;obtain rfl:k=V.length:=by omega
  exact⟨h,hc,λ_ h=>h⟩
 | d+1,k,V,hd,h,hc,hk=>by
  unfold Qf;split
  ·rename_i e;obtain⟨a,b⟩:=Fp hf h e hc;obtain⟨r1,r2,r3⟩:=TU hf d (k+1) _ I a b (by rw[kQ];omega);exact⟨r1,r2,λx hx=>r3 x (List.mem_append_left _ hx)⟩
  ·rename_i e;obtain rfl:k=V.length:=by omega
   exact⟨h,hc,λ_ h=>h⟩
def wt(V:List Pt)(a:Int):Int:=(if(a,1)∈V then 1 else 0)+(if(a,2)∈V then 2 else 0)+(if(a,4)∈V then 4 else 0)
structure X0(f:aD)(V:List Pt)(met:List Int):Prop where
 len:met.length=f.ai.length
 val:∀a,a<f.ai.length->J met a=wt V a
theorem abJ:∀(a b c:Bool) (s:Int),Rr s->((iq ((if a then 1 else 0)+(if b then 2 else 0)+(if c then 4 else 0)) s=0)↔(s=1/\a=false)∨(s=2/\b=false)∨(s=4/\c=false)):=by
 intro a b c s hs;rcases hs with rfl | rfl | rfl<;>cases a<;>cases b<;>cases c<;>decide
theorem GN{V:List Pt}{a s:Int}(hs:Rr s):iq (wt V a) s=0↔(a,s)∉V:=by
 have:=abJ (decide ((a,1)∈V)) (decide ((a,2)∈V)) (decide ((a,4)∈V)) s hs;simp only[BI,decide_eq_false_iff_not]at this;unfold wt;rw[this];rcases hs with rfl | rfl | rfl<;>simp
theorem Za{V:List Pt}{a:Int}:0<=wt V a/\wt V a<=7:=by
 unfold wt;split<;>split<;>split<;>omega
theorem Zb{V:List Pt}{n s:Int}(hs:Rr s)(hn:(n,s)∉V)(a:Int):wt (V++[(n,s)]) a=if a=n then wt V a+s else wt V a:=by
 unfold wt;by_cases e:a=n
 ·subst e;rw[aM rfl];rcases hs with rfl | rfl | rfl<;>simp[hn]<;>omega
 ·rw[bZ e];simp[e]
theorem X0.add{f:aD}{V:List Pt}{met:List Int}{n s:Int}(h:X0 f V met)(hs:Rr s)(hn:(n,s)∉V)(h0:0<=n)(h1:n<f.ai.length) :
 X0 f (V++[(n,s)]) (met.set n.toNat (wi (J met n.toNat+s))):=by
 refine⟨by rw[gV];exact h.len,λa ha => ?_⟩;rw[Zb hs hn];by_cases e:n.toNat=a
 ·subst e;rw[uK (by rw[h.len];omega),sR,h.val _ ha];have:=Za (V:=V) (a:=((n.toNat:Nat):Int));rw[eO];rcases hs with rfl | rfl | rfl<;>omega
 ·rw[zq e,eu,h.val a ha]
theorem OJ{f:aD}{s:Int}(hs:Rr s){ns:List Int}(Re:∀n∈ns,0<=n/\n<f.ai.length)(hlen:f.ai.length<=512)(X1:ns.length<=2):∀(d k i:Nat) (V:List Pt) (met:List Int),i+d=ns.length->d<k->MV f V->X0 f V met->
 ∃met',gM K s ns k met (V.map (·.1)) (V.map (·.2)) (i:Int)=some (met',(V++nw V s (ns.drop i)).map (·.1),(V++nw V s (ns.drop i)).map (·.2))/\X0 f (V++nw V s (ns.drop i)) met'
 | d,k,i,V,met,hd,hk,hV,hm=>by
  obtain⟨k,rfl⟩ :∃m,k=m+1:=⟨k-1,I⟩;rw[gM];have hL:=hV.len;by_cases hi:i<ns.length
  ·obtain⟨d,rfl⟩ :∃m,d=m+1:=⟨d-1,I⟩;have hdr:ns.drop i=J ns i::ns.drop (i+1):=by
    rw[PS hi];unfold J;rw[List.getD_eq_getElem?_getD,List.getElem?_eq_getElem hi];rfl
   obtain⟨n0,n1⟩:=Re _ (tD hi);rw[sR,aM ⟨I,I⟩,cL,aM ⟨n0,by rw[hm.len];exact n1⟩,hm.val _ I,show(((J ns i).toNat:Nat):Int)=J ns i by omega,D5 I,hdr];rw[nw];by_cases e:(J ns i,s)∈V
   ·rw[bZ (λh=>(GN hs).1 h e),aM e];exact OJ hs Re hlen X1 d k (i+1) V met I I hV hm
   ·rw[aM ((GN hs).2 e),bZ e,aM (by rw[C5];omega),aM (by rw[C5];omega)];have hV':MV f (V++[(J ns i,s)]):=⟨λx hx=>by
     rcases List.mem_append.1 hx with hx | hx
     ·exact hV.VE x hx
     ·rw[List.mem_singleton.1 hx];exact⟨n0,n1,hs⟩,List.nodup_append.2 ⟨hV.nd,by simp,λx hx y hy e'=>by rw[List.mem_singleton.1 hy]at e';subst e';exact e hx⟩⟩
    have hm':=hm.add hs e n0 n1;rw[hm.val _ I,show(((J ns i).toNat:Nat):Int)=J ns i by omega]at hm';obtain⟨met',r1,r2⟩:=OJ hs Re hlen X1 d k (i+1) _ _ I I hV' hm';refine⟨met',?_,?_⟩
    ·rw[G4,G4,s5,JT]at r1;exact r1
    ·rw[s5,JT]at r2;exact r2
  ·rw[eu,G0 I];simp only[nw,G7];exact⟨met,rfl,hm⟩
theorem MW{f:aD}{sl a s:Int}:qt (J f.ai a.toNat) sl s=some (OG f sl a s)/\wB (J f.ai a.toNat) sl s=some (OG f sl a s):=by
 unfold qt wB OG;by_cases h1:(J f.ai a.toNat).aP=5
 ·by_cases h2:(J f.ai a.toNat).A=sl
  ·simp[h1,h2]
  ·simp[h1,h2]
 ·by_cases h2:(J f.ai a.toNat).aP=6
  ·by_cases h3:s=2<;>simp[h1,h2,h3]
  ·simp[h1,h2]
theorem TV{f:aD}(hlen:f.ai.length<=512){a:Int}(h0:0<=a)(h1:a<f.ai.length):qu f a=some (nx f a):=by
 unfold qu nx;rw[aM ⟨h0,h1⟩,eO (x:=a+1) I];split
 ·rfl
 ·split
  ·rfl
  ·split<;>rfl
theorem KS{f:aD}{a:Int}:(nx f a).length<=2:=by
 unfold nx;split
 ·simp
 split
 ·simp
 split<;>simp
theorem TW{f:aD}(hf:OH f){sl:Int}(hK:3000<K):∀(d j k:Nat) (V:List Pt) (met:List Int),j+d=3*f.ai.length->d<k->j<=V.length->MV f V->DM f sl V j->X0 f V met->
 ∃met',iC K f sl k met (V.map (·.1)) (V.map (·.2)) (j:Int)=some met'/\X0 f (Qf f sl d V j) met'
 | d,j,k,V,met,hd,hk,hj,hV,hc,hm=>by
  obtain⟨k,rfl⟩ :∃m,k=m+1:=⟨k-1,I⟩;rw[iC];have hL:=hV.len;have KT:=hf.hi;by_cases hi:j<V.length
  ·obtain⟨d,rfl⟩ :∃m,d=m+1:=⟨d-1,I⟩;obtain⟨a1,a2,a3⟩:=hV.VE _ (tD hi);rw[aM (by rw[C5];omega),aM ⟨I,by rw[C5];omega⟩,cL,KQ _ hi,KQ _ hi,aM ⟨a1,a2⟩,aM ⟨I,by rw[C5];omega⟩,MW.1,aq,TV KT a1 a2,aq,D5 I];obtain⟨met',r1,r2⟩:=OJ (K:=K) (f:=f) (s:=OG f sl (J V j).1 (J V j).2) (Y9 a3) (ns:=nx f (J V j).1) (hf.nx _ a1 a2) KT KS (nx f (J V j).1).length K 0 V met I (by have:=KS (f:=f) (a:=(J V j).1);omega) hV hm;rw[rj]at r1;rw[r1,dc,Qf,aM hi];obtain⟨b1,b2⟩:=Fp hf hV hi hc;exact TW hf hK d (j+1) k _ _ I I (by rw[kQ];omega) b1 b2 r2
  ·rw[bZ (by rw[C5];omega)];refine⟨met,rfl,?_⟩;cases d with
   | zero=>exact hm
   | succ d=>rw[Qf,bZ hi];exact hm
def reach(f:aD)(sl:Int):List Pt:=Qf f sl (3*f.ai.length) [(0,1)] 0
theorem Zc{f:aD}(hf:OH f):MV f [(0,1)]:=⟨λx hx=>by rw[List.mem_singleton.1 hx];exact⟨dO,by have:=hf.lo;omega,.inl rfl⟩,by simp⟩
theorem Ic{f:aD}(hf:OH f)(sl:Int):MV f (reach f sl)/\DM f sl (reach f sl) (reach f sl).length/\(0,1)∈reach f sl:=by
 obtain⟨a,b,c⟩:=TU hf (sl:=sl) (3*f.ai.length) 0 [(0,1)] I (Zc hf) (λj hj=>I) (by simp);exact⟨a,b,c _ (by simp)⟩
theorem OL{f:aD}(hf:OH f)(sl:Int)(hK:3000<K) :∃met,mM K f sl=some met/\X0 f (reach f sl) met:=by
 unfold mM;have h1:=hf.lo;have h2:=hf.hi;rw[aM ⟨I,I⟩,aM ⟨dO,by rw[nX];omega⟩];exact TW hf hK (3*f.ai.length) 0 K [(0,1)] _ I I (by simp) (Zc hf) (λj hj=>I) ⟨by simp,λa ha=>by
  by_cases e:a=0
  ·subst e;rw[uK (by simpa using ha)];simp[wt]
  ·rw[zq I,ED ha];unfold wt;rw[bZ (by simp;omega),bZ (by simp),bZ (by simp)];rfl⟩
end
section
variable {K:Nat}
abbrev pt(x:Pt):aT:=⟨x.1,x.2⟩
theorem Zd{x y:Pt}(h:pt x=pt y):x=y:=by
 obtain⟨a,b⟩:=x;obtain⟨c,d⟩:=y;simp only[pt,aT.mk.injEq]at h;rw[h.1,h.2]
theorem MX{β:Type}:∀(l:List (aT×β)) (k:aT),(yj l k).isSome=true↔k∈l.map (·.1)
 | [],k=>by simp[yj]
 | (a,b)::l,k=>by
  unfold yj;by_cases e:k=a
  ·simp[e]
  ·rw[bZ e,MX l k];simp[e]
theorem mem_keys{V:List Pt}{m:List (aT×aT)}(h:m.map (·.1)=V.map pt)(x:Pt):(yj m (pt x)).isSome=true↔x∈V:=by
 rw[MX,h,List.mem_map];exact⟨λ⟨y,hy,e⟩=>Zd e▸ hy,λhx=>⟨x,hx,rfl⟩⟩
theorem KU{f:aD}{s:Int}(hs:Rr s){ns:List Int}(l8:List aT)(Re:∀n∈ns,0<=n/\n<f.ai.length)(hlen:f.ai.length<=512)(X1:ns.length<=2):∀(d k i:Nat) (V:List Pt) (m:List (aT×aT)) (afU:List aT),i+d=ns.length->d<k->MV f V->m.map (·.1)=V.map pt->afU.length<=V.length->
 ∃m',jH K l8 s ns k m afU (i:Int)=some (m',afU++(nw V s (ns.drop i)).map pt)/\m'.map (·.1)=(V++nw V s (ns.drop i)).map pt
 | d,k,i,V,m,afU,hd,hk,hV,hm,hW=>by
  obtain⟨k,rfl⟩ :∃m,k=m+1:=⟨k-1,I⟩;rw[jH];have hL:=hV.len;by_cases hi:i<ns.length
  ·obtain⟨d,rfl⟩ :∃m,d=m+1:=⟨d-1,I⟩;have hdr:ns.drop i=J ns i::ns.drop (i+1):=by
    rw[PS hi];unfold J;rw[List.getD_eq_getElem?_getD,List.getElem?_eq_getElem hi];rfl
   obtain⟨n0,n1⟩:=Re _ (tD hi);rw[sR,aM ⟨I,I⟩,cL,D5 I,hdr,nw];by_cases e:(J ns i,s)∈V
   ·rw[aM ((mem_keys hm (J ns i,s)).2 e),aM e];exact KU hs l8 Re hlen X1 d k (i+1) V m afU I I hV hm hW
   ·have e0:¬(yj m (⟨J ns i,s⟩:aT)).isSome=true:=λh=>e ((mem_keys hm (J ns i,s)).1 h);have e1:yj m (⟨J ns i,s⟩:aT)=none:=by
     cases h:yj m (⟨J ns i,s⟩:aT)with
     | none=>rfl
     | some x=>rw[h]at e0;exact absurd rfl e0
    rw[bZ e0,bZ e,aM e1,sR];have hV':MV f (V++[(J ns i,s)]):=⟨λx hx=>by
     rcases List.mem_append.1 hx with hx | hx
     ·exact hV.VE x hx
     ·rw[List.mem_singleton.1 hx];exact⟨n0,n1,hs⟩,List.nodup_append.2 ⟨hV.nd,by simp,λx hx y hy e'=>by rw[List.mem_singleton.1 hy]at e';subst e';exact e hx⟩⟩
    obtain⟨m',r1,r2⟩:=KU hs l8 Re hlen X1 d k (i+1) (V++[(J ns i,s)]) (m++[((⟨J ns i,s⟩:aT),J l8 0)]) (afU++[(⟨J ns i,s⟩:aT)]) I I hV' (by rw[G4,G4,hm];rfl) (by simp;omega);refine⟨m',?_,?_⟩
    ·rw[s5,JT]at r1;exact r1
    ·rw[s5,JT]at r2;exact r2
  ·rw[eu,G0 I];simp only[nw,G7,Ea];exact⟨m,rfl,hm⟩
theorem ad0{k:Int}(h0:0<=k)(h1:k<10):(J yy k.toNat).next = !(decide (k=3)||decide (k=9)):=by
 rcases(by omega:k=0∨k=1∨k=2∨k=3∨k=4∨k=5∨k=6∨k=7∨k=8∨k=9)with rfl | rfl | rfl | rfl | rfl | rfl | rfl | rfl | rfl | rfl<;>rfl
theorem Rs{f:aD}(hf:OH f){a:Int}(h0:0<=a)(h1:a<f.ai.length):wC f a=some (nx f a):=by
 have KT:=hf.hi;obtain⟨k0,k1⟩:=hf.kind a h0 h1;have hn:=hf.nx a h0 h1;unfold wC;rw[aM ⟨h0,h1⟩,aM ⟨k0,by exact k1⟩,ad0 k0 k1,eO (x:=a+1) I];unfold nx at hn⊢;by_cases e3:(J f.ai a.toNat).aP=3
 ·simp[e3]
 ·by_cases e9:(J f.ai a.toNat).aP=9
  ·simp[e9]
  ·by_cases e4:(J f.ai a.toNat).aP=4
   ·have:a+1<f.ai.length:=by rw[bZ e3,bZ e9,aM e4]at hn;exact(hn (a+1) (by simp)).2
    simp[e4,this]
   ·have:a+1<f.ai.length:=by rw[bZ e3,bZ e9,bZ e4]at hn;exact(hn (a+1) (by simp)).2
    simp[e3,e4,e9,this]
theorem Qg{f:aD}(hf:OH f){sl:Int}(hK:3000<K):∀(d j k:Nat) (V:List Pt) (m:List (aT×aT)),j+d=3*f.ai.length->d<k->j<=V.length->MV f V->DM f sl V j->m.map (·.1)=V.map pt->
 ∃m',lC K f sl k m ((V.drop j).map pt)=some m'/\m'.map (·.1)=(Qf f sl d V j).map pt
 | d,j,k,V,m,hd,hk,hj,hV,hc,hm=>by
  obtain⟨k,rfl⟩ :∃m,k=m+1:=⟨k-1,I⟩;rw[lC];have hL:=hV.len;have KT:=hf.hi;by_cases hi:j<V.length
  ·obtain⟨d,rfl⟩ :∃m,d=m+1:=⟨d-1,I⟩;obtain⟨a1,a2,a3⟩:=hV.VE _ (tD hi);have hl:((V.drop j).map pt).length=V.length-j:=by simp
   have h0:J ((V.drop j).map pt) 0=pt (J V j):=by
    rw[KQ _ (by simp;omega)];congr 1;unfold J;simp[List.getD_eq_getElem?_getD]
   have h1:((V.drop j).map pt).drop 1=(V.drop (j+1)).map pt:=by rw[<-List.map_drop,List.drop_drop]
   rw[aM (by rw[hl];omega),aM ⟨dO,by rw[hl];omega⟩,aM ⟨dO,by rw[hl];omega⟩,aM (by rw[hl];omega),h0,h1,vW,aq,bZ dO,aM ⟨a1,a2⟩,MW.2,aq,Rs hf a1 a2,aq];obtain⟨m',r1,r2⟩:=KU (K:=K) (f:=f) (s:=OG f sl (J V j).1 (J V j).2) (Y9 a3) (ns:=nx f (J V j).1) ((V.drop j).map pt) (hf.nx _ a1 a2) KT KS (nx f (J V j).1).length K 0 V m ((V.drop (j+1)).map pt) I (by have:=KS (f:=f) (a:=(J V j).1);omega) hV hm (by simp);rw[rj]at r1;rw[r1,eF,Qf,aM hi,pW];rw[pW]at r2;obtain⟨b1,b2⟩:=Fp hf hV hi hc;rw[show(V.drop (j+1)).map pt++(nw V (OG f sl (J V j).1 (J V j).2) (nx f (J V j).1)).map pt=((V++nw V (OG f sl (J V j).1 (J V j).2) (nx f (J V j).1)).drop (j+1)).map pt by rw[JN I,G4]];exact Qg hf hK d (j+1) k _ m' I I (by rw[kQ];omega) b1 b2 r2
  ·have:(V.drop j).map pt=[]:=by rw[G0 I];rfl
   rw[this,bZ (by simp)];refine⟨m,rfl,?_⟩;cases d with
   | zero=>exact hm
   | succ d=>rw[Qf,bZ hi];exact hm
theorem Wv{f:aD}(hf:OH f)(sl:Int)(hK:3000<K) :∃m,rD K f sl=some m/\m.map (·.1)=(reach f sl).map pt:=by
 unfold rD;have h2:=hf.hi;exact Qg hf hK (3*f.ai.length) 0 K [(0,1)] _ I I (by simp) (Zc hf) (λj hj=>I) rfl
structure Qh(f:aD)(R:List (List Int))(n:Nat):Prop where
 len:R.length=f.ai.length
 wid:∀a,a<f.ai.length->(J R a).length=f.bP.toNat
 val:∀a,a<f.ai.length->∀c,c<n->c<f.bP.toNat->J (J R a) c=wt (reach f c) a
 zero:∀a,a<f.ai.length->∀c,n<=c->c<f.bP.toNat->J (J R a) c=0
theorem TX{f:aD}{R Q:List (List Int)}{n:Nat}(h:Qh f R n)(k:Qh f Q n):R=Q:=by
 have ext:∀{α:Type} [Inhabited α] (x y:List α),x.length=y.length->(∀i,i<x.length->J x i=J y i)->x=y:=by
  intro α _ x y hl he;refine L2 hl λi h1 h2 => ?_;have:=he i h1;unfold J at this;rw[List.getD_eq_getElem?_getD,List.getD_eq_getElem?_getD,List.getElem?_eq_getElem h1,List.getElem?_eq_getElem h2]at this;exact this
 refine ext R Q (by rw[h.len,k.len]) λi hi => ?_;rw[h.len]at hi;exact ext _ _ (by rw[h.wid i hi,k.wid i hi]) λc hc=>by
  rw[h.wid i hi]at hc;by_cases e:c<n
  ·rw[h.val i hi c e hc,k.val i hi c e hc]
  ·rw[h.zero i hi c I hc,k.zero i hi c I hc]
end
section
variable {K:Nat}
theorem qU{α:Type}[Inhabited α]{l:List α}{i k:Nat}{x:α}(h:i<l.length):J (l.set i x) k=if k=i then x else J l k:=by
 by_cases e:k=i
 ·subst e;rw[uK h,aM rfl]
 ·rw[zq (λe'=>e e'.symm),bZ e]
def Zero(f:aD)(R:List (List Int))(i:Nat):Prop:=R.length=f.ai.length/\∀a,a<i->J R a=List.replicate f.bP.toNat 0
theorem Qi{f:aD}(hf:OH f)(h0:0<=f.bP)(h8:f.bP<=8):∀(d k i:Nat) (R:List (List Int)),i+d=f.ai.length->d<k->Zero f R i->
 ∃R',lz K f k R (i:Int)=some R'/\pq K f k R (i:Int)=some R'/\Zero f R' f.ai.length
 | d,k,i,R,hd,hk,hz=>by
  obtain⟨k,rfl⟩ :∃m,k=m+1:=⟨k-1,I⟩;rw[lz,pq];have h2:=hf.hi;by_cases hi:i<f.ai.length
  ·obtain⟨d,rfl⟩ :∃m,d=m+1:=⟨d-1,I⟩;rw[aM (by rw[nX];omega),aM ⟨h0,I⟩,aM ⟨I,by rw[hz.1];omega⟩,aM (by rw[nX];omega),aM ⟨h0,I⟩,aM ⟨I,by rw[hz.1];omega⟩,cL,D5 I];exact Qi hf h0 h8 d k (i+1) _ I I ⟨by rw[gV];exact hz.1,λa ha=>by
    rw[qU (by rw[hz.1];exact hi)];split
    ·rfl
    ·exact hz.2 a I⟩
  ·rw[bZ (by rw[nX];omega),bZ (by rw[nX];omega)];obtain rfl:i=f.ai.length:=by omega
   exact⟨R,rfl,rfl,hz⟩
structure TY(f:aD)(R R':List (List Int))(c:Nat)(i:Nat)(v:Nat->Int):Prop where
 len:R'.length=f.ai.length
 wid:∀a,a<f.ai.length->(J R' a).length=f.bP.toNat
 lo:∀a,a<i->a<f.ai.length->J (J R' a) c=v a
 hi:∀a,i<=a->a<f.ai.length->J (J R' a) c=J (J R a) c
 TZ:∀a,a<f.ai.length->∀b,b≠c->J (J R' a) b=J (J R a) b
theorem TY.tab{f:aD}{R R':List (List Int)}{c:Nat}(h:Qh f R c)(k:TY f R R' c f.ai.length (λa=>wt (reach f c) a)):Qh f R' (c+1):=by
 refine⟨k.len,k.wid,λa ha b hb hs => ?_,λa ha b hb hs => ?_⟩
 ·by_cases e:b=c
  ·subst e;exact k.lo a ha ha
  ·rw[k.TZ a ha b e];exact h.val a ha b I hs
 ·rw[k.TZ a ha b I];exact h.zero a ha b I hs
theorem Qj{f:aD}(hf:OH f){c:Nat}(hc:c<f.bP.toNat){met:List Int}(hm:met.length=f.ai.length){R:List (List Int)}:∀(d k i:Nat) (Q:List (List Int)),i+d=f.ai.length->d<k->TY f R Q c i (λa=>J met a)->
 ∃R',lA K f (c:Int) met k Q (i:Int)=some R'/\TY f R R' c f.ai.length (λa=>J met a)
 | d,k,i,Q,hd,hk,hz=>by
  obtain⟨k,rfl⟩ :∃m,k=m+1:=⟨k-1,I⟩;rw[lA];have h2:=hf.hi;by_cases hi:i<f.ai.length
  ·obtain⟨d,rfl⟩ :∃m,d=m+1:=⟨d-1,I⟩;have hl:=hz.len;have hw:=hz.wid i hi;rw[aM (by rw[nX];omega),aM ⟨I,I⟩,aM ⟨I,I⟩,cL,aM ⟨I,by rw[hw];omega⟩,cL,D5 I];refine Qj hf hc hm d k (i+1) _ I I ⟨by rw[gV];exact hl,λa ha => ?_,λa ha hb => ?_,λa ha hb => ?_,λa ha b hb => ?_⟩
   ·rw[qU I];split
    ·rw[gV];exact hw
    ·exact hz.wid a ha
   ·rw[qU I];split
    ·rename_i e;subst e;rw[uK I]
    ·exact hz.lo a I hb
   ·rw[qU I,eu];exact hz.hi a I hb
   ·rw[qU I];split
    ·rename_i e;subst e;rw[zq (λe=>hb e.symm)];exact hz.TZ a ha b hb
    ·exact hz.TZ a ha b hb
  ·rw[bZ (by rw[nX];omega)];obtain rfl:i=f.ai.length:=by omega
   exact⟨Q,rfl,hz⟩
theorem TY.zero{f:aD}{R:List (List Int)}{c n:Nat}(h:Qh f R n)(v:Nat->Int):TY f R R c 0 v:=⟨h.len,h.wid,λa ha=>I,λ_ _ _=>rfl,λ_ _ _ _=>rfl⟩
theorem Qk{f:aD}(hf:OH f)(h0:0<=f.bP)(h8:f.bP<=8)(hK:3000<K):∀(d k i:Nat) (R:List (List Int)),i+d=f.bP.toNat->d<k->Qh f R i->
 ∃R',lB K f k R (i:Int)=some R'/\Qh f R' f.bP.toNat
 | d,k,i,R,hd,hk,hz=>by
  obtain⟨k,rfl⟩ :∃m,k=m+1:=⟨k-1,I⟩;rw[lB];have h2:=hf.hi;by_cases hi:i<f.bP.toNat
  ·obtain⟨d,rfl⟩ :∃m,d=m+1:=⟨d-1,I⟩;obtain⟨met,e1,e2⟩:=OL (K:=K) hf (i:Int) hK;obtain⟨R',r1,r2⟩:=Qj (K:=K) hf hi e2.len f.ai.length K 0 R I I (TY.zero hz _);rw[sR,e1,aq,rj]at *;rw[r1,aq,D5 I];refine Qk hf h0 h8 hK d k (i+1) R' I I (TY.tab hz ⟨r2.len,r2.wid,λa ha hb => ?_,r2.hi,r2.TZ⟩);rw[r2.lo a ha hb];exact e2.val a hb
  ·rw[eu];obtain rfl:i=f.bP.toNat:=by omega
   exact⟨R,rfl,hz⟩
theorem Ze:∀(a b c:Bool) (s:Int),Rr s->(Of ((if a then 1 else 0)+(if b then 2 else 0)+(if c then 4 else 0)) s)=(if a||decide (s=1)then 1 else 0)+(if b||decide (s=2)then 2 else 0)+(if c||decide (s=4)then 4 else 0):=by
 intro a b c s hs;rcases hs with rfl | rfl | rfl<;>cases a<;>cases b<;>cases c<;>decide
theorem abK{V:List Pt}{a s:Int}(hs:Rr s):Of (wt V a) s=wt (V++[(a,s)]) a:=by
 have:=Ze (decide ((a,1)∈V)) (decide ((a,2)∈V)) (decide ((a,4)∈V)) s hs;simp only[BI]at this;unfold wt;rw[this];simp only[List.mem_append,List.mem_singleton,Prod.mk.injEq,true_and];rcases hs with rfl | rfl | rfl<;>simp
theorem abL{V:List Pt}{a b s:Int}(h:a≠b):wt (V++[(b,s)]) a=wt V a:=by unfold wt;simp[h]
theorem Zf{V afU:List Pt}(h:∀x,x∈V↔x∈afU)(a:Int):wt V a=wt afU a:=by unfold wt;simp only[h]
theorem Ql{f:aD}(hf:OH f){c:Nat}(hc:c<f.bP.toNat){R:List (List Int)}:∀(l:List (aT×aT)) (U:List Pt) (Q:List (List Int)),(∀x∈l,0<=x.1.J/\x.1.J<f.ai.length/\Rr x.1.state)->TY f R Q c f.ai.length (λa=>wt U a)->
 ∃R',l.foldlM (λs x=>pB K (c:Int) x s) Q=some R'/\TY f R R' c f.ai.length (λa=>wt (U++l.map (λx=>(x.1.J,x.1.state))) a)
 | [],U,Q,_,hz=>⟨Q,rfl,by simpa using hz⟩
 | x::l,U,Q,hl,hz=>by
  obtain⟨a1,a2,a3⟩:=hl x (by simp);have hL:=hz.len;have hw:=hz.wid x.1.J.toNat I;rw[List.foldlM_cons,pB,aM ⟨a1,I⟩,aM ⟨I,by rw[hw];omega⟩,cL];have hv:J (J Q x.1.J.toNat) c=wt U ((x.1.J.toNat:Nat):Int):=hz.lo x.1.J.toNat I I;rw[hv,abK a3,show((x.1.J.toNat:Nat):Int)=x.1.J by omega];obtain⟨R',r1,r2⟩:=Ql hf hc (R:=R) l (U++[(x.1.J,x.1.state)]) (Q.set x.1.J.toNat ((J Q x.1.J.toNat).set c (wt (U++[(x.1.J,x.1.state)]) x.1.J))) (λy hy=>hl y (L4 _ hy)) (by
   refine⟨by rw[gV];exact hL,λa ha => ?_,λa ha hb => ?_,λa ha hb=>I,λa ha b hb => ?_⟩
   ·rw[qU I];split
    ·rw[gV];exact hw
    ·exact hz.wid a ha
   ·rw[qU I];split
    ·rename_i e;subst e;rw[uK I,show((x.1.J.toNat:Nat):Int)=x.1.J by omega]
    ·rename_i e;rw[hz.lo a ha hb,abL I]
   ·rw[qU I];split
    ·rename_i e;subst e;rw[zq (λe=>hb e.symm)];exact hz.TZ _ ha b hb
    ·exact hz.TZ a ha b hb)
  refine⟨R',r1,?_⟩;rw[s5,JT]at r2;exact r2
theorem Kd{f:aD}(hf:OH f)(h0:0<=f.bP)(h8:f.bP<=8)(hK:3000<K):∀(d k i:Nat) (R:List (List Int)),i+d=f.bP.toNat->d<k->Qh f R i->
 ∃R',pC K f k R (i:Int)=some R'/\Qh f R' f.bP.toNat
 | d,k,i,R,hd,hk,hz=>by
  obtain⟨k,rfl⟩ :∃m,k=m+1:=⟨k-1,I⟩;rw[pC];by_cases hi:i<f.bP.toNat
  ·obtain⟨d,rfl⟩ :∃m,d=m+1:=⟨d-1,I⟩;obtain⟨m,e1,e2⟩:=Wv (K:=K) hf (i:Int) hK;obtain⟨v1,v2,v3⟩:=Ic hf (i:Int);have key:∀l':List (aT×aT),l'.Perm m->∃R',l'.foldlM (λs x=>pB K (i:Int) x s) R=some R'/\Qh f R' (i+1):=by
    intro l' hp;have hr:∀x∈l',(x.1.J,x.1.state)∈reach f (i:Int):=λx hx=>by
     have:x.1∈m.map (·.1):=List.mem_map.2 ⟨x,hp.mem_iff.1 hx,rfl⟩;rw[e2]at this;obtain⟨y,hy,e⟩:=List.mem_map.1 this;rw[<-e];exact hy
    obtain⟨R',r1,r2⟩:=Ql (K:=K) hf hi (R:=R) l' [] R (λx hx=>v1.VE _ (hr x hx)) ⟨hz.len,hz.wid,λa _ ha=>by rw[hz.zero a ha i (ja _) hi];rfl,λa _ _=>rfl,λ_ _ _ _=>rfl⟩;refine⟨R',r1,TY.tab hz ⟨r2.len,r2.wid,λa ha hb => ?_,r2.hi,r2.TZ⟩⟩;rw[r2.lo a ha hb];refine Zf (λx => ?_) a;rw[CF,List.mem_map];refine⟨λ⟨y,hy,e⟩=>e▸ hr y hy,λhx => ?_⟩;have:pt x∈m.map (·.1):=by rw[e2];exact List.mem_map.2 ⟨x,hx,rfl⟩
    obtain⟨y,hy,e⟩:=List.mem_map.1 this;exact⟨y,hp.mem_iff.2 hy,by rw[e]⟩
   obtain⟨R',r1,r2⟩:=key m (List.Perm.refl _);have abM:wo (pB K (i:Int)) R m=some R':=My λl' hp=>by
    obtain⟨R2,q1,q2⟩:=key l' hp;rw[q1,TX q2 r2]
   rw[sR,e1,aq,abM,aq,aq,D5 I];exact Kd hf h0 h8 hK d k (i+1) R' I I r2
  ·rw[eu];obtain rfl:i=f.bP.toNat:=by omega
   exact⟨R,rfl,hz⟩
end
section
variable {K:Nat}
def Jb(x:Int):Prop:=-9223372036854775808<=x/\x<=9223372036854775807
structure X2(p:aH):Prop where
 f:∀f∈p.ah,Jb f.aS/\Jb f.cZ/\Jb f.bP
 c:∀f∈p.ah,∀c∈f.ai,Jb c.A/\Jb c.B/\Jb c.C/\Jb c.K
def tM(x n:Int):Bool:=decide (0<=x)&&decide (x<n)
theorem xx{x n:Int}:tM x n=true↔0<=x/\x<n:=by simp[tM]
structure LR(f:aD):Prop where
 O:0<=f.aS
 p8:f.aS<=8
 r1:1<=f.cZ
 rp:f.aS<=f.cZ
 r16:f.cZ<=16
 s0:0<=f.bP
 s8:f.bP<=8
 c1:1<=f.ai.length
 Jc:f.ai.length<=512
theorem MY(f:aD) :∃b,kI f=some b/\u6 f=some b/\(b=true->LR f):=by
 have e:u6 f=kI f:=rfl;rw[e];unfold kI;by_cases h1:f.aS<0
 ·rw[aM h1];exact⟨false,rfl,rfl,λh=>Bool.noConfusion h⟩
 rw[bZ h1];by_cases h2:f.aS>8
 ·rw[aM h2];exact⟨false,rfl,rfl,λh=>Bool.noConfusion h⟩
 rw[bZ h2];by_cases h3:f.cZ<1
 ·rw[aM h3];exact⟨false,rfl,rfl,λh=>Bool.noConfusion h⟩
 rw[bZ h3];by_cases h4:f.cZ<f.aS
 ·rw[aM h4];exact⟨false,rfl,rfl,λh=>Bool.noConfusion h⟩
 rw[bZ h4];by_cases h5:f.cZ>16
 ·rw[aM h5];exact⟨false,rfl,rfl,λh=>Bool.noConfusion h⟩
 rw[bZ h5,fB];by_cases h6:f.bP>=0
 ·rw[aM h6];by_cases h7:f.bP<=8
  ·rw[aM h7];by_cases h8:((f.ai.length:Nat):Int)>=1
   ·rw[aM h8];exact⟨_,rfl,rfl,λh=>⟨I,I,I,I,I,h6,h7,I,by have:=of_decide_eq_true h;omega⟩⟩
   ·rw[bZ h8];exact⟨false,rfl,rfl,λh=>Bool.noConfusion h⟩
  ·rw[bZ h7];exact⟨false,rfl,rfl,λh=>Bool.noConfusion h⟩
 ·rw[bZ h6];exact⟨false,rfl,rfl,λh=>Bool.noConfusion h⟩
def nl(f:aD)(c:cG):Bool:=
 if c.aP=0∨c.aP=8∨c.aP=9 then tM c.A f.cZ
 else if c.aP=1 then tM c.A f.cZ&&tM c.B f.cZ
 else if c.aP=2 then tM c.A f.cZ&&tM c.B f.cZ&&tM c.C f.cZ&&tM c.K 16
 else if c.aP=3 then tM c.A f.ai.length
 else if c.aP=4 then tM c.A f.cZ&&tM c.B f.ai.length
 else if c.aP=5 then tM c.A f.bP
 else if c.aP=6 then true
 else if c.aP=7 then tM c.A f.cZ&&tM c.B f.bP
 else false
def vY(p:aH)(f:aD)(c:cG):Bool:=
 if c.aP=5 then tM c.B p.ah.length&&(decide ((J p.ah c.B.toNat).aS=0)||(decide (0<=c.C)&&decide (c.C<=f.cZ-(J p.ah c.B.toNat).aS)))else true
theorem Ie(x n:Int):gI x n=some (tM x n):=by
 unfold gI tM;by_cases h:0<=x
 ·rw[aM h];simp[h]
 ·rw[bZ h];simp[h]
theorem vZ(x n:Int):(if x>=0 then some (decide (x<n))else some false)=some (tM x n):=by
 unfold tM;by_cases h:0<=x
 ·rw[aM h];simp[h]
 ·rw[bZ h];simp[h]
theorem MZ(f:aD)(c:cG):n5 f c=some (nl f c):=by
 unfold n5 nl;simp only[Ie,aq];by_cases h0:c.aP=0
 ·simp[h0]
 by_cases h8:c.aP=8
 ·simp[h8]
 by_cases h9:c.aP=9
 ·simp[h9]
 simp only[h0,h8,h9,if_false,aq,false_or];have:((c.aP==9)=true)=False:=by simp[h9]
 simp only[this,if_false];by_cases h1:c.aP=1
 ·simp only[h1,if_true];cases tM c.A f.cZ<;>simp
 by_cases h2:c.aP=2
 ·simp only[h2,if_true,bZ (show ¬(2:Int)=1 by decide)];cases tM c.A f.cZ<;>cases tM c.B f.cZ<;>cases tM c.C f.cZ<;>simp[tM];by_cases h:0<=c.K<;>simp[h]
 by_cases h3:c.aP=3
 ·simp[h3]
 by_cases h4:c.aP=4
 ·simp only[h4,if_true,bZ (show ¬(4:Int)=1 by decide),bZ (show ¬(4:Int)=2 by decide),bZ (show ¬(4:Int)=3 by decide)];cases tM c.A f.cZ<;>simp
 by_cases h5:c.aP=5
 ·simp[h5]
 by_cases h6:c.aP=6
 ·simp[h6]
 by_cases h7:c.aP=7
 ·simp only[h7,if_true,bZ (show ¬(7:Int)=1 by decide),bZ (show ¬(7:Int)=2 by decide),bZ (show ¬(7:Int)=3 by decide),bZ (show ¬(7:Int)=4 by decide),bZ (show ¬(7:Int)=5 by decide),bZ (show ¬(7:Int)=6 by decide)];cases tM c.A f.cZ<;>simp
 simp[h1,h2,h3,h4,h5,h6,h7]
theorem Ru{p:aH}{f:aD}{c:cG}(hs:∀g∈p.ah,LR g)(hf:LR f):po p f c=some (vY p f c):=by
 unfold po vY;by_cases h5:c.aP=5
 ·rw[aM h5,aM h5,Ie,aq];cases hb:tM c.B p.ah.length
  ·simp
  ·have hb':=xx.1 hb;have hg:=hs _ (tD (l:=p.ah) (i:=c.B.toNat) I);rw[aM rfl,aM hb'];by_cases hn:(J p.ah c.B.toNat).aS=0
   ·rw[aM hn];simp[hn]
   ·rw[bZ hn,Ie,aq];have:=hg.O;have:=hg.p8;have:=hf.r16;cases hc:tM c.C f.cZ
    ·have:¬(0<=c.C/\c.C<=f.cZ-(J p.ah c.B.toNat).aS):=λh=>by
      have:tM c.C f.cZ=true:=xx.2 ⟨h.1,I⟩;rw[hc]at this;exact Bool.noConfusion this
     simp[hn];intro h;omega
    ·have EE:=xx.1 hc;rw[aM rfl,eO (x:=f.cZ-c.C) I];simp[hn,EE.1];omega
 ·rw[bZ h5,bZ h5]
theorem T0{p:aH}{f:aD}{c:cG}(hs:∀g∈p.ah,LR g)(hf:LR f)(hp:0<p.ah.length):u7 c f p.ah=some (nl f c&&vY p f c):=by
 unfold u7 nl vY;by_cases Ww:c.aP<0
 ·rw[aM Ww];simp only[xl];rw[eu,eu,eu,eu,eu,eu,eu,eu];rfl
 by_cases hk1:c.aP>=10
 ·rw[bZ Ww,aM hk1];simp only[xl];rw[eu,eu,eu,eu,eu,eu,eu,eu];rfl
 rw[bZ Ww,bZ hk1,fB,aM ⟨I,show c.aP<10 by omega⟩,aM hp,ju];have hl:¬((p.ah.length:Nat):Int)<0:=by omega
 have hK:(if c.K<0 then(some (.inr false):Option (Unit⊕Bool))else(if c.K>=16 then some (.inr false)else some (.inl ())))=if tM c.K 16=true then some (.inl ())else some (.inr false):=by
  unfold tM;by_cases h:c.K<0
  ·rw[aM h];simp;omega
  ·rw[bZ h];by_cases h':c.K>=16
   ·rw[aM h'];simp;omega
   ·rw[bZ h'];simp;omega
 unfold xH;rcases(by omega:c.aP=0∨c.aP=1∨c.aP=2∨c.aP=3∨c.aP=4∨c.aP=5∨c.aP=6∨c.aP=7∨c.aP=8∨c.aP=9)with h | h | h | h | h | h | h | h | h | h
 ·simp only[h,show(J yy (0:Int).toNat)=⟨1,0,0,0,true⟩from rfl];simp[vZ];cases tM c.A f.cZ<;>simp[eA,Ag]
 ·simp only[h,show(J yy (1:Int).toNat)=⟨1,1,0,0,true⟩from rfl];simp[vZ];cases tM c.A f.cZ<;>cases tM c.B f.cZ<;>simp[eA,Ag]
 ·simp only[h,show(J yy (2:Int).toNat)=⟨1,1,1,5,true⟩from rfl];simp[vZ];cases tM c.A f.cZ<;>cases tM c.B f.cZ<;>cases tM c.C f.cZ<;>simp[eA,Ag,hK];cases tM c.K 16<;>simp
 ·simp only[h,show(J yy (3:Int).toNat)=⟨3,0,0,0,false⟩from rfl];simp[vZ];cases tM c.A f.ai.length<;>simp[eA,Ag]
 ·simp only[h,show(J yy (4:Int).toNat)=⟨1,3,0,0,true⟩from rfl];simp[vZ];cases tM c.A f.cZ<;>cases tM c.B f.ai.length<;>simp[eA,Ag]
 ·simp only[h,show(J yy (5:Int).toNat)=⟨2,4,0,0,true⟩from rfl];simp[vZ,hl,hp];cases hA:tM c.A f.bP
  ·simp[eA,Ag]
  ·cases hB:tM c.B p.ah.length
   ·simp[eA,Ag]
   ·have hb':=xx.1 hB;have hg:=hs _ (tD (l:=p.ah) (i:=c.B.toNat) I);have:=hg.O;have:=hg.p8;have:=hf.r16;have:=hf.r1;rw[eO (x:=f.cZ-(J p.ah c.B.toNat).aS) I];have hir:bM c.B p.ah.length:=⟨hb'.1,hb'.2⟩;simp[eA,Ag];by_cases hn:(J p.ah c.B.toNat).aS=0
    ·simp[hn];exact hir
    ·simp[hn];by_cases hc:0<=c.C<;>simp[hc]<;>exact hir
 ·simp only[h,show(J yy (6:Int).toNat)=⟨0,0,0,0,true⟩from rfl];simp[vZ,eA,Ag]
 ·simp only[h,show(J yy (7:Int).toNat)=⟨1,2,0,0,true⟩from rfl];simp[vZ];cases tM c.A f.cZ<;>cases tM c.B f.bP<;>simp[eA,Ag]
 ·simp only[h,show(J yy (8:Int).toNat)=⟨1,0,0,0,true⟩from rfl];simp[vZ];cases tM c.A f.cZ<;>simp[eA,Ag]
 ·simp only[h,show(J yy (9:Int).toNat)=⟨1,0,0,0,false⟩from rfl];simp[vZ];cases tM c.A f.cZ<;>simp[eA,Ag]
end
section
variable {K:Nat}
def OM(f:aD):Bool:=(decide ((J f.ai (f.ai.length-1)).aP=3)||decide ((J f.ai (f.ai.length-1)).aP=9))
theorem KV{f:aD}(hf:LR f):nC f=some (OM f)/\wA f=some (OM f):=by
 have e:wA f=nC f:=rfl;rw[e,and_self];unfold nC OM;have h1:=hf.c1;have h2:=hf.Jc;rw[eO I,aM ⟨I,I⟩,show(((f.ai.length:Nat):Int)-1).toNat=f.ai.length-1 by omega];split
 ·rename_i h;simp[h]
 ·rename_i h;simp[h];rfl
def Qm(p:aH)(f:aD)(c:cG):Prop:=nl f c=true/\vY p f c=true
structure Code(p:aH)(f:aD):Prop where
 ins:∀a,a<f.ai.length->Qm p f (J f.ai a)
 fin:OM f=true
theorem Code.snd{p:aH}{f:aD}(hs:LR f)(h:Code p f):OH f:=by
 have h1:=hs.c1;have h2:=hs.Jc;have kd:∀a:Nat,a<f.ai.length->0<=(J f.ai a).aP/\(J f.ai a).aP<10:=λa ha=>by
  have:=(h.ins a ha).1;unfold nl at this;by_cases e:0<=(J f.ai a).aP/\(J f.ai a).aP<10
  ·exact e
  ·rw[eu,eu,eu,eu,eu,eu,eu,eu]at this;exact Bool.noConfusion this
 have en:=h.fin;unfold OM at en;simp only[BH,BI]at en;refine⟨h1,h2,λa h0 h1 n hn => ?_,λa h0 h1=>kd _ I⟩;have hi:=(h.ins a.toNat I).1;unfold nl at hi;have last:¬(J f.ai a.toNat).aP=3->¬(J f.ai a.toNat).aP=9->a+1<f.ai.length:=λe3 e9=>by
  by_cases e:a.toNat=f.ai.length-1
  ·rw[<-e]at en;rcases en with en | en
   ·exact absurd en e3
   ·exact absurd en e9
  ·omega
 unfold Mo.nx at hn;split at hn
 ·rename_i e;rw[eu,eu,eu,aM e]at hi;rw[List.mem_singleton.1 hn];exact xx.1 hi
 ·rename_i e3;split at hn
  ·exact absurd hn (by simp)
  ·rename_i e9;have:=last e3 e9;split at hn
   ·rename_i e4;rw[eu,eu,eu,eu,aM e4,mE]at hi;have:=xx.1 hi.2;rcases List.mem_cons.1 hn with rfl | hn
    ·omega
    ·rw[List.mem_singleton.1 hn];exact this
   ·rw[List.mem_singleton.1 hn];omega
theorem X3{p:aH}(hn:p.ah.length<=32):∀(d k i:Nat),i+d=p.ah.length->d<k->(∀a,a<i->LR (J p.ah a))->
 (∃x:eM,ji K p k (i:Int)=some (.inr x)/\oO K p k (i:Int)=some (.inr x)/\x.wQ≠0)∨
 (ji K p k (i:Int)=some (.inl ())/\oO K p k (i:Int)=some (.inl ())/\∀a,a<p.ah.length->LR (J p.ah a))
 | d,k,i,hd,hk,h=>by
  obtain⟨k,rfl⟩ :∃m,k=m+1:=⟨k-1,I⟩;rw[ji,oO];by_cases hi:i<p.ah.length
  ·obtain⟨d,rfl⟩ :∃m,d=m+1:=⟨d-1,I⟩;obtain⟨b,e1,e2,e3⟩:=MY (J p.ah i);rw[sR,aM ⟨I,I⟩,sR,aM ⟨I,I⟩,cL,e1,aq,e2,aq,D5 I];cases b
   ·left;exact⟨⟨51,i,0⟩,rfl,rfl,by show(51:Int)≠0;decide⟩
   ·exact X3 hn d k (i+1) I I (λa ha=>by
     by_cases e:a=i
     ·subst e;exact e3 rfl
     ·exact h a I)
  ·rw[eu,eu]
   right;exact⟨rfl,rfl,λa ha=>h a I⟩
theorem X4{p:aH}{n:Nat}(hs:∀g∈p.ah,LR g)(hn:n<p.ah.length):∀(d k i:Nat),i+d=(J p.ah n).ai.length->d<k->(∀a,a<i->Qm p (J p.ah n) (J (J p.ah n).ai a))->
 (∃j:Int,jk K p (n:Int) k (i:Int)=some (.inr (.inr (.inr ⟨52,n,j⟩)))/\gA K (n:Int) (J p.ah n) p.ah k (i:Int)=some (.inr (.inr ⟨52,n,j⟩)))∨
 (jk K p (n:Int) k (i:Int)=some (.inl ())/\gA K (n:Int) (J p.ah n) p.ah k (i:Int)=some (.inl ())/\∀a,a<(J p.ah n).ai.length->Qm p (J p.ah n) (J (J p.ah n).ai a))
 | d,k,i,hd,hk,h=>by
  obtain⟨k,rfl⟩ :∃m,k=m+1:=⟨k-1,I⟩;have hf:=hs _ (tD hn);have KT:=hf.Jc;rw[jk,gA];by_cases hi:i<(J p.ah n).ai.length
  ·obtain⟨d,rfl⟩ :∃m,d=m+1:=⟨d-1,I⟩;rw[cL,sR,aM ⟨I,I⟩,sR,aM ⟨I,I⟩,cL,MZ,aq,T0 hs hf I,aq,D5 I];cases e1:nl (J p.ah n) (J (J p.ah n).ai i)
   ·left;exact⟨i,rfl,rfl⟩
   ·rw[aM rfl,Ru hs hf,aq];cases e2:vY p (J p.ah n) (J (J p.ah n).ai i)
    ·left;exact⟨i,rfl,rfl⟩
    ·rw[aM rfl,Bool.true_and,aM rfl];exact X4 hs hn d k (i+1) I I (λa ha=>by
      by_cases e:a=i
      ·subst e;exact⟨e1,e2⟩
      ·exact h a I)
  ·rw[cL,eu,eu]
   right;exact⟨rfl,rfl,λa ha=>h a I⟩
theorem X5{p:aH}(hn:p.ah.length<=32)(hs:∀g∈p.ah,LR g)(hK:3000<K):∀(d k i:Nat),i+d=p.ah.length->d<k->(∀a,a<i->Code p (J p.ah a))->
 (∃x:eM,jl K p k (i:Int)=some (.inr x)/\oP K p k (i:Int)=some (.inr x)/\x.wQ≠0)∨
 (jl K p k (i:Int)=some (.inl ())/\oP K p k (i:Int)=some (.inl ())/\∀a,a<p.ah.length->Code p (J p.ah a))
 | d,k,i,hd,hk,h=>by
  obtain⟨k,rfl⟩ :∃m,k=m+1:=⟨k-1,I⟩;rw[jl,oP];by_cases hi:i<p.ah.length
  ·obtain⟨d,rfl⟩ :∃m,d=m+1:=⟨d-1,I⟩;have hf:=hs _ (tD hi);have KT:=hf.Jc;rw[sR,aM ⟨I,I⟩,sR,aM ⟨I,I⟩,cL];unfold n6;rcases X4 (K:=K) hs hi (J p.ah i).ai.length K 0 I I (λa ha=>I)with ⟨j,e1,e2⟩ | ⟨e1,e2,e3⟩
   ·rw[rj]at e1 e2;rw[e1,e2];left;exact⟨⟨52,i,j⟩,rfl,rfl,by show(52:Int)≠0;decide⟩
   ·rw[rj]at e1 e2;rw[e1,e2,fB,fB,(KV hf).1,(KV hf).2,aq,aq];cases e4:OM (J p.ah i)
    ·left;exact⟨⟨53,i,wi (((J p.ah i).ai.length:Int)-1)⟩,rfl,rfl,by show(53:Int)≠0;decide⟩
    ·rw[aM rfl,aM rfl,fB,aq,D5 I];exact X5 hn hs hK d k (i+1) I I (λa ha=>by
      by_cases e:a=i
      ·subst e;exact⟨e3,e4⟩
      ·exact h a I)
  ·rw[eu,eu]
   right;exact⟨rfl,rfl,λa ha=>h a I⟩
def Fq(f:aD)(a:Nat):Prop:=
 ((J f.ai a).aP=5->((a:Int),2)∉reach f (J f.ai a).A)/\
 ((J f.ai a).aP=7->((a:Int),1)∉reach f (J f.ai a).B/\((a:Int),2)∉reach f (J f.ai a).B)/\
 ((J f.ai a).aP=9->∀c:Nat,c<f.bP.toNat->((a:Int),2)∉reach f c)
theorem abN:∀(a b c:Bool),((iq ((if a then 1 else 0)+(if b then 2 else 0)+(if c then 4 else 0)) 3=0)↔a=false/\b=false):=by
 intro a b c;cases a<;>cases b<;>cases c<;>decide
theorem T1{V:List Pt}{a:Int}:iq (wt V a) 3=0↔(a,1)∉V/\(a,2)∉V:=by
 have:=abN (decide ((a,1)∈V)) (decide ((a,2)∈V)) (decide ((a,4)∈V));simp only[BI,decide_eq_false_iff_not]at this;unfold wt;rw[this]
theorem Wx{p:aH}{f:aD}(hs:LR f)(hc:Code p f)(hK:3000<K) :∃R,rC K f=some R/\wD K f=some R/\Qh f R f.bP.toNat:=by
 have hf:=hc.snd hs;have h1:=hs.c1;have h2:=hs.Jc;have hsd:∀(d k i:Nat),i+d=f.ai.length->d<k->jh K f k (i:Int)=some true:=by
  intro d
  induction d with
  | zero =>
   intro k i hd hk;obtain⟨k,rfl⟩ :∃m,k=m+1:=⟨k-1,I⟩;rw[jh,eu,(KV hs).1,aq,hc.fin]
  | succ d ih =>
   intro k i hd hk;obtain⟨k,rfl⟩ :∃m,k=m+1:=⟨k-1,I⟩;rw[jh,sR,aM ⟨I,I⟩,MZ,aq,cL,(hc.ins i I).1,aM rfl,D5 I];exact ih k (i+1) I I
 obtain⟨b,e1,e2,e3⟩:=MY f;have hb:b=true:=by
  cases b
  ·exfalso
   unfold kI at e1;have:=hs.O;have:=hs.p8;have:=hs.r1;have:=hs.rp;have:=hs.r16;have:=hs.s0;have:=hs.s8;rw[eu,eu,eu,eu,eu,fB,sR,sR,sR,tJ I]at e1;exact Bool.noConfusion (Option.some.inj e1)
  ·rfl
 unfold rC sS wD;have abO:=hsd f.ai.length K 0 I I;rw[rj]at abO;rw[e1,aq,hb,aM rfl,abO,aq,aM rfl,aM ⟨I,I⟩,aM ⟨I,I⟩];obtain⟨R,r1,r2,r3⟩:=Qi (K:=K) hf hs.s0 hs.s8 f.ai.length K 0 (List.replicate f.ai.length []) I I ⟨by simp,λa ha=>I⟩;rw[rj]at r1 r2;rw[r1,r2,aq,aq];have hs8:=hs.s8;have ht:Qh f R 0:=⟨r3.1,λa ha=>by rw[r3.2 a ha];simp,λa ha c hc=>I,λa ha c _ hc=>by rw[r3.2 a ha,ED hc]⟩;obtain⟨R1,a1,a2⟩:=Qk (K:=K) hf hs.s0 hs.s8 hK f.bP.toNat K 0 R I I ht;obtain⟨R2,b1,b2⟩:=Kd (K:=K) hf hs.s0 hs.s8 hK f.bP.toNat K 0 R I I ht;rw[rj]at a1 b1;have:=TX a2 b2;subst this;exact⟨R1,a1,b1,a2⟩
theorem T3{f:aD}{R:List (List Int)}(ht:Qh f R f.bP.toNat)(h8:f.bP<=8){a:Nat}(ha:a<f.ai.length):∀(d k i:Nat),i+d=f.bP.toNat->d<k->
 ((∃c,i<=c/\c<f.bP.toNat/\((a:Int),2)∈reach f c)->gW K (J R a) k (i:Int)=some 56/\∀g,jy K R a k g (i:Int)=some 56)/\
 ((∀c,i<=c->c<f.bP.toNat->((a:Int),2)∉reach f c)->gW K (J R a) k (i:Int)=some 0/\∀g,jy K R a k g (i:Int)=some g)
 | d,k,i,hd,hk=>by
  obtain⟨k,rfl⟩ :∃m,k=m+1:=⟨k-1,I⟩;have hw:=ht.wid a ha;simp only[gW,jy,cL];by_cases hi:i<f.bP.toNat
  ·obtain⟨d,rfl⟩ :∃m,d=m+1:=⟨d-1,I⟩;obtain⟨Tz,YZ⟩:=T3 ht h8 ha d k (i+1) I I;have key:iq (J (J R a) i) 2=0↔((a:Int),(2:Int))∉reach f i:=by rw[ht.val a ha i hi hi];exact GN (.inr (.inl rfl))
   rw[sR,aM ⟨I,I⟩,D5 I];by_cases e:((a:Int),(2:Int))∈reach f i
   ·rw[bZ (λh=>key.1 h e)];refine⟨λ_=>⟨rfl,λg => ?_⟩,λh=>absurd e (h i (ja _) hi)⟩;rw[sR,aM ⟨I,I⟩,bZ (λh=>key.1 h e)];by_cases e2 :∃c,i+1<=c/\c<f.bP.toNat/\((a:Int),(2:Int))∈reach f c
    ·exact(Tz e2).2 56
    ·exact(YZ (λc h1 h2 h3=>e2 ⟨c,h1,h2,h3⟩)).2 56
   ·have hb:=key.2 e;rw[aM hb];refine⟨λ⟨c,h1,h2,h3⟩ => ?_,λh => ?_⟩
    ·have:c≠i:=λe'=>by subst e';exact e h3
     obtain⟨x,y⟩:=Tz ⟨c,I,h2,h3⟩;refine⟨x,λg => ?_⟩;rw[sR,aM ⟨I,I⟩,aM hb];exact y g
    ·obtain⟨x,y⟩:=YZ (λc h1 h2=>h c I h2);refine⟨x,λg => ?_⟩;rw[sR,aM ⟨I,I⟩,aM hb];exact y g
  ·rw[eu];refine⟨λ⟨c,h1,h2,_⟩=>I,λ_=>⟨rfl,λg => ?_⟩⟩;rw[eu]
theorem Qn{p:aH}{n:Nat}(hn:n<p.ah.length)(hs:LR (J p.ah n))(hc:Code p (J p.ah n))(hK:3000<K){R:List (List Int)}(ht:Qh (J p.ah n) R (J p.ah n).bP.toNat):∀(d k i:Nat),i+d=(J p.ah n).ai.length->d<k->(∀a,a<i->Fq (J p.ah n) a)->
 (∃e j:Int,e≠0/\jm K p (n:Int) R k (i:Int)=some (.inr ⟨e,n,j⟩)/\lR K (n:Int) (J p.ah n) R k (i:Int)=some (.inr ⟨e,n,j⟩))∨
 (jm K p (n:Int) R k (i:Int)=some (.inl ())/\lR K (n:Int) (J p.ah n) R k (i:Int)=some (.inl ())/\∀a,a<(J p.ah n).ai.length->Fq (J p.ah n) a)
 | d,k,i,hd,hk,h=>by
  obtain⟨k,rfl⟩ :∃m,k=m+1:=⟨k-1,I⟩;have KT:=hs.Jc;have h8:=hs.s8;rw[jm,lR];by_cases hi:i<(J p.ah n).ai.length
  ·obtain⟨d,rfl⟩ :∃m,d=m+1:=⟨d-1,I⟩;have hl:=ht.len;have hw:=ht.wid i hi;rw[cL,sR,aM ⟨I,I⟩,aM ⟨I,I⟩,sR,aM ⟨I,I⟩,cL,D5 I];have key :∃e:Int,nv K (J (J p.ah n).ai i) (J R i)=some e/\
    (if(J (J p.ah n).ai i).aP=5 then if bM (i:Int) R.length then if bM (J (J p.ah n).ai i).A (J R i).length then(if(iq (J (J R i) (J (J p.ah n).ai i).A.toNat) (2:Int))=0 then some 0 else some 54)else none else none else(if(J (J p.ah n).ai i).aP=7 then if bM (i:Int) R.length then if bM (J (J p.ah n).ai i).B (J R i).length then(if(iq (J (J R i) (J (J p.ah n).ai i).B.toNat) (3:Int))=0 then some 0 else some 55)else none else none else(if(J (J p.ah n).ai i).aP=9 then if bM (i:Int) R.length then(jy K R i K 0 0)else none else some 0)))=some e/\(e=0->Fq (J p.ah n) i):=by
    have T4:=(hc.ins i hi).1;unfold nl at T4;unfold nv;by_cases k5:(J (J p.ah n).ai i).aP=5
    ·rw[eu,eu,eu,eu,eu,aM k5]at T4;have hA:=xx.1 T4;have key:iq (J (J R i) (J (J p.ah n).ai i).A.toNat) 2=0↔((i:Int),(2:Int))∉reach (J p.ah n) (J (J p.ah n).ai i).A:=by
      rw[ht.val i hi _ I I,show(((J (J p.ah n).ai i).A.toNat:Nat):Int)=(J (J p.ah n).ai i).A by omega];exact GN (.inr (.inl rfl))
     by_cases e:((i:Int),(2:Int))∈reach (J p.ah n) (J (J p.ah n).ai i).A
     ·rw[aM k5,aM k5,aM ⟨hA.1,I⟩,bZ (λh=>key.1 h e),aM ⟨I,I⟩];exact⟨54,rfl,rfl,λh=>absurd h dO⟩
     ·rw[aM k5,aM k5,aM ⟨hA.1,I⟩,aM (key.2 e),aM ⟨I,I⟩];exact⟨0,rfl,rfl,λ_=>⟨λ_=>e,λh=>I,λh=>I⟩⟩
    rw[bZ k5,bZ k5];by_cases k7:(J (J p.ah n).ai i).aP=7
    ·rw[eu,eu,eu,eu,eu,eu,eu,aM k7,mE]at T4;have hB:=xx.1 T4.2;have key:iq (J (J R i) (J (J p.ah n).ai i).B.toNat) 3=0↔((i:Int),(1:Int))∉reach (J p.ah n) (J (J p.ah n).ai i).B/\((i:Int),(2:Int))∉reach (J p.ah n) (J (J p.ah n).ai i).B:=by
      rw[ht.val i hi _ I I,show(((J (J p.ah n).ai i).B.toNat:Nat):Int)=(J (J p.ah n).ai i).B by omega];exact T1
     by_cases e:iq (J (J R i) (J (J p.ah n).ai i).B.toNat) 3=0
     ·rw[aM k7,aM k7,aM ⟨hB.1,I⟩,aM e,aM ⟨I,I⟩];exact⟨0,rfl,rfl,λ_=>⟨λh=>I,λ_=>key.1 e,λh=>I⟩⟩
     ·rw[aM k7,aM k7,aM ⟨hB.1,I⟩,bZ e,aM ⟨I,I⟩];exact⟨55,rfl,rfl,λh=>absurd h dO⟩
    rw[bZ k7,bZ k7];by_cases k9:(J (J p.ah n).ai i).aP=9
    ·rw[aM k9,aM k9,aM ⟨I,I⟩];obtain⟨o1,o2⟩:=T3 (K:=K) ht h8 hi (J p.ah n).bP.toNat K 0 I I;rw[rj]at o1 o2;by_cases e :∃c,0<=c/\c<(J p.ah n).bP.toNat/\((i:Int),(2:Int))∈reach (J p.ah n) c
     ·exact⟨56,(o1 e).1,(o1 e).2 0,λh=>absurd h dO⟩
     ·have e':∀c,0<=c->c<(J p.ah n).bP.toNat->((i:Int),(2:Int))∉reach (J p.ah n) c:=λc h1 h2 h3=>e ⟨c,h1,h2,h3⟩;exact⟨0,(o2 e').1,(o2 e').2 0,λ_=>⟨λh=>I,λh=>I,λ_ c hc=>e' c (xM _) hc⟩⟩
    ·rw[bZ k9,bZ k9];exact⟨0,rfl,rfl,λ_=>⟨λh=>absurd h k5,λh=>absurd h k7,λh=>absurd h k9⟩⟩
   obtain⟨e,e1,e2,e3⟩:=key;rw[e1,e2,aq,aq];by_cases e0:e=0
   ·rw[aM e0,aM e0,fB];exact Qn hn hs hc hK ht d k (i+1) I I (λa ha=>by
     by_cases e:a=i
     ·subst e;exact e3 e0
     ·exact h a I)
   ·rw[bZ e0,bZ e0];left;exact⟨e,i,e0,rfl,rfl⟩
  ·rw[cL,eu,eu]
   right;exact⟨rfl,rfl,λa ha=>h a I⟩
theorem X6{p:aH}(hn:p.ah.length<=32)(hs:∀g∈p.ah,LR g)(hc:∀a,a<p.ah.length->Code p (J p.ah a))(hK:3000<K):∀(d k i:Nat),i+d=p.ah.length->d<k->(∀a,a<i->∀b,b<(J p.ah a).ai.length->Fq (J p.ah a) b)->
 ∃x:eM,kJ K p k (i:Int)=some x/\qO K p k (i:Int)=some x/\(x.wQ=0->∀a,a<p.ah.length->∀b,b<(J p.ah a).ai.length->Fq (J p.ah a) b)
 | d,k,i,hd,hk,h=>by
  obtain⟨k,rfl⟩ :∃m,k=m+1:=⟨k-1,I⟩;rw[kJ,qO];by_cases hi:i<p.ah.length
  ·obtain⟨d,rfl⟩ :∃m,d=m+1:=⟨d-1,I⟩;have hf:=hs _ (tD hi);have KT:=hf.Jc;rw[sR,aM ⟨I,I⟩,sR,aM ⟨I,I⟩,cL];unfold vP;obtain⟨R,r1,r2,r3⟩:=Wx (K:=K) hf (hc i hi) hK;rw[r1,r2,aq,aq];rcases Qn (K:=K) hi hf (hc i hi) hK r3 (J p.ah i).ai.length K 0 I I (λa ha=>I)with ⟨e,j,e0,e1,e2⟩ | ⟨e1,e2,e3⟩
   ·rw[rj]at e1 e2;rw[e1,e2];exact⟨⟨e,i,j⟩,rfl,rfl,λh=>absurd h e0⟩
   ·rw[rj]at e1 e2;rw[e1,e2,fB,aq,D5 I];exact X6 hn hs hc hK d k (i+1) I I (λa ha=>by
     by_cases e:a=i
     ·subst e;exact e3
     ·exact h a I)
  ·rw[eu,eu];exact⟨⟨0,0,0⟩,rfl,rfl,λ_ a ha=>h a I⟩
structure Valid(p:aH):Prop where
 n1:1<=p.ah.length
 n32:p.ah.length<=32
 GO:∀a,a<p.ah.length->LR (J p.ah a)
 code:∀a,a<p.ah.length->Code p (J p.ah a)
 slot:∀a,a<p.ah.length->∀b,b<(J p.ah a).ai.length->Fq (J p.ah a) b
theorem T5(p:aH)(hK:3000<K) :∃x:eM,jU K p=some x/\xW K p=some x/\(x.wQ=0->Valid p):=by
 unfold jU xW;by_cases h1:((p.ah.length:Nat):Int)<1
 ·rw[aM h1];exact⟨_,rfl,rfl,λh=>absurd h dO⟩
 rw[bZ h1];by_cases h2:((p.ah.length:Nat):Int)>32
 ·rw[aM h2];exact⟨_,rfl,rfl,λh=>absurd h dO⟩
 rw[bZ h2,fB,fB];rcases X3 (K:=K) (p:=p) I p.ah.length K 0 I I (λa ha=>I)with ⟨x,e1,e2,e3⟩ | ⟨e1,e2,e3⟩
 ·rw[rj]at e1 e2;rw[e1,e2];exact⟨x,rfl,rfl,λh=>absurd h e3⟩
 rw[rj]at e1 e2;have hs:∀g∈p.ah,LR g:=λg hg=>by
  obtain⟨i,hi,e⟩:=List.getElem_of_mem hg;have:=e3 i hi;unfold J at this;rw[List.getD_eq_getElem?_getD,List.getElem?_eq_getElem hi]at this;rw[<-e];exact this
 rw[e1,e2,fB,fB];rcases X5 (K:=K) (p:=p) I hs hK p.ah.length K 0 I I (λa ha=>I)with ⟨x,a1,a2,a3⟩ | ⟨a1,a2,a3⟩
 ·rw[rj]at a1 a2;rw[a1,a2];exact⟨x,rfl,rfl,λh=>absurd h a3⟩
 rw[rj]at a1 a2;rw[a1,a2,fB,fB];obtain⟨x,b1,b2,b3⟩:=X6 (K:=K) (p:=p) I hs a3 hK p.ah.length K 0 I I (λa ha=>I);rw[rj]at b1 b2;exact⟨x,b1,b2,λh=>⟨I,I,e3,a3,b3 h⟩⟩
end
end Mo
end
end Go.Proofs.YtaiffafelihaaaaGreatDoor

/- plunderlaw11.WorkerOrder answers true for every input of the bulk that the statement names, and leaves its input alone. Conditions: none. -/
import Derived.Test.YtaiffafelihaaaaGreatDoorU0
set_option linter.unusedVariables false
set_option linter.unusedSimpArgs false
set_option linter.unusedSectionVars false
set_option maxRecDepth 100000
set_option maxHeartbeats 4000000
set_option autoImplicit true
set_option relaxedAutoImplicit true
namespace Go.Proofs.YtaiffafelihaaaaGreatDoor
open Proofs.Tryz
section
namespace GX
open Go Go.RowKit SL
def Gu:Value->Value->Bool
 | .int k _,.int k' _=>k==k'
 | .bool _,.bool _=>true
 | _,_=>false
def AO:List Value->List Value->Bool
 | [],[]=>true
 | afv::us,v::vs=>Gu afv v&&AO us vs
 | _,_=>false
def R5:List Value->List Value->Bool
 | .int a _::_,.int b _::_=>a==b
 | _,_=>false
def R6:List Value->List Value->Bool
 | .bool _::_,.bool _::_=>true
 | _,_=>false
theorem K2{us vs:List Value}(h:R5 us vs=true) :∃k x y us' vs',us= .int k x::us'/\vs= .int k y::vs':=by
 unfold R5 at h;split at h
 ·simp only[wE]at h;subst h;exact⟨_,_,_,_,_,rfl,rfl⟩
 ·cases h
theorem K3{us vs:List Value}(h:R6 us vs=true) :∃x y us' vs',us= .bool x::us'/\vs= .bool y::vs':=by
 unfold R6 at h;split at h
 ·exact⟨_,_,_,_,rfl,rfl⟩
 ·cases h
theorem PV{afv v:Value}(h:Gu afv v=true):(∃k x y,afv= .int k x/\v= .int k y)∨∃x y,afv= .bool x/\v= .bool y:=by
 unfold Gu at h;split at h
 ·simp only[wE]at h;subst h;exact .inl ⟨_,_,_,rfl,rfl⟩
 ·exact .inr ⟨_,_,rfl,rfl⟩
 ·cases h
def yG(P:Program):Nat->Nat->List Field->List Value->List Value->Bool
 | 0,_,_,_,_=>false
 | k+1,i,fs,us,vs=>match fs with
  | []=>us.isEmpty&&vs.isEmpty
  | f::fs=>(f.name != "_")&&f.offset==i&&(match P.underlying f.type with
   | some (.int _)=>R5 us vs&&yG P k (i+1) fs us.tail vs.tail
   | some .bool=>R6 us vs&&yG P k (i+1) fs us.tail vs.tail
   | some (.struct _)=>(P.info? f.type).isSome && !(P.stoodInHeld f.type)&&Nat.ble (P.cellsOf f.type) us.length&&Nat.ble (P.cellsOf f.type) vs.length
    && yG P k 0 (P.fieldsOf f.type).toList (us.take (P.cellsOf f.type)) (vs.take (P.cellsOf f.type))&&yG P k (i+P.cellsOf f.type) fs (us.drop (P.cellsOf f.type)) (vs.drop (P.cellsOf f.type))
   | _=>false)
theorem IP:∀{a c b d:List Value},AO a c=true->AO b d=true->AO (a++b) (c++d)=true
 | [],[],_,_,_,h=>h
 | afv::a,v::c,_,_,h1,h=>by
  simp only[AO,lV]at h1;simp only[sQ,AO,lV];exact⟨h1.1,IP h1.2 h⟩
theorem K4:∀{a c b d:List Value},AO a c=true->tT (a++b) (c++d)=(tT a c&&tT b d)
 | [],[],_,_,_=>by simp[tT]
 | afv::a,v::c,b,d,h=>by
  simp only[AO,lV]at h;have ih:=K4 (b:=b) (d:=d) h.2;rcases PV h.1 with ⟨k,x,y,rfl,rfl⟩ | ⟨x,y,rfl,rfl⟩
  ·simp[tT,ih,Bool.and_assoc]
  ·simp[tT,ih,Bool.and_assoc]
section
variable {P:Program}{w:World}{o:Oper}{e:Nat->Value}
theorem wM:∀(k i:Nat) (fs:List Field) (us vs:List Value),yG P k i fs us vs=true->AO us vs=true
 | 0,_,_,_,_,h=>by simp[yG]at h
 | k+1,_,[],us,vs,h=>by
  simp only[yG,lV,List.isEmpty_iff]at h;obtain⟨rfl,rfl⟩:=h
  rfl
 | k+1,i,f::fs,us,vs,h=>by
  simp only[yG,lV]at h;obtain⟨_,h⟩:=h;split at h
  ·simp only[lV]at h;obtain⟨kk,x,y,us',vs',rfl,rfl⟩:=K2 h.1;simp only[AO,Gu,beq_self_eq_true,Bool.true_and];exact wM k _ _ _ _ h.2
  ·simp only[lV]at h;obtain⟨x,y,us',vs',rfl,rfl⟩:=K3 h.1;simp only[AO,Gu,Bool.true_and];exact wM k _ _ _ _ h.2
  ·simp only[lV]at h;have a:=wM k _ _ _ _ h.1.2;have b:=wM k _ _ _ _ h.2;have:=IP a b
   rwa [F1,F1]at this
  ·cases h
theorem K5{t:TypeId}{gs:Array Field}(h:P.underlying t=some (.struct gs)):P.fieldsOf t=gs:=by
 unfold Program.fieldsOf;rw[h]
theorem IQ{t:TypeId}{gs:Array Field}{cs:Array Value}{i:Nat}(h:P.underlying t=some (.struct gs))(hi:(P.info? t).isSome=true):(part t cs i).run P w= .ok (.agg (cs.extract i (i+P.cellsOf t))) w:=by
 obtain⟨q,hq⟩:=Option.isSome_iff_exists.1 hi;unfold part isAgg;simp only[ng,run_underlying h,nh,sM,if_true,run_sizeOf w hq]
theorem Da:∀(k D i:Nat) (fs:List Field) (us vs:List Value) (xs ys:Array Value),yG P k i fs us vs=true->k<=D->(∀j,us[j]? = xs[i+j]?∨us.length<=j)->(∀j,vs[j]? = ys[i+j]?∨vs.length<=j)->
 (Op.eqFields (D+1) xs ys fs).run P w= .ok (tT us vs) w
 | 0,_,_,_,_,_,_,_,h,_,_,_=>by simp[yG]at h
 | k+1,_,_,[],us,vs,_,_,h,_,_,_=>by
  simp only[yG,lV,List.isEmpty_iff]at h;obtain⟨rfl,rfl⟩:=h;simp[Op.eqFields,tT]
 | k+1,D,i,f::fs,us,vs,xs,ys,h,hD,hx,hy=>by
  simp only[yG,lV,bne_iff_ne,ne_eq,wE]at h;obtain⟨⟨hn,ho⟩,h⟩:=h;have aJ:∀(n:Nat) (zs:List Value) (cs:Array Value),(∀j,zs[j]? = cs[i+j]?∨zs.length<=j)->∀j,(zs.drop n)[j]? = cs[i+n+j]?∨(zs.drop n).length<=j:=λn zs cs hz j=>by
   rcases hz (n+j)with h | h
   ·left;rw[List.getElem?_drop,h,Nat.add_assoc]
   ·right;rw[AB];omega
  split at h
  ·rename_i kk hty;simp only[lV]at h;obtain⟨a,x,y,us',vs',rfl,rfl⟩:=K2 h.1;have hx0:xs[i]? = some (.int a x):=by rcases hx 0 with h | h;simpa using h.symm;simp at h
   have hy0:ys[i]? = some (.int a y):=by rcases hy 0 with h | h;simpa using h.symm;simp at h
   have ih:=Da k D (i+1) fs us' vs' xs ys h.2 aB (by simpa using aJ 1 _ xs hx) (by simpa using aJ 1 _ ys hy);have pa:=rM (P:=P) (w:=w) (t:=f.type) (cs:=xs) (i:=f.offset) (v:=.int a x) (by rw[hty]) (by rw[ho];exact hx0);have pb:=rM (P:=P) (w:=w) (t:=f.type) (cs:=ys) (i:=f.offset) (v:=.int a y) (by rw[hty]) (by rw[ho];exact hy0);rw[Op.eqFields];simp only[aW hn,ng,pa,pb,run_equalIn_int w D f.type a kk x y hty,nh];cases hab:(x==y)
   ·simp[tT,hab]
   ·simp[tT,hab,ih]
  ·rename_i hty;simp only[lV]at h;obtain⟨x,y,us',vs',rfl,rfl⟩:=K3 h.1;have hx0:xs[i]? = some (.bool x):=by rcases hx 0 with h | h;simpa using h.symm;simp at h
   have hy0:ys[i]? = some (.bool y):=by rcases hy 0 with h | h;simpa using h.symm;simp at h
   have ih:=Da k D (i+1) fs us' vs' xs ys h.2 aB (by simpa using aJ 1 _ xs hx) (by simpa using aJ 1 _ ys hy);have pa:=rM (P:=P) (w:=w) (t:=f.type) (cs:=xs) (i:=f.offset) (v:=.bool x) (by rw[hty]) (by rw[ho];exact hx0);have pb:=rM (P:=P) (w:=w) (t:=f.type) (cs:=ys) (i:=f.offset) (v:=.bool y) (by rw[hty]) (by rw[ho];exact hy0);rw[Op.eqFields];simp only[aW hn,ng,pa,pb,run_equalIn_bool' w D f.type x y hty,nh];cases hab:(x==y)
   ·simp[tT,hab]
   ·simp[tT,hab,ih]
  ·rename_i gs hty;simp only[lV,Bool.not_eq_true',Nat.ble_eq]at h;obtain⟨⟨⟨⟨⟨hi,hp⟩,hu⟩,hv⟩,h1⟩,h2⟩:=h;obtain⟨D,rfl⟩ :∃m,D=m+1:=⟨D-1,aB⟩;have cut:∀(zs:List Value) (cs:Array Value),P.cellsOf f.type<=zs.length->(∀j,zs[j]? = cs[i+j]?∨zs.length<=j)->∀j,(zs.take (P.cellsOf f.type))[j]? = (cs.extract i (i+P.cellsOf f.type))[0+j]?∨(zs.take (P.cellsOf f.type)).length<=j:=λzs cs hl hz j=>by
    by_cases hj:j<P.cellsOf f.type
    ·left
     rcases hz j with h | h
     ·rw[List.getElem?_take,aW hj,h,Ae,Array.getElem?_extract];split
      ·rfl
      ·rename_i hc;refine Array.getElem?_eq_none ?_;omega
     ·omega
    ·right;rw[tP];omega
   have XB:=Da k D 0 _ _ _ _ _ h1 aB (cut us xs hu hx) (cut vs ys hv hy);have XC:=Da k (D+1) (i+P.cellsOf f.type) fs _ _ xs ys h2 aB (aJ _ _ xs hx) (aJ _ _ ys hy);have pa:=IQ (P:=P) (w:=w) (cs:=xs) (i:=f.offset) hty hi;have pb:=IQ (P:=P) (w:=w) (cs:=ys) (i:=f.offset) hty hi;have heq:=run_equalIn_struct (P:=P) w (D+1) f.type (xs.extract i (i+P.cellsOf f.type)) (ys.extract i (i+P.cellsOf f.type)) (by rw[K5 hty];exact hty) hp;rw[XB]at heq;have hs:=K4 (b:=us.drop (P.cellsOf f.type)) (d:=vs.drop (P.cellsOf f.type)) (wM _ _ _ _ _ h1);rw[F1,F1]at hs;rw[Op.eqFields,hs];rw[ho]at pa pb;simp only[aW hn,ng,ho,pa,pb,heq,nh];cases hab:tT (us.take (P.cellsOf f.type)) (vs.take (P.cellsOf f.type))
   ·simp
   ·simp[XC]
  ·cases h
theorem XD{x y:Operand}{us vs:List Value}{T T':TypeId}(ho:o.op= .binOp .eql T x y T')(hx:eO e x= .agg us.toArray)(hy:eO e y= .agg vs.toArray)(hm:P.eqGuardType P.depth T=false)(hp:P.stoodInHeld T=false)
 (hu:P.underlying T=some (.struct (P.fieldsOf T))) (hf:yG P 64 0 (P.fieldsOf T).toList us vs=true):(execOp (eO e) o).run P w= .ok (.value (.bool (tT us vs))) w:=by
 unfold execOp;have h1:=run_equalIn_struct (P:=P) w 9999 T us.toArray vs.toArray hu hp;rw[Da (P:=P) (w:=w) 64 9998 0 (P.fieldsOf T).toList us vs us.toArray vs.toArray hf eL (λj=>by left;simp) (λj=>by left;simp)]at h1;simp[ho,hx,hy,run_eqGuard_agg (P:=P) w .eql T x y us.toArray vs.toArray hm,run_eql_struct,h1]
end
end GX
end
section
namespace Md
open Go Go.RowKit SL GX
noncomputable section
variable {z w:World}{L:List bj}
abbrev xq(a:fR)(c:Nat)(l:List Int):bj:=rowOf 3 1 ck (.slice a l.length c) l
end
noncomputable section
variable {z w:World}{L:List bj}
def tW(O:Int)(Y:List Int)(p2:Bool):Option (Int×Int):=
 eY ((if O=((Y.length:Nat):Int)then(if p2=true then some 0 else some O)else some O)) (λg3=>(if g3=((Y.length:Nat):Int)then some (0,g3)else if bI (wi ((wi (g3+1))-1)) Y.length then some ((J Y (wi ((wi (g3+1))-1)).toNat),wi (g3+1))else none))
theorem Db{O r0 q0:Int}{Y:List Int}{p2:Bool}{B0 B1 kB B2:Nat}{kD:fR}(H:tW O Y p2=some (r0,q0))(h:Fit z (aC (pts B0 (.cells #[Z O] 3)::pts B1 (.cells #[.slice kD Y.length kB] 28)::xq kD kB Y::pts B2 (.cells #[R p2] 4)::L)) w) :
 Calls Tryz.prog 65 #[u B0 0,u B1 0,u B2 0] w λe w=>e=.returned (Z r0)/\Fit z (aC (pts B0 (.cells #[Z q0] 3)::pts B1 (.cells #[.slice kD Y.length kB] 28)::xq kD kB Y::pts B2 (.cells #[R p2] 4)::L)) w:=by
 unfold tW at H;refine ke func65 22 rfl λj=>ks<|ko [U]<|I<|DV H λo5 H hK4=>λ_ r=>cY (β:=Unit) (λ_ a w=>∃g3:Int,g3=o5/\∃j,kH 22 (lk [(0,u B0 0),(1,u B1 0)] j) a/\Fit z (aC (pts B0 (.cells #[Z g3] 3)::pts B1 (.cells #[.slice kD Y.length kB] 28)::xq kD kB Y::pts B2 (.cells #[R p2] 4)::L)) w) ?_ ?_
 ·refine qq r<|ks<|kL h 0<|kL (h.pick 1) 0<|ko [Z ((Y.length:Nat):Int),R (O==((Y.length:Nat):Int)),R (O==((Y.length:Nat):Int))]<|qI H (λc6 H=>?_) λc6 H=>?_
  ·refine λ_ r=>ld (aX r (beq_iff_eq.mpr c6)) r (R p2) ((h.pick 3).cell 0 rfl)<|?_;refine ny (beq_iff_eq.mpr c6) (R p2)<|I<|FJ H (λc7 H=>?_) λc7 H=>?_
   ·refine wl<|kS h 0 (pts B0 (.cells #[Z 0] 3)) λw h=>I<|?_;exact λ_ r=>⟨(),0,gA H,r.fj h⟩
   refine wk<|tn<|?_;exact λ_ r=>⟨(),O,gA H,r.fj h⟩
  refine bU (bN c6) [9]<|nv (bN c6) (R false)<|I<|λ_ r=>iT r (b:=false) rfl<|qq r<|wk<|tn<|?_;exact λ_ r=>⟨(),O,gA H,r.fj h⟩
 clear h r;rintro _ a w ⟨g3,rfl,j,r,h⟩;replace H:=DS hK4;refine qq r<|wq<|ks<|kL h 0<|kL (h.pick 1) 0<|ko [Z ((Y.length:Nat):Int),R (g3==((Y.length:Nat):Int))]<|I<|ez H (λc8 H=>?_) λc8 H=>?_
 ·refine ks<|ko [U]<|I<|wr<|tr<|?_;cases H;exact gC h
 refine wk<|tn<|ks<|kL h 0<|ko [Z (wi (g3+1))]<|kS h 0 (pts B0 (.cells #[Z (wi (g3+1))] 3)) λw h=>I<|ks<|kL (h.pick 1) 0<|kL h 0<|qg H λc9 H=>ko [Z (wi ((wi (g3+1))-1))]<|ki (h.pick 2) c9<|λ_ r=>ld (wn rfl) r (Z (J Y (wi ((wi (g3+1))-1)).toNat)) ((h.pick 2).bE aE (f:=0) (aS c9) rfl)<|?_;refine ko [Z (J Y (wi ((wi (g3+1))-1)).toNat)]<|I<|wr<|?_;cases H;exact gC h
end
end Md
end
section
namespace Mo
open Go Go.RowKit SL GX
structure aQ where
 rest:List Int
deriving Inhabited,DecidableEq
def Cz(x:aQ):Int:=x.rest.headD 0
def Hy(x:aQ):aQ:=⟨x.rest.tail⟩
def vw(b:Nat)(x:aQ):bj:=exs λk:Nat=>exs λpa:Nat=>exs λpl:Nat=>exs λpg:Nat=>exs λca:fR=>exs λcc:Nat=>exs λl:List Int =>
 aC [PF (k<=l.length/\l.length*8<=140737488355328/\x.rest=l.drop k),pts b (.cells #[.func (.func 65) #[] #[u pa 0,u pl 0,u pg 0]] 158),pts pa (.cells #[Z k] 3),pts pl (.cells #[.slice ca l.length cc] 28),rowOf 3 1 ck (.slice ca l.length cc) l,pts pg (.cells #[R false] 4)]
theorem R7{l:List Int}{k:Nat}(hk:k<=l.length)(hb:l.length*8<=140737488355328):Md.tW (k:Int) l false=some (if k=l.length then(0,(k:Int))else(J l k,((k+1:Nat):Int))):=by
 have e1:wi ((k:Int)+1)=((k+1:Nat):Int):=by rw[eF aB];omega
 have e2:wi (((k+1:Nat):Int)-1)=(k:Int):=by rw[eF aB];omega
 unfold Md.tW;by_cases c:k=l.length
 ·subst c;simp[eY]
 ·have c':¬(k:Int)=((l.length:Nat):Int):=by omega
  have hi:bI (k:Int) l.length:=by unfold bI;omega
  simp only[cF c',cF c,eY,e1,e2,aW hi,dc]
theorem R8{l:List Int}{k:Nat}{x:aQ}(hk:k<=l.length)(hx:x.rest=l.drop k):(if k=l.length then(0,(k:Int))else(J l k,((k+1:Nat):Int)))=(Cz x,(((if k=l.length then k else k+1):Nat):Int))/\(if k=l.length then k else k+1)<=l.length/\(Hy x).rest=l.drop (if k=l.length then k else k+1):=by
 unfold Cz Hy;rw[hx];by_cases c:k=l.length
 ·subst c;simp
 ·have hlt:k<l.length:=by omega
  simp only[cF c];refine⟨?_,aB,by rw[List.tail_drop]⟩;rw[RJ hlt,Ob hlt];rfl
theorem PW{z w:World}{L:List bj}{α:Type}{b:Nat}{E:TypeId}{sz:Nat}{enc:α->List Value}(h:Fit z (aC (pts b (.cells #[] E)::L)) w):Fit z (aC (rowOf E sz enc (.slice (some ⟨b,0,none⟩) 0 0) ([]:List α)::L)) w:=
 h.head λy hy=>.inr ⟨b,0,#[],rfl,j9 _,by simp[maxLen],by simp,by simp,hy⟩
theorem R9{z w:World}{L:List bj}{va:fR}{vc:Nat}{l:List Int}(hv:bL L 1 ck va l)(h:Fit z (aC L) w)(hb:l.length*8<=140737488355328) :
 Calls Tryz.prog 64 #[.slice va l.length vc] w λe w =>∃ca cc,e= .returned (.slice ca l.length cc)/\Fit z (aC (rowOf 3 1 ck (.slice ca l.length cc) l::L)) w:=by
 refine ke func64 8 rfl λj=>ks<|ko [U]<|I<|wq <| ?_
 cases va with
 | none =>
  have hl:l=[]:=by
   cases l with
   | nil=>rfl
   | cons x xs=>exact absurd (hv.ne (by simp)) (by simp)
  subst hl;refine ks<|ko [U,R true]<|I<|λ_ r=>dX r (b:=true) rfl<|qq r<|ks<|ko [U]<|I<|wr<|tr <| ?_
  exact Zv none 0 h.fX
 | some ad =>
  refine ks<|ko [U,R false]<|I<|λ_ r=>iT r (b:=false) rfl<|qq r<|wk<|tn<|ks<|λ_ r=>Xt (wn rfl) r h (λb=>.slice (some ⟨b,0,none⟩) 0 0) #[] 3 λb w _ h r => ?_;refine qq r<|ko [U]<|λ_ r=>zh (m0:=0) (n0:=0) (ca:=some ⟨b,0,none⟩) (cc:=0) (c:=vc) (va:=some ad) (bytes:=8) (wn rfl) rfl rfl r rfl aK (news:=l) aK aE (E:=3) (xs:=([]:List Int)) aK aK (PW h) hv (by simpa using hb) rfl λca cc w _ h r => ?_;rw[zb]at h r;refine qq r<|ko [U]<|I<|wr <| ?_
  exact Zv ca cc h
theorem Gv{z w:World}{L:List bj}{b:Nat}{x:aQ}(h:Fit z (aC (vw b x::L)) w) :
 Calls Tryz.prog 214 #[u b 0] w λe w=>e= .returned (Z (Cz x))/\Fit z (aC (vw b (Hy x)::L)) w:=by
 obtain⟨k,h⟩:=h.nj;obtain⟨pa,h⟩:=h.nj;obtain⟨pl,h⟩:=h.nj;obtain⟨pg,h⟩:=h.nj;obtain⟨ca,h⟩:=h.nj;obtain⟨cc,h⟩:=h.nj;obtain⟨l,h⟩:=h.nj;have h:=h.sx;obtain⟨⟨hk,hb,hx⟩,h⟩:=h.yx;obtain⟨e1,e2,e3⟩:=R8 hk hx;have H:=R7 hk hb;rw[e1]at H;generalize hm:(if k=l.length then k else k+1)=m at *;refine ke func214 17 rfl λj=>ks<|ko [U]<|I<|wq<|ks<|ko [U,R false,R false]<|cR (rfl:false=false) [6,7,8] [u b 0,u b 0,u b 0]<|sv (rfl:false=false) h 0<|cR (rfl:false=false) [10] [R false]<|nv (rfl:false=false) (R false)<|I<|λ_ r=>iT r (b:=false) rfl<|qq r<|wk<|tn<|ks<|ko [U,U,U]<|kL h 0<|qh h.m4.m4.m4.m4 λh=>fG (Md.Db (H:=H) (h:=h) :) λw h=>ko [U]<|I<|wr <| ?_;exact gC (Fit.jK m<|Fit.jK pa<|Fit.jK pl<|Fit.jK pg<|Fit.jK ca<|Fit.jK cc<|Fit.jK l<|Fit.rL _ L<|Fit.wG ⟨e2,hb,e3⟩ h.m4)
theorem Sa{z w:World}{L:List bj}{va:fR}{vc:Nat}{l:List Int}(hv:bL L 1 ck va l)(h:Fit z (aC L) w)(hb:l.length*8<=140737488355328) :
 Calls Tryz.prog 39 #[.slice va l.length vc,R false] w λe w =>∃b,e= .returned (u b 0)/\Fit z (aC (vw b ⟨l⟩::L)) w:=by
 refine ke func39 12 rfl λj=>ks<|kN h #[R false] 4 λpg w h=>ko [U]<|I<|ks<|ko [U]<|Wr (R9 (va:=va) (vc:=vc) (bL.up (L':=pts pg (.cells #[R false] 4)::L) 1 hv) h hb :) λca cc w h=>kN h #[.slice none 0 0] 28 λpl w h=>kS h 0 (pts pl (.cells #[.slice ca l.length cc] 28)) λw h=>I<|ks<|kN h #[Z 0] 3 λpa w h=>kS h 0 (pts pa (.cells #[Z 0] 3)) λw h=>I<|ks<|ko [U,U]<|kN h #[.func (.func 65) #[] #[u pa 0,u pl 0,u pg 0]] 158 λb w h=>ko [U]<|I<|wr <| ?_
 exact xy1 b (Fit.jK 0<|Fit.jK pa<|Fit.jK pl<|Fit.jK pg<|Fit.jK ca<|Fit.jK cc<|Fit.jK l<|Fit.rL _ L<|Fit.wG ⟨Cf _,hb,rfl⟩ h)
theorem AP{z w:World}{L:List bj}{va:fR}{c:Nat}{l:List Int}(h:Fit z (aC L) w)(hv:bL L 1 ck va l)(hb:l.length*8<=140737488355328) :
 Calls Tryz.prog 16 #[.slice va l.length c] w λe w =>∃b,e= .returned (u b 0)/\Fit z (aC (vw b ⟨l⟩::L)) w:=by
 refine ke func16 5 rfl λj=>ks<|ko [U]<|I<|ks<|ko [U]<|Zu (Sa (vc:=c) hv h hb :) λb w h=>ko [U]<|I<|wr <| ?_
 exact xy1 b h
end Mo
end
section
namespace GX
open Go Go.RowKit SL
def yH{α:Type}[Inhabited α](l:List α)(lo m:Nat):List α:=(List.range m).map λj=>J l (lo+j)
theorem Dc{α:Type}[Inhabited α](l:List α)(lo m:Nat):(yH l lo m).length=m:=by simp[yH]
theorem Ws{α:Type}{enc:α->List Value}(he:sH enc 1):∀(m:List α) (k:Nat),(m.drop k).flatMap enc=(m.flatMap enc).drop k
 | [],k=>by simp
 | x::m,0=>by simp
 | x::m,k+1=>by
  obtain⟨afv,hu⟩:=List.length_eq_one_iff.1 (he.len x);rw[qJ,Ws he m k,MN,hu];rfl
theorem Sb{α:Type}{enc:α->List Value}(he:sH enc 1):∀(m:List α) (k:Nat),(m.take k).flatMap enc=(m.flatMap enc).take k
 | [],k=>by simp
 | x::m,0=>by simp
 | x::m,k+1=>by
  obtain⟨afv,hu⟩:=List.length_eq_one_iff.1 (he.len x);rw[oJ,MN,Sb he m k,MN,hu];rfl
theorem XE{α:Type}[Inhabited α]{A:List Value}{N f lo m:Nat}{enc:α->List Value}{l:List α}(he:sH enc 1)(hA:A.length=f)(hm:lo+m<=N):((A++kW N enc l).drop (f+lo)).take m=(yH l lo m).flatMap enc:=by
 subst hA;rw[List.drop_append,N9 aB,zb,Nat.add_sub_cancel_left,BE,<-Ws he,<-Sb he]
 congr 1
 apply Kt
 ·simp[yH];omega
 ·intro i h1 h2;simp[yH]
section
variable {P:Program}{ops:Array Oper}{Q:Exit->Act->World->Prop}{a:Act}{w w0 w1:World}{rest:List Oper}{o:Oper}{n d t T T2:Nat}{v:Value}{l:List (Nat×Value)}{j e:Nat->Value}{L:List bj}{Df:List Deferred}
theorem aaJ{x y y':Operand}{k k':IntKind}{lo hi:Int}{B off N:Nat}{E:TypeId}{w':World}(ho:o.op= .slice t x (some y) (some y') none)(hx:eO e x= .pointer (some ⟨B,off,none⟩))(hy:eO e y= .int k lo)(hy':eO e y'= .int k' hi)
 (ht:P.underlying t=some (.array N E)) (hs:(P.info? E).map (·.size)=some 1) (hg:0<=lo/\lo<=hi/\hi<=N/\lo<N):(execOp (eO e) o).run P w'= .ok (.value (.slice (some ⟨B,off+lo.toNat,none⟩) (hi.toNat-lo.toNat) (N-lo.toNat))) w':=by
 obtain⟨h0,h1,h2,h3⟩:=hg;obtain⟨p,rfl⟩:=Int.eq_ofNat_of_zero_le h0;obtain⟨q,rfl⟩:=Int.eq_ofNat_of_zero_le (Int.le_trans h0 h1);have g1:p<=q:=by omega
 have g2:q<=N:=by omega
 have g6:¬N=p:=by omega
 unfold execOp;cases hq:P.info? E with
 | none=>simp[hq]at hs
 | some z =>
  simp[hq]at hs;simp[ho,hx,hy,hy',Instr.sliceAt,Instr.slice,Instr.sliceBounds,Instr.sliceBound,run_underlying ht,asIntOf,asAddr,g1,g2,g6,sizeOf,typeInfo,hq,hs,u5,Instr.sureAddr]
theorem M1{s x:Operand}{α β:Type}{sz n0 cc i f N cv i2 f2 lo m:Nat}{enc:α->List Value}{iX:β->List Value}{xs:List α}{ca:fR}{ys:List β}{E afu:TypeId}{p q p2:α}(hw:tN o ops a)(hd:o.dst=some d)(hn:Nat.blt d n=true)(hr:cS Df n (lk l j) a)
 (ho:o.op= .call {callee:=.builtin .copy,args:=#[s,x],argTypes:=#[t,t]}) (hs:eO (lk l j) s= .slice (some ⟨dA ca,i*sz+f,none⟩) N N) (hx:eO (lk l j) x= .slice (some ⟨dA ca,i2*sz+f2+lo,none⟩) m cv)
 (he:sH enc sz) (hi:sH iX 1) (hty:P.underlying t=some (.slice afu)) (hsz:(P.info? afu).map (·.size)=some 1) (hm:ys.length=m) (hlen:m<=N)
 (hF:Fit w0 (aC (rowOf E sz enc (.slice ca n0 cc) xs::L)) w) (hp2:xs[i2]? = some p2) (hcs:((enc p2).drop (f2+lo)).take m=ys.flatMap iX) (hp:xs[i]? = some p) (hfit:f+m<=sz) (hq:enc q=(enc p).take f++ys.flatMap iX++(enc p).drop (f+m))
 (k:∀w1 a,Fit w0 (aC (rowOf E sz enc (.slice ca n0 cc) (xs.set i q)::L)) w1->cS Df n (lk ((d,.int .i64 ((m:Nat):Int))::l) j) a->wpList P ops Q rest a w1):wpList P ops Q (o::rest) a w:=by
 subst hm;have Wt:=hF.Gp he (f:=f2+lo) (xs:=ys.flatMap iX) hp2 (by rw[show(ys.flatMap iX).length=ys.length by rw[hi.flat ys,Nat.mul_one]];exact hcs);rw[<-Nat.add_assoc]at Wt;have E3:i<xs.length:=(List.getElem?_eq_some_iff.1 hp).1;have hn':=hF.p6;obtain⟨hca,Ch⟩:=hF.sg aB;obtain⟨Hl,E4⟩:=Ch.xo;obtain⟨cur,Wg,Q5,hP⟩:=Ch.oN;have hle:i*sz+sz<=xs.length*sz:=by
  have:(i+1)*sz<=xs.length*sz:=ru _ E3;rw[tO]at this;omega
 have Xh:xs.length*sz<=cc*sz:=ru _ Hl;have hfl:(ys.flatMap iX).length=ys.length:=by rw[hi.flat ys,Nat.mul_one]
 have hmin:Nat.min ys.length N=ys.length:=zR hlen;have hcells:(Builtin.firstCells 1 ys.length (.slice (some ⟨dA ca,i2*sz+f2+lo,none⟩) ys.length cv)).run P w= .ok (ys.flatMap iX).toArray w:=
  run_firstCells_some (P:=P) w 1 ys.length _ _ _ (ys.flatMap iX) (by rw[hfl,Nat.mul_one]) (wm Wt)
 have hst:=run_storeCells_at P (dA ca) (i*sz+f) E (ys.flatMap iX) 0 cur w hP.block (by rw[hfl];omega) (hi.yy ys);simp only[EN]at hst;refine qW (w1:=w.setRow (dA ca) (cur.toList.take (i*sz+f)++ys.flatMap iX++cur.toList.drop (i*sz+f+(ys.flatMap iX).length)).toArray) (v:=.int .i64 ((ys.length:Nat):Int)) hw hd hn hr ?_ (λa hr=>k _ a (Fit.yC ?_ hca (by rw[hU];exact hn')) hr)
 ·unfold execOp;cases wI:P.info? afu with
  | none=>simp[wI]at hsz
  | some q =>
   simp[wI]at hsz;simp only[ho,resolve,invoke,builtin,ng,sM,nh,EO,zT,AD,hs,hx];simp[Builtin.copy_,run_underlying hty,Builtin.lenOf,sizeOf,typeInfo,wI,hsz,hmin,hcells,hst,goInt]
 ·refine(hP.turn (w':=w.setRow (dA ca) (cur.toList.take (i*sz+f)++ys.flatMap iX++cur.toList.drop (i*sz+f+(ys.flatMap iX).length)).toArray) (setRow_heap w (dA ca) cur _ E (0,0) hP.block) (λk hk _=>setRow_other w (dA ca) k _ hk) rfl rfl rfl (by simp)).head λz hz=>⟨by simpa using Hl,E4,_,?_,?_,hz⟩
  ·simp only[Cd,jP,tP,AB,tQ];omega
  ·have Wo:((xs.flatMap enc).drop (i*sz)).take sz=enc p:=by
    apply yu
    intro k;rw[List.getElem?_take];by_cases hk:k<sz
    ·rw[aW hk,List.getElem?_drop];exact he.get xs i k p hp hk
    ·rw[cF hk,List.getElem?_eq_none (by rw[he.len];omega)]
   rw[<-hfl]at hq hfit;generalize ys.flatMap iX=vs at hq hfit hst⊢;rw[hU,he.set xs i q E3,hq,<-Wo,Cw _ _ _ _ _ hfit (by rw[he.flat];exact hle),<-Q5];have hA:(cur.toList.take (i*sz+f)).length=i*sz+f:=by rw[tP,tQ];omega
   have e1:(cur.toList.take (i*sz+f)++vs++cur.toList.drop (i*sz+f+vs.length)).take (xs.length*sz)=cur.toList.take (i*sz+f)++vs++(cur.toList.drop (i*sz+f+vs.length)).take (xs.length*sz-(i*sz+f+vs.length)):=by
    rw[It,EL (by rw[jP,hA];omega),jP,hA]
   rw[Iu,e1,List.take_take,zR aB,Iv]
end
end GX
end
section
namespace Mo
open Go Go.RowKit SL GX
noncomputable section
variable {z w:World}{L:List bj}
structure cx where
 aL:Int
 A:Int
 B:Int
 C:Int
 K:Int
deriving Inhabited,DecidableEq
def cT(x:cx):List Value:=[Z x.aL,Z x.A,Z x.B,Z x.C,Z x.K]
abbrev gO(x:cx):List Value:=[Z x.aL,Z x.A,Z x.B,Z x.C,Z x.K]
abbrev nk(x:cx):Array Value:=#[Z x.aL,Z x.A,Z x.B,Z x.C,Z x.K]
abbrev iO(x:cx):Value:=.agg #[Z x.aL,Z x.A,Z x.B,Z x.C,Z x.K]
theorem iC:sH cT 5:=⟨λ_=>rfl,λx afv h=>by simp only[cT,sN,sO,sP]at h;rcases h with rfl | rfl | rfl | rfl | rfl<;>rfl,eL⟩
structure aD where
 aV:Int
 dg:Int
 bM:Int
 aq:List cx
deriving Inhabited,DecidableEq
structure bO where
 bR:List aD
 oH:List Int
 aF:Int
 au:Int
 fH:Int
 gq:Int
 dk:List Int
 fD:List Int
deriving Inhabited,DecidableEq
def Sc(a:fR)(c:Nat)(x:aD):List Value:=[Z x.aV,Z x.dg,Z x.bM,.slice a x.aq.length c]
abbrev BN(L:List bj)(va:fR)(hs:Nat->Option Addr×Nat)(l:List aD):Prop:=ym L 4 5 Sc cT aD.aq va hs l
structure eM where
 cA:Int
 dS:Int
 jL:Int
deriving Inhabited,DecidableEq
abbrev E5(x:eM):List Value:=[Z x.cA,Z x.dS,Z x.jL]
abbrev lz(x:eM):Array Value:=#[Z x.cA,Z x.dS,Z x.jL]
abbrev j8(x:eM):Value:=.agg #[Z x.cA,Z x.dS,Z x.jL]
abbrev K6(B:Nat)(S:eM):bj:=pts B (.cells #[Z S.cA,Z S.dS,Z S.jL] 27)
structure aR where
 gV:Int
 aL:Int
 Addr:Int
 A:Int
 B:Int
 OK:Bool
deriving Inhabited,DecidableEq
def gY(x:aR):List Value:=[Z x.gV,Z x.aL,Z x.Addr,Z x.A,Z x.B,R x.OK]
theorem sI:sH gY 6:=⟨λ_=>rfl,λx afv h=>by simp only[gY,sN,sO,sP]at h;rcases h with rfl | rfl | rfl | rfl | rfl | rfl<;>rfl,eL⟩
structure af where
 mB:Int
 fl:Int
 cell:List Int
 log:List aR
 sF:Int
 watched:Bool
deriving Inhabited,DecidableEq
abbrev ac2(B:Nat)(S:af)(a2:fR)(c2:Nat)(a3:fR)(c3:Nat):bj:=pts B (.cells #[Z S.mB,Z S.fl,.slice a2 S.cell.length c2,.slice a3 S.log.length c3,Z S.sF,R S.watched] 78)
abbrev XF(a:fR)(c:Nat)(l:List Int):bj:=rowOf 2 1 ck (.slice a l.length c) l
abbrev Sd(a:fR)(c:Nat)(l:List aR):bj:=rowOf 269 6 gY (.slice a l.length c) l
structure aM where
 ak:List aD
deriving Inhabited,DecidableEq
abbrev qD(B:Nat)(S:aD)(a3:fR)(c3:Nat):bj:=pts B (.cells #[Z S.aV,Z S.dg,Z S.bM,.slice a3 S.aq.length c3] 85)
structure eN where
 OA:Int
 Func:Int
 At:Int
deriving Inhabited,DecidableEq
abbrev AQ(x:eN):Value:=.agg #[Z x.OA,Z x.Func,Z x.At]
abbrev wN(B:Nat)(S:cx):bj:=pts B (.cells #[Z S.aL,Z S.A,Z S.B,Z S.C,Z S.K] 132)
abbrev xq(a:fR)(c:Nat)(l:List Int):bj:=rowOf 3 1 ck (.slice a l.length c) l
def jM(x:List Int)(cs:List Value):bj:=exs λth:fR=>exs λtj:Nat=>aC [PF (cs=[.slice th x.length tj]),xq th tj x]
theorem nn{x:List Int}{cs:List Value}(h:Fit z (aC (jM x cs::L)) w) :∃th:fR,∃tj:Nat,cs=[.slice th x.length tj]/\Fit z (aC (xq th tj x::L)) w:=by
 unfold jM at h;obtain⟨th,h⟩:=h.nj;obtain⟨tj,h⟩:=h.nj;have h:=h.sx;obtain⟨e,h⟩:=h.yx;exact⟨th,tj,e,h⟩
theorem iH{x:List Int}{th:fR}{tj:Nat}(h:Fit z (aC (xq th tj x::L)) w):Fit z (aC (jM x [.slice th x.length tj]::L)) w:=by
 unfold jM;refine Fit.jK th<|Fit.jK tj<|Fit.rL (PF (([.slice th x.length tj]:List Value)=[.slice th x.length tj])::xq th tj x::[]) L<|?_;exact h.wG rfl
abbrev Jq(a:fR)(c:Nat)(l:List (List Int)):bj:=sA 28 1 jM (.slice a l.length c) l
abbrev ac3(B:Nat)(S:eN):bj:=pts B (.cells #[Z S.OA,Z S.Func,Z S.At] 81)
structure uG where
 a:Int
 b:Int
 c:Int
 k:Int
 next:Bool
deriving Inhabited,DecidableEq
def gJ(x:uG):List Value:=[Z x.a,Z x.b,Z x.c,Z x.k,R x.next]
abbrev Jr(x:uG):List Value:=[Z x.a,Z x.b,Z x.c,Z x.k,R x.next]
abbrev Js(x:uG):Value:=.agg #[Z x.a,Z x.b,Z x.c,Z x.k,R x.next]
def w6:List uG:=[⟨1,0,0,0,true⟩,⟨1,1,0,0,true⟩,⟨1,1,1,5,true⟩,⟨3,0,0,0,false⟩,⟨1,3,0,0,true⟩,⟨2,4,0,0,true⟩,⟨0,0,0,0,true⟩,⟨1,2,0,0,true⟩,⟨1,0,0,0,true⟩,⟨1,0,0,0,false⟩]
abbrev Se(B:Nat)(S:uG):bj:=pts B (.cells #[Z S.a,Z S.b,Z S.c,Z S.k,R S.next] 215)
structure mU where
 D6:Int
 CA:Int
 Gw:Int
deriving Inhabited,DecidableEq
abbrev zX(x:mU):Value:=.agg #[Z x.D6,Z x.CA,Z x.Gw]
structure aT where
 J:Int
 state:Int
deriving Inhabited,DecidableEq
def dR(x:aT):List Value:=[Z x.J,Z x.state]
abbrev E6(x:aT):List Value:=[Z x.J,Z x.state]
abbrev E7(x:aT):Array Value:=#[Z x.J,Z x.state]
abbrev vA(x:aT):Value:=.agg #[Z x.J,Z x.state]
theorem nL:sH dR 2:=⟨λ_=>rfl,λx afv h=>by simp only[dR,sN,sO,sP]at h;rcases h with rfl | rfl<;>rfl,eL⟩
theorem E8(x y:aT):tT (dR x) (dR y)=decide (x=y):=by
 rw[Bool.eq_iff_iff];cases x;cases y;simp[dR,tT]
theorem Jt:KS Tryz.prog 221 dR:=⟨aK,aK,λx y=>aK,E8⟩
abbrev OB(B:Nat)(S:aT):bj:=pts B (.cells #[Z S.J,Z S.state] 221)
structure aU where
 fn:Int
 J:Int
 parent:Int
 slot:Int
 ct:Int
 nD:Int
 da:List Int
deriving Inhabited,DecidableEq
def cP(x:aU):List Value:=[Z x.fn,Z x.J,Z x.parent,Z x.slot,Z x.ct,Z x.nD]++kW 16 ck x.da
abbrev n8(x:aU):List Value:=[Z x.fn,Z x.J,Z x.parent,Z x.slot,Z x.ct,Z x.nD]++kW 16 ck x.da
theorem bP:sH (cP) 22:=yF.enc (N:=6+16*1) (λx=>(show yF (cP x) (6+16*1)from((yF.lit 6 (by rfl)).app (FG 16 aE _)))) eL (by rfl)
abbrev rG(a:fR)(c:Nat)(l:List aU):bj:=rowOf 100 22 cP (.slice a l.length c) l
abbrev IU(a:fR)(c:Nat)(l:List cx):bj:=rowOf 132 5 cT (.slice a l.length c) l
def lZ(x:aD)(cs:List Value):bj:=exs λth:fR=>exs λtj:Nat=>aC [PF (cs=[Z x.aV,Z x.dg,Z x.bM,.slice th x.aq.length tj]),IU th tj x.aq]
theorem tX{x:aD}{cs:List Value}(h:Fit z (aC (lZ x cs::L)) w) :∃th:fR,∃tj:Nat,cs=[Z x.aV,Z x.dg,Z x.bM,.slice th x.aq.length tj]/\Fit z (aC (IU th tj x.aq::L)) w:=by
 unfold lZ at h;obtain⟨th,h⟩:=h.nj;obtain⟨tj,h⟩:=h.nj;have h:=h.sx;obtain⟨e,h⟩:=h.yx;exact⟨th,tj,e,h⟩
theorem eW{x:aD}{th:fR}{tj:Nat}(h:Fit z (aC (IU th tj x.aq::L)) w):Fit z (aC (lZ x [Z x.aV,Z x.dg,Z x.bM,.slice th x.aq.length tj]::L)) w:=by
 unfold lZ;refine Fit.jK th<|Fit.jK tj<|Fit.rL (PF (([Z x.aV,Z x.dg,Z x.bM,.slice th x.aq.length tj]:List Value)=[Z x.aV,Z x.dg,Z x.bM,.slice th x.aq.length tj])::IU th tj x.aq::[]) L<|?_;exact h.wG rfl
abbrev qa(a:fR)(c:Nat)(l:List aD):bj:=sA 85 4 lZ (.slice a l.length c) l
structure cz where
 kE:Int
 jL:Int
deriving Inhabited,DecidableEq
def bq(x:cz):List Value:=[Z x.kE,Z x.jL]
abbrev lJ(x:cz):List Value:=[Z x.kE,Z x.jL]
abbrev n9(x:cz):Array Value:=#[Z x.kE,Z x.jL]
abbrev gZ(x:cz):Value:=.agg #[Z x.kE,Z x.jL]
theorem fT:sH bq 2:=⟨λ_=>rfl,λx afv h=>by simp only[bq,sN,sO,sP]at h;rcases h with rfl | rfl<;>rfl,eL⟩
structure bV where
 kind:Int
 J:Int
 nE:Int
 nS:Int
 v:Int
 t:Int
 b:Int
 a:Int
 c:Int
 a2:Int
 c2:Int
 i:Int
 x:Int
 AU:Bool
 code:Int
 value:Int
deriving Inhabited,DecidableEq
def bC(x:bV):List Value:=[Z x.kind,Z x.J,Z x.nE,Z x.nS,Z x.v,Z x.t,Z x.b,Z x.a,Z x.c,Z x.a2,Z x.c2,Z x.i,Z x.x,R x.AU,Z x.code,Z x.value]
abbrev jt(x:bV):List Value:=[Z x.kind,Z x.J,Z x.nE,Z x.nS,Z x.v,Z x.t,Z x.b,Z x.a,Z x.c,Z x.a2,Z x.c2,Z x.i,Z x.x,R x.AU,Z x.code,Z x.value]
abbrev mV(x:bV):Array Value:=#[Z x.kind,Z x.J,Z x.nE,Z x.nS,Z x.v,Z x.t,Z x.b,Z x.a,Z x.c,Z x.a2,Z x.c2,Z x.i,Z x.x,R x.AU,Z x.code,Z x.value]
abbrev fc(x:bV):Value:=.agg #[Z x.kind,Z x.J,Z x.nE,Z x.nS,Z x.v,Z x.t,Z x.b,Z x.a,Z x.c,Z x.a2,Z x.c2,Z x.i,Z x.x,R x.AU,Z x.code,Z x.value]
theorem xu:sH bC 16:=⟨λ_=>rfl,λx afv h=>by simp only[bC,sN,sO,sP]at h;rcases h with rfl | rfl | rfl | rfl | rfl | rfl | rfl | rfl | rfl | rfl | rfl | rfl | rfl | rfl | rfl | rfl<;>rfl,eL⟩
theorem Co(x y:bV):tT (bC x) (bC y)=decide (x=y):=by
 rw[Bool.eq_iff_iff];cases x;cases y;simp[bC,tT,and_assoc]
structure cy where
 eA:Int
 dZ:Int
 gu:Int
 aA:Int
 fm:Int
 lU:Int
 kind:Int
 slot:Int
 K7:Int
deriving Inhabited,DecidableEq
def mC(x:cy):List Value:=[Z x.eA,Z x.dZ,Z x.gu,Z x.aA,Z x.fm,Z x.lU,Z x.kind,Z x.slot,Z x.K7]
abbrev jV(x:cy):List Value:=[Z x.eA,Z x.dZ,Z x.gu,Z x.aA,Z x.fm,Z x.lU,Z x.kind,Z x.slot,Z x.K7]
abbrev AV(x:cy):Array Value:=#[Z x.eA,Z x.dZ,Z x.gu,Z x.aA,Z x.fm,Z x.lU,Z x.kind,Z x.slot,Z x.K7]
abbrev jW(x:cy):Value:=.agg #[Z x.eA,Z x.dZ,Z x.gu,Z x.aA,Z x.fm,Z x.lU,Z x.kind,Z x.slot,Z x.K7]
theorem CB:sH mC 9:=⟨λ_=>rfl,λx afv h=>by simp only[mC,sN,sO,sP]at h;rcases h with rfl | rfl | rfl | rfl | rfl | rfl | rfl | rfl | rfl<;>rfl,eL⟩
theorem Gx(x y:cy):tT (mC x) (mC y)=decide (x=y):=by
 rw[Bool.eq_iff_iff];cases x;cases y;simp[mC,tT,and_assoc]
structure bY where
 bQ:Int
 bZ:Int
 gw:Int
 dw:Int
 az:Int
 dm:Int
 jG:Int
 ef:Int
 fo:Int
 dD:List cz
 look:bV
deriving Inhabited,DecidableEq
def sS(x:bY):List Value:=[Z x.bQ,Z x.bZ,Z x.gw,Z x.dw,Z x.az,Z x.dm,Z x.jG,Z x.ef,Z x.fo]++kW 64 bq x.dD++bC x.look
abbrev mb(x:bY):List Value:=[Z x.bQ,Z x.bZ,Z x.gw,Z x.dw,Z x.az,Z x.dm,Z x.jG,Z x.ef,Z x.fo]++kW 64 bq x.dD++bC x.look
abbrev nU(x:bY):Array Value:=([Z x.bQ,Z x.bZ,Z x.gw,Z x.dw,Z x.az,Z x.dm,Z x.jG,Z x.ef,Z x.fo]++kW 64 bq x.dD++bC x.look).toArray
abbrev iK(x:bY):Value:=.agg ([Z x.bQ,Z x.bZ,Z x.gw,Z x.dw,Z x.az,Z x.dm,Z x.jG,Z x.ef,Z x.fo]++kW 64 bq x.dD++bC x.look).toArray
theorem D7:sH (sS) 153:=yF.enc (N:=9+64*2+16) (λx=>(show yF (sS x) (9+64*2+16)from(((yF.lit 9 (by rfl)).app (FG 64 fT _)).app (xu.p _)))) eL (by rfl)
structure bD where
 bp:Int
 aG:Int
 ax:Int
 from_:Int
 cw:Int
 done:Int
 fZ:Int
 fF:Int
 bl:bV
 dM:cy
 cL:bY
 parked:Bool
deriving Inhabited,DecidableEq
def lB(B:Nat)(x:bD):List Value:=[u B 0,Z x.bp,Z x.aG,Z x.ax,Z x.from_,Z x.cw,Z x.done,Z x.fZ,Z x.fF]++bC x.bl++mC x.dM++sS x.cL++[R x.parked]
theorem aj(B:Nat):sH (lB B) 188:=yF.enc (N:=9+16+9+153+1) (λx=>(show yF (lB B x) (9+16+9+153+1)from(((((yF.lit 9 (by rfl)).app (xu.p _)).app (CB.p _)).app (D7.p _)).app (yF.lit 1 (by rfl))))) eL (by rfl)
structure ag where
 code:List aD
 result:Int
 dH:Int
 cQ:Int
 fq:Int
 cO:Int
 dD:List cz
 aH:List aU
 ah:List bD
 value:Int
 left:Bool
deriving Inhabited,DecidableEq
structure bg where
 kE:Int
 cA:Int
deriving Inhabited,DecidableEq
abbrev xw(x:bg):List Value:=[Z x.kE,Z x.cA]
abbrev hH(x:bg):Array Value:=#[Z x.kE,Z x.cA]
abbrev fI(x:bg):Value:=.agg #[Z x.kE,Z x.cA]
structure fe where
 kE:Int
 aF:Int
deriving Inhabited,DecidableEq
abbrev Hz(x:fe):List Value:=[Z x.kE,Z x.aF]
abbrev sU(x:fe):Array Value:=#[Z x.kE,Z x.aF]
abbrev pO(x:fe):Value:=.agg #[Z x.kE,Z x.aF]
abbrev qQ(a:fR)(c:Nat)(l:List cz):bj:=rowOf 104 2 bq (.slice a l.length c) l
abbrev qR(B:Nat)(a:fR)(c:Nat)(l:List bD):bj:=rowOf 117 188 (lB B) (.slice a l.length c) l
abbrev K8(B:Nat)(S:cz):bj:=pts B (.cells #[Z S.kE,Z S.jL] 104)
abbrev iY(B:Nat)(S:cy):bj:=pts B (.cells #[Z S.eA,Z S.dZ,Z S.gu,Z S.aA,Z S.fm,Z S.lU,Z S.kind,Z S.slot,Z S.K7] 110)
abbrev Ag(B:Nat)(S:ag)(k0:Value)(a1:fR)(c1:Nat)(a7:fR)(c7:Nat)(a8:fR)(c8:Nat)(a9:fR)(c9:Nat):bj:=pts B (.cells #[k0,.slice a1 S.code.length c1,Z S.result,Z S.dH,Z S.cQ,Z S.fq,Z S.cO,.slice a7 S.dD.length c7,.slice a8 S.aH.length c8,.slice a9 S.ah.length c9,Z S.value,R S.left] 96)
abbrev xO(B:Nat)(S:bO)(a0:fR)(c0:Nat)(a1:fR)(c1:Nat)(a6:fR)(c6:Nat)(a7:fR)(c7:Nat):bj:=pts B (.cells #[.slice a0 S.bR.length c0,.slice a1 S.oH.length c1,Z S.aF,Z S.au,Z S.fH,Z S.gq,.slice a6 S.dk.length c6,.slice a7 S.fD.length c7] 32)
def OC:List Bool:=[false,false,false,false,false,false,false,false,false,false,false,false,false,true,true]
structure ai where
 At:Int
 gV:Int
 aL:Int
 Frame:Int
 X:Int
 V:Int
deriving Inhabited,DecidableEq
def hM(x:ai):List Value:=[Z x.At,Z x.gV,Z x.aL,Z x.Frame,Z x.X,Z x.V]
abbrev dI(x:ai):List Value:=[Z x.At,Z x.gV,Z x.aL,Z x.Frame,Z x.X,Z x.V]
abbrev tY(x:ai):Array Value:=#[Z x.At,Z x.gV,Z x.aL,Z x.Frame,Z x.X,Z x.V]
abbrev eu(x:ai):Value:=.agg #[Z x.At,Z x.gV,Z x.aL,Z x.Frame,Z x.X,Z x.V]
theorem eU:sH hM 6:=⟨λ_=>rfl,λx afv h=>by simp only[hM,sN,sO,sP]at h;rcases h with rfl | rfl | rfl | rfl | rfl | rfl<;>rfl,eL⟩
abbrev fu(B:Nat)(S:ai):bj:=pts B (.cells #[Z S.At,Z S.gV,Z S.aL,Z S.Frame,Z S.X,Z S.V] 47)
abbrev dL(B:Nat)(S:bV):bj:=pts B (.cells #[Z S.kind,Z S.J,Z S.nE,Z S.nS,Z S.v,Z S.t,Z S.b,Z S.a,Z S.c,Z S.a2,Z S.c2,Z S.i,Z S.x,R S.AU,Z S.code,Z S.value] 106)
abbrev iu(B:Nat)(S:bY):bj:=pts B (.cells ([Z S.bQ,Z S.bZ,Z S.gw,Z S.dw,Z S.az,Z S.dm,Z S.jG,Z S.ef,Z S.fo]++kW 64 bq S.dD++bC S.look).toArray 115)
abbrev ac4(B:Nat)(S:fe):bj:=pts B (.cells #[Z S.kE,Z S.aF] 92)
end
noncomputable section
variable {z w:World}{L:List bj}
abbrev an (p:ag) (i:Int):=J p.ah i.toNat
abbrev pP (p:ag) (i:Int):=J p.aH (J p.ah i.toNat).ax.toNat
abbrev jN (p:ag) (i:Int) (a:bD):=p.ah.set i.toNat a
theorem _root_.Go.Proofs.YtaiffafelihaaaaGreatDoor.SL.Fit.gg{B:Nat}{z w:World}{L:List bj}{ca:fR}{n cc:Nat}{l:List bD}{x:bD}(h:Fit z (aC (rowOf 117 188 (lB B) (.slice ca n cc) l::L)) w)(f:Nat)(i:Int)(hx:l[i.toNat]?=some x)(xs:List Value)(hxs:(((lB B) x).drop f).take xs.length=xs:=by kernel_rfl):qK w (dA ca) (i.toNat*188+f) xs:=h.Gp (sz:=188) (i:=i.toNat) (aj B) (f:=f) hx hxs
theorem _root_.Go.Proofs.YtaiffafelihaaaaGreatDoor.SL.Fit.E9{z w:World}{L:List bj}{ca:fR}{n cc:Nat}{l:List aU}{x:aU}(h:Fit z (aC (rowOf 100 22 cP (.slice ca n cc) l::L)) w)(f:Nat)(i:Int)(hx:l[i.toNat]?=some x)(xs:List Value)(hxs:((cP x).drop f).take xs.length=xs:=by kernel_rfl):qK w (dA ca) (i.toNat*22+f) xs:=h.Gp (sz:=22) (i:=i.toNat) bP (f:=f) hx hxs
section
variable {P:Program}{ops:Array Oper}{Q:Exit->Act->World->Prop}{a:Act}{w w0 w1:World}{rest:List Oper}{o:Oper}{n d t:Nat}{v:Value}{l:List (Nat×Value)}{j e:Nat->Value}{L:List bj}{Df:List Deferred}{α:Type}{E:TypeId}{sz n0 cc:Nat}{enc:α->List Value}{xs:List α}{ca:fR}
theorem nM{x y:Operand}(hr:cS Df n (lk l j) a)(ho:o.op=.store t x y)(v:Value)(he:sH enc sz)(hF:Fit w0 (aC (rowOf E sz enc (.slice ca n0 cc) xs::L)) w)(i f:Nat)(p q:α)(hp:xs[i]?=some p)(k:∀ w1,Fit w0 (aC (rowOf E sz enc (.slice ca n0 cc) (xs.set i q)::L)) w1->wpList P ops Q rest a w1)(hf:f<sz:=by decide)(hx:eO (lk l j) x=.pointer (some ⟨dA ca,i*sz+f,none⟩):=by kernel_rfl)(hy:eO (lk l j) y=v:=by kernel_rfl)(hs:(P.info? t).map (·.size)=some 1:=by kernel_rfl)(hq:enc q=(enc p).set f v:=by kernel_rfl)(hw:Region.wanted o (yielded ops a.tmps)=true:=by exact wn rfl)(hd:o.dst=none:=by rfl)(hv:v.cells=#[v]:=by rfl)(h1:v.oneCell'=true:=by rfl):wpList P ops Q (o::rest) a w:=oW hw hd hr ho hx hy hv h1 hs he hF hp hf hq k
theorem nN{w':World}{x y:Operand}{i:Int}[Inhabited α](E:TypeId)(ho:o.op=.indexAddr t x y)(hF:Fit w0 (aC (rowOf E sz enc (.slice ca n cc) xs::L)) w)(hi:bI i xs.length)(hx:eO e x=.slice ca n cc:=by kernel_rfl)(hy:eO e y=.int .i64 i:=by kernel_rfl)(ht:P.underlying t=some (.slice E):=by kernel_rfl)(hs:(P.info? E).map (·.size)=some sz:=by kernel_rfl):(execOp (eO e) o).run P w'=.ok (.value (.pointer (some ⟨dA ca,i.toNat*sz,none⟩))) w':=zg ho hx hy ht hs hF hi
theorem HA{x y:Operand}{i:Int}{b N afw off:Nat}{w':World}(E:TypeId)(ho:o.op=.indexAddr t x y)(hi:bI i N)(hx:eO e x=.pointer (some ⟨b,afw+off,none⟩):=by kernel_rfl)(hy:eO e y=.int .i64 i:=by kernel_rfl)(ht:P.underlying t=some (.array N E):=by kernel_rfl)(hs:(P.info? E).map (·.size)=some sz:=by kernel_rfl):(execOp (eO e) o).run P w'=.ok (.value (.pointer (some ⟨b,afw+(off+i.toNat*sz),none⟩))) w':=Xv ho hx hy ht hs hi
theorem pX{fn:Func}{afw:Ending->World->Prop}{t T b off afv:Nat}(cs:List Value)(v:Value)(hres:fn.results=#[.cell t T,.tmp afv])(hr:kH n e a)(hc:qK w b off cs)(h:afw (.returned (.tuple #[.agg cs.toArray,v])) w)(hv:e t=.pointer (some ⟨b,off,none⟩):=by kernel_rfl)(Xg:e afv=v:=by kernel_rfl)(hu:tS (P.underlying T)=true:=by kernel_rfl)(hs:(P.info? T).map (·.size)=some cs.length:=by kernel_rfl):bodyPost P fn afw .ret a w:=PL hres hr hv Xg hu hs hc h
theorem iS[hp:PI Q]{D:World->Prop}{E:List Nat}{aO:Array Bool}(fuel i:Nat)(hi:ops[i]?=some o)(v:Value)(k:KK Df n ((dn o,v)::l) j (eK P .any ops Q D E fuel (aO.setIfInBounds i true)) w)(hg:o.guard=none:=by rfl)(hB:okB ops E aO i=true:=by kernel_rfl)(hrun:∀ w,(execOp (eO (lk l j)) o).run P w=.ok (.value v) w:=by intro w;kernel_rfl)(hd:o.dst=some (dn o):=by rfl)(hn:Nat.blt (dn o) n=true:=by rfl):KK Df n l j (eK P .any ops Q D E (fuel+1) aO) w:=λa r=>evs fuel i hi (wn hg) r v k hB hrun hd hn
theorem jl[hp:PI Q]{D:List (Nat×Nat×List Value)}{E:List Nat}{aO:Array Bool}(hd:HL D w)(f i:Nat)(hi:ops[i]?=some o)(v:Value)(hrun:∀ w,(execOp (eO (lk l j)) o).run P w=.ok (.value v) w)(k:KK Df n ((dn o,v)::l) j (eK P .any ops Q (HL D) E f (aO.setIfInBounds i true)) w)(hg:o.guard=none:=by rfl)(hB:Wm ops E aO i=true:=by kernel_rfl)(h1:o.dst=some (dn o):=by rfl)(hn:Nat.blt (dn o) n=true:=by rfl):KK Df n l j (eK P .any ops Q (HL D) E (f+1) aO) w:=λa r=>fV hd f i hi (wn hg) r v k hB hrun h1 hn
theorem oa{fn:Func}{afw:Ending->World->Prop}(v:Value)(hres:fn.results=#[.tmp t])(hr:kH n e a)(h:afw (.returned v) w)(hv:e t=v:=by kernel_rfl):bodyPost P fn afw .ret a w:=yz hres hr hv h
theorem Dd{fn:Func}{afw:Ending->World->Prop}{t':Nat}(v v':Value)(hres:fn.results=#[.tmp t,.tmp t'])(hr:kH n e a)(h:afw (.returned (.tuple #[v,v'])) w)(hv:e t=v:=by kernel_rfl)(Xg:e t'=v':=by kernel_rfl):bodyPost P fn afw .ret a w:=Ga hres hr hv Xg h
theorem Ju{fn:Func}{afw:Ending->World->Prop}{t1 t2 t3:Nat}(v1 v2 v3:Value)(hres:fn.results=#[.tmp t1,.tmp t2,.tmp t3])(hr:kH n e a)(h:afw (.returned (.tuple #[v1,v2,v3])) w)(h1:e t1=v1:=by kernel_rfl)(h2:e t2=v2:=by kernel_rfl)(h3:e t3=v3:=by kernel_rfl):bodyPost P fn afw .ret a w:=Gf hres hr h1 h2 h3 h
theorem vb{x y:Operand}{i i':Int}(ho:o.op=.index t x y)(hi:i=i')(hy:eO e y=.int .i64 i:=by kernel_rfl)(hrun:(Instr.index t (eO e x) (.int .i64 i')).run P w=.ok v w:=by kernel_rfl):(execOp (eO e) o).run P w=.ok (.value v) w:=acY ho hy hi hrun
theorem D8{β:Type}[Inhabited α]{x y:Operand}{i:Int}{m rY:Nat}{enc:fR->Nat->α->List Value}{iX:β->List Value}{uq:α->List β}{va:fR}{hs:Nat->Option Addr×Nat}(E:TypeId)(cc:Nat)(ho:o.op=.indexAddr t x y)(Ho:m=xs.length)(hF:ym L sz rY enc iX uq va hs xs)(hi:bI i xs.length)(hx:eO e x=.slice va m cc:=by kernel_rfl)(hy:eO e y=.int .i64 i:=by kernel_rfl)(ht:P.underlying t=some (.slice E):=by kernel_rfl)(hs':(P.info? E).map (·.size)=some sz:=by kernel_rfl):(execOp (eO e) o).run P w=.ok (.value (.pointer (some ⟨dA va,kg va+i.toNat*sz,none⟩))) w:=aaG ho hx hy Ho ht hs' hF hi
theorem Fa[Inhabited α]{x y:Operand}{i:Int}{m:Nat}{va:fR}(E:TypeId)(cc:Nat)(ho:o.op=.indexAddr t x y)(Ho:m=xs.length)(hF:bL L sz enc va xs)(hi:bI i xs.length)(hx:eO e x=.slice va m cc:=by kernel_rfl)(hy:eO e y=.int .i64 i:=by kernel_rfl)(ht:P.underlying t=some (.slice E):=by kernel_rfl)(hs:(P.info? E).map (·.size)=some sz:=by kernel_rfl):(execOp (eO e) o).run P w=.ok (.value (.pointer (some ⟨dA va,kg va+i.toNat*sz,none⟩))) w:=Wj ho hx hy Ho ht hs hF hi
end
abbrev jh(z:World)(l:List bj)(w:World):Prop:=Fit z (aC l) w
abbrev nV(f:FuncId)(a:Array Value)(w z:World)(v:Value)(l:List bj):Prop:=Calls Tryz.prog f a w λe w=>e=.returned v/\Fit z (aC l) w
abbrev c1_{α:Type}(f:FuncId)(a:Array Value)(w z:World)(v:Value)(l:α->List bj):Prop:=Calls Tryz.prog f a w λe w=>∃x,e=.returned v/\Fit z (aC (l x)) w
abbrev c2_{α β:Type}(f:FuncId)(a:Array Value)(w z:World)(v:Value)(l:α->β->List bj):Prop:=Calls Tryz.prog f a w λe w=>∃x y,e=.returned v/\Fit z (aC (l x y)) w
abbrev w7{α β γ δ:Type}(f:FuncId)(a:Array Value)(w z:World)(v:Value)(l:α->β->γ->δ->List bj):Prop:=Calls Tryz.prog f a w λe w=>∃x y x' y',e=.returned v/\Fit z (aC (l x y x' y')) w
section
variable {P:Program}{ops:Array Oper}{Q:Exit->Act->World->Prop}{a:Act}{w w0 w1:World}{rest:List Oper}{o:Oper}{n d t:Nat}{v:Value}{l:List (Nat×Value)}{j e:Nat->Value}{L:List bj}{Df:List Deferred}{α:Type}{E:TypeId}{sz n0 cc:Nat}{enc:α->List Value}{xs:List α}{ca:fR}
theorem mJ{i:Nat}{E:List Nat}{D:World->Prop}{X:Act->World->Prop}(k:KK Df n l j X w)(hB:¬i∈E:=by decide):KK Df n l j (λa w=>(i∈E->D w)/\X a w) w:=λa r=>⟨λh=>absurd h hB,k a r⟩
theorem kI{E:List Nat}{aO:Array Bool}{D:World->Prop}{fuel:Nat}(k:KK Df n l j (Q .normal) w)(hrd:Region.ready .any ops aO=[]:=by kernel_rfl):KK Df n l j (eK P .any ops Q D E fuel aO) w:=λa r=>yl (k a r) hrd
theorem lQ{E:List Nat}{aO:Array Bool}(i:Nat){D:World->Prop}{fuel:Nat}(hi:ops[i]?=some o)(k:KK Df n l j (wpList P ops (Exit.then (λa w=>(i∈E->D w)/\eK P .any ops Q D E fuel (aO.setIfInBounds i true) a w) Q) [o]) w)(hrd:Region.ready .any ops aO=[i]:=by kernel_rfl):KK Df n l j (eK P .any ops Q D E (fuel+1) aO) w:=λa r=>lI i hi (k a r) hrd
theorem uH{i:Nat}{E:List Nat}{D:World->Prop}{X:Act->World->Prop}(hd:D w)(k:D w->KK Df n l j X w):KK Df n l j (λa w=>(i∈E->D w)/\X a w) w:=λa r=>⟨λ_=>hd,k hd a r⟩
theorem lC{id:Nat}{lo:List Oper}{H:bj}(D:List (Nat×Nat×List Value))(E:List Nat)(N:Nat)(hF:Fit w0 H w)(hd:∀{w},Fit w0 H w->HL D w)(k:∀w,Fit w0 H w->HL D w->KK Df n l j (eK P .any lo.toArray Q (HL D) E N (Array.replicate N false)) w)(hm:P.follows .mixedOrders=true:=by kernel_rfl)(hN:lo.toArray.size=N:=by rfl):KK Df n l j ((Code.region id lo.toArray true).wp P Q) w:=λa r=>vZ D E N hF hd (λw h hd=>k w h hd a r) hm hN
theorem yY{x:Operand}{ad:Addr}(v:Value)(hc:w.cell? ad=some v)(k:KK Df n ((d,v)::l) j (wpList P ops Q rest) w)(hw:o.guard=none:=by rfl)(hd:o.dst=some d:=by rfl)(hn:Nat.blt d n=true:=by rfl)(ho:o.op=.load t x:=by rfl)(hx:eO (lk l j) x=.pointer (some ad):=by kernel_rfl)(hu:wH (P.underlying t)=true:=by kernel_rfl):KK Df n l j (wpList P ops Q (o::rest)) w:=λ_ r=>ld (wn hw) r v hc k hd hn ho hx hu
theorem xx{x:Operand}{b off:Nat}{cs:List Value}(v:Value)(hc:qK w b off cs)(k:KK Df n ((d,v)::l) j (wpList P ops Q rest) w)(hv:.agg cs.toArray=v:=by rfl)(hw:o.guard=none:=by rfl)(hd:o.dst=some d:=by rfl)(hn:Nat.blt d n=true:=by rfl)(ho:o.op=.load t x:=by rfl)(hx:eO (lk l j) x=.pointer (some ⟨b,off,none⟩):=by kernel_rfl)(hu:tS (P.underlying t)=true:=by kernel_rfl)(hs:(P.info? t).map (·.size)=some cs.length:=by kernel_rfl):KK Df n l j (wpList P ops Q (o::rest)) w:=λ_ r=>ldm (wn hw) r v hc k hv hd hn ho hx hu hs
def XG(b:Nat)(afs:List (List Nat×Value)):List (Nat×Nat×Value):=afs.flatMap λg=>g.1.map λk=>(k,b+k,g.2)
theorem ju{E:List Nat}{aO:Array Bool}{N:Nat}{D:List (Nat×Nat×List Value)}[hp:PI Q](hd:HL D w)(f b:Nat)(afs:List (List Nat×Value))(k:KK Df n (RD (XG b afs) l) j (eK P .any ops Q (HL D) E f (RC (XG b afs) aO)) w)(hN:f+(XG b afs).length=N:=by kernel_rfl)(hB:Zr ops E n (XG b afs) aO=true:=by kernel_rfl)(hrun:∀w,Jk P ops (XG b afs) l j w=C3 (XG b afs) w:=by intro w;kernel_rfl):KK Df n l j (eK P .any ops Q (HL D) E N aO) w:=iy hd f (XG b afs) k hN hB hrun
theorem bT{os:List Oper}(k:KK Df n (adA P j os [U] l) j (wpList P ops Q (os.drop 1)) w)(hrun:Xy P n j w os [U] l=Xz P j w os [U] l:=by kernel_rfl):KK Df n l j (wpList P ops Q os) w:=ko [U] k hrun
theorem aN{RA:Nat}{y:Code}{os:List Oper}(vs:List Value)(k:KK Df n (adA P j os vs l) j (wpList P os.toArray (Exit.then (y.wp P Q) Q) (os.drop vs.length)) w)(hrun:Xy P n j w os vs l=Xz P j w os vs l:=by kernel_rfl):KK Df n l j ((Code.seq (.region RA os.toArray false) y).wp P Q) w:=ks (ko vs k hrun)
theorem gS{RA:Nat}{y:Code}{o:Oper}(k:KK Df n (adA P j [o] [U] l) j (y.wp P Q) w)(hrun:Xy P n j w [o] [U] l=Xz P j w [o] [U] l:=by kernel_rfl):KK Df n l j ((Code.seq (.region RA [o].toArray false) y).wp P Q) w:=ks (ko [U] (I k) hrun)
theorem cB(k:KK Df n l j (Q .ret) w):KK Df n l j (wpList P ops (Exit.then (Code.ret.wp P Q) Q) []) w:=I (wr k)
theorem gD{K:Act->World->Prop}(k:KK Df n l j K w):KK Df n l j (Code.skip.wp P (Exit.then K Q)) w:=wk (tn k)
theorem fg{E:List Nat}{aO:Array Bool}{D:List (Nat×Nat×List Value)}{v:Value}[hp:PI Q](hd:HL D w)(q f i:Nat){b off:Nat}{x:Operand}(h:(ops[i]?,D[q]?)=(some o,some (b,off,[v])))(k:KK Df n ((dn o,v)::l) j (eK P .any ops Q (HL D) E f (aO.setIfInBounds i true)) w)(hg:o.guard=none:=by rfl)(hB:(okB ops E aO i&&Ck .any ops E aO i)=true:=by kernel_rfl)(ho:o.op=.load t x:=by rfl)(hx:eO (lk l j) x=.pointer (some ⟨b,off,none⟩):=by kernel_rfl)(hu:wH (P.underlying t)=true:=by kernel_rfl)(h1:o.dst=some (dn o):=by rfl)(hn:Nat.blt (dn o) n=true:=by rfl):KK Df n l j (eK P .any ops Q (HL D) E (f+1) aO) w:=kx hd q f i (qG (·.1) h) (qG (·.2) h) k hg hB ho hx hu h1 hn
end
abbrev mw(a:fR)(i:Int)(s:Nat):Value:=u (dA a) (i.toNat*s)
abbrev aY(a:fR)(n c:Nat):Value:=.slice a n c
abbrev if_(n:Nat)(v:Value):Value:=.iface n v
abbrev oP(a:Array Value):Value:=.agg a
abbrev gK(b:Nat)(c:Array Value)(t:Nat):bj:=pts b (.cells c t)
abbrev sV(a:fR)(i:Int)(s f:Nat):Value:=u (dA a) (i.toNat*s+f)
abbrev ey (p:ag) (i:Int):aU:={pP p i with J:=wi ((pP p i).J+1)}
abbrev CC (p:ag) (i:Int):aD:=J p.code (pP p i).fn.toNat
abbrev fE (p:ag) (i:Int):cx:=J (CC p i).aq (pP p i).J.toNat
abbrev De (p:ag) (i:Int) (a:aU):=p.aH.set (an p i).ax.toNat a
def kq(O:eM):Option (Bool):=
 (if O.cA<1 then some true else(if O.cA>4096 then some true else(if O.dS<1 then some true else(if O.dS>O.jL then some true else some (decide (O.jL>4096))))))
abbrev dx:List Value:=[U,U]
theorem xe(H:kq O=some r0)(h:jh z (L) w) :
 nV 33 #[j8 O] w z (R r0) (L):=by
 unfold kq at H;refine ke func33 28 rfl λj=>ks<|kN h (lz O) 27 λb1 w h=>bT<|I<|aN [U]<|kL h 0<|ko [cJ (O.cA<1),cJ (O.cA<1)]<|qI H (λc2 H=>?_) λc2 H=>?_
 ·refine bU (dT c2) [7,8,9]<|ny (dT c2) (R true)<|bT<|bU (rfl:true=true) [12,13,14]<|ko dx<|bU (rfl:true=true) [17,18,19,20,21]<|ko dx<|bU (rfl:true=true) [24,25,26]<|ko dx<|cB<|?_;cases H;exact gC (h.se 1 [])
 refine cR (dF c2) [7] [u b1 0]<|sv (dF c2) h 0<|cR (dF c2) [9] [cJ (O.cA>4096)]<|nv (dF c2) (cJ (O.cA>4096))<|ko [cJ (O.cA>4096)]<|qI H (λc3 H=>?_) λc3 H=>?_
 ·refine bU (dT c3) [12,13,14]<|ny (dT c3) (R true)<|bT<|bU (rfl:true=true) [17,18,19,20,21]<|ko dx<|bU (rfl:true=true) [24,25,26]<|ko dx<|cB<|?_;cases H;exact gC (h.se 1 [])
 refine cR (dF c3) [12] [u b1 1]<|sv (dF c3) h 1<|cR (dF c3) [14] [cJ (O.dS<1)]<|nv (dF c3) (cJ (O.dS<1))<|ko [cJ (O.dS<1)]<|qI H (λc4 H=>?_) λc4 H=>?_
 ·refine bU (dT c4) [17,18,19,20,21]<|ny (dT c4) (R true)<|bT<|bU (rfl:true=true) [24,25,26]<|ko dx<|cB<|?_;cases H;exact gC (h.se 1 [])
 refine cR (dF c4) [17] [u b1 1]<|sv (dF c4) h 1<|cR (dF c4) [19] [u b1 2]<|sv (dF c4) h 2<|cR (dF c4) [21] [cJ (O.dS>O.jL)]<|nv (dF c4) (cJ (O.dS>O.jL))<|ko [cJ (O.dS>O.jL)]<|qI H (λc5 H=>?_) λc5 H=>?_
 ·refine bU (dT c5) [24,25,26]<|ny (dT c5) (R true)<|bT<|cB<|?_;cases H;exact gC (h.se 1 [])
 refine cR (dF c5) [24] [u b1 2]<|sv (dF c5) h 2<|cR (dF c5) [26] [cJ (O.jL>4096)]<|nv (dF c5) (cJ (O.jL>4096))<|ko [cJ (O.jL>4096)]<|cB<|?_;cases H;exact gC (h.se 1 [])
def mc(K:Nat)(Y:Int):Nat->Int->Int->Option (Int)
 | 0,_,_=>none
 | k1+1,g1,g2=>(if g2<Y then(mc K Y k1 (wi ((wi (g1+1))+(if Y<(wi ((2:Int)*g2))then Y else(wi ((2:Int)*g2))))) (if Y<(wi ((2:Int)*g2))then Y else(wi ((2:Int)*g2))))else some g1)
def tD(K:Nat)(O:Int)(Y:Int):Option (Int):=
 (mc K Y K (wi ((4:Int)+O)) O)
def xy(K:Nat)(O:Int)(Y:eM):Option (Int):=
 xp ((if O<1 then some (.inr 0)else(if O>64 then some (.inr 0)else eY (kq Y) (λr6=>(if r6=true then some (.inr 0)else some (.inl ())))))) (eY (tD K Y.dS Y.jL) (λr9=>some (wi ((wi ((wi ((wi ((2:Int)+(wi (Y.cA*10))))+2))+O))+(wi (O*r9))))))
def zj(O:Int):Option (Bool):=
 (if O>=0 then some (decide (O<=1048576))else some false)
theorem Cp(H:zj O=some r0)(h:jh z (L) w) :
 nV 32 #[Z O] w z (R r0) (L):=by
 unfold zj at H;refine ke func32 9 rfl λj=>gS<|aN [U,cJ (O>=0),cJ (O>=0)]<|qI H (λc1 H=>?_) λc1 H=>?_
 ·refine cR (dT c1) [6,7] [Z O,cJ (O<=1048576)]<|ny (dT c1) (cJ (O<=1048576))<|ko [cJ (O<=1048576)]<|cB<|?_;cases H;exact gC h
 refine bU (dF c1) [6,7]<|nv (dF c1) (R false)<|bT<|cB<|?_;cases H;exact gC h
def wz(O:Int):Option ((Option af)×Int):=
 eY (zj O) (λr1=>(if r1=true then some (some (⟨O,0,([]:List Int),([]:List aR),0,false⟩:af),0)else some (none,3)))
abbrev lR:List Value:=[U,U,U]
abbrev gE (B:Nat) (S:af) (a:fR) (c:Nat) (d:fR) (e:Nat) (L:List bj):List bj:=ac2 B S a c d e::XF a c S.cell::Sd d e S.log::L
theorem HB{O r1:Int}{r0:af}(H:wz O=some ((some r0),r1))(h:jh z (L) w) :
 Calls Tryz.prog 12 #[Z O] w λe w=>∃Wu y1 y2 y3 y4,e=.returned (.tuple #[u Wu 0,Z r1])/\Fit z (aC (gE Wu r0 y1 y2 y3 y4 L)) w:=by
 unfold wz at H;refine ke func12 11 rfl λj=>aN dx<|I<|wq<|ks<|gB H λr1 e2 H=>bT<|fG (Cp e2 h :) λw h=>ko [R (!r1)]<|I<|D5 H (λc3 H=>?_) λc3 H=>?_
 ·refine gD<|aN lR<|kN h (#[Z O,Z 0,aY none 0 0,aY none 0 0,Z 0,R false]) 78 λb4 w h=>ko dx<|cB<|λ_ r=>Dd (u b4 0) (Z 0) rfl r<|?_;replace h:=h.fX (e:=2) (sz:=1) (enc:=ck);replace h:=h.fX (e:=269) (sz:=6) (enc:=gY);cases H;exact⟨b4,none,0,none,0,rfl,h.se 3 [2,1,0]⟩
 refine aN dx<|cB<|tr<|λ_ r=>Dd pN (Z 3) rfl r<|?_;cases H
theorem HC{O r1:Int}(H:wz O=some (none,r1))(h:jh z (L) w) :
 nV 12 #[Z O] w z (.tuple #[pN,Z r1]) (L):=by
 unfold wz at H;refine ke func12 11 rfl λj=>aN dx<|I<|wq<|ks<|gB H λr1 e2 H=>bT<|fG (Cp e2 h :) λw h=>ko [R (!r1)]<|I<|D5 H (λc3 H=>?_) λc3 H=>?_
 ·refine gD<|aN lR<|kN h (#[Z O,Z 0,aY none 0 0,aY none 0 0,Z 0,R false]) 78 λb4 w h=>ko dx<|cB<|λ_ r=>Dd (u b4 0) (Z 0) rfl r<|?_;replace h:=h.fX (e:=2) (sz:=1) (enc:=ck);replace h:=h.fX (e:=269) (sz:=6) (enc:=gY);cases H
 refine aN dx<|cB<|tr<|?_;cases H;exact MZ h
def jX(O:aD):Option (Bool):=
 xp ((if O.aV<0 then some (.inr false)else(if O.aV>8 then some (.inr false)else(if O.dg<1 then some (.inr false)else(if O.dg<O.aV then some (.inr false)else(if O.dg>16 then some (.inr false)else some (.inl ()))))))) ((if O.bM>=0 then(if O.bM<=8 then(if((O.aq.length:Nat):Int)>=1 then some (decide (((O.aq.length:Nat):Int)<=512))else some false)else some false)else some false))
theorem uy(H:jX O=some r0)(h:jh z (L) w)(cK:bL L 5 cT bt O.aq) :
 nV 49 #[oP #[Z O.aV,Z O.dg,Z O.bM,aY bt O.aq.length bW]] w z (R r0) (L):=by
 unfold jX at H;refine ke func49 48 rfl λj=>ks<|kN h (#[Z O.aV,Z O.dg,Z O.bM,aY bt O.aq.length bW]) 85 λb1 w h=>bT<|I<|?_;obtain⟨o3,H,EU⟩:=CZ H;refine λ_ r=>cY (β:=Unit) (λ_ a w=>.inl ()=o3/\∃j,kH 48 (lk [(1,u b1 0)] j) a/\Fit z (aC (qD b1 O bt bW::L)) w) ?_ ?_
 ·refine qq r<|aN [U]<|kL h 0<|ko [cJ (O.aV<0),cJ (O.aV<0)]<|qI H (λc4 H=>?_) λc4 H=>?_
  ·refine bU (dT c4) [7,8,9]<|ny (dT c4) (R true)<|bT<|bU (rfl:true=true) [12,13,14]<|ko dx<|bU (rfl:true=true) [17,18,19,20,21]<|ko dx<|bU (rfl:true=true) [24,25,26]<|bT<|I<|λ_ r=>dX r (b:=true) rfl<|qq r<|gS<|wr<|tr<|λ_ r=>oa (R false) rfl r<|?_;replace H:=tg H EU;cases H;exact⟨rfl,h.se 1 []⟩
  refine cR (dF c4) [7] [u b1 0]<|sv (dF c4) h 0<|cR (dF c4) [9] [cJ (O.aV>8)]<|nv (dF c4) (cJ (O.aV>8))<|ko [cJ (O.aV>8)]<|qI H (λc5 H=>?_) λc5 H=>?_
  ·refine bU (dT c5) [12,13,14]<|ny (dT c5) (R true)<|bT<|bU (rfl:true=true) [17,18,19,20,21]<|ko dx<|bU (rfl:true=true) [24,25,26]<|bT<|I<|λ_ r=>dX r (b:=true) rfl<|qq r<|gS<|wr<|tr<|λ_ r=>oa (R false) rfl r<|?_;replace H:=tg H EU;cases H;exact⟨rfl,h.se 1 []⟩
  refine cR (dF c5) [12] [u b1 1]<|sv (dF c5) h 1<|cR (dF c5) [14] [cJ (O.dg<1)]<|nv (dF c5) (cJ (O.dg<1))<|ko [cJ (O.dg<1)]<|qI H (λc6 H=>?_) λc6 H=>?_
  ·refine bU (dT c6) [17,18,19,20,21]<|ny (dT c6) (R true)<|bT<|bU (rfl:true=true) [24,25,26]<|bT<|I<|λ_ r=>dX r (b:=true) rfl<|qq r<|gS<|wr<|tr<|λ_ r=>oa (R false) rfl r<|?_;replace H:=tg H EU;cases H;exact⟨rfl,h.se 1 []⟩
  refine cR (dF c6) [17] [u b1 1]<|sv (dF c6) h 1<|cR (dF c6) [19] [u b1 0]<|sv (dF c6) h 0<|cR (dF c6) [21] [cJ (O.dg<O.aV)]<|nv (dF c6) (cJ (O.dg<O.aV))<|ko [cJ (O.dg<O.aV)]<|qI H (λc7 H=>?_) λc7 H=>?_
  ·refine bU (dT c7) [24,25,26]<|ny (dT c7) (R true)<|I<|λ_ r=>dX r (b:=true) rfl<|qq r<|gS<|wr<|tr<|λ_ r=>oa (R false) rfl r<|?_;replace H:=tg H EU;cases H;exact⟨rfl,h.se 1 []⟩
  refine cR (dF c7) [24] [u b1 1]<|sv (dF c7) h 1<|cR (dF c7) [26] [cJ (O.dg>16)]<|nv (dF c7) (cJ (O.dg>16))<|I<|ez H (λc8 H=>?_) λc8 H=>?_
  ·refine gS<|wr<|tr<|λ_ r=>oa (R false) rfl r<|?_;replace H:=tg H EU;cases H;exact⟨rfl,h.se 1 []⟩
  refine gD<|?_;exact λ_ r=>⟨(),gA H,r.fj h⟩
 clear h r;rintro _ a w ⟨rfl,j,r,h⟩;replace H:=C0 EU;refine qq r<|aN [U]<|kL h 2<|ko [cJ (O.bM>=0),cJ (O.bM>=0)]<|qI H (λc9 H=>?_) λc9 H=>?_
 ·refine cR (dT c9) [32] [u b1 2]<|sv (dT c9) h 2<|cR (dT c9) [34] [cJ (O.bM<=8)]<|ny (dT c9) (cJ (O.bM<=8))<|ko [cJ (O.bM<=8)]<|qI H (λoh H=>?_) λoh H=>?_
  ·refine cR (dT oh) [37] [u b1 3]<|sv (dT oh) h 3<|cR (dT oh) [39,40] [Z ((O.aq.length:Nat):Int),cJ (((O.aq.length:Nat):Int)>=1)]<|ny (dT oh) (cJ (((O.aq.length:Nat):Int)>=1))<|ko [cJ (((O.aq.length:Nat):Int)>=1)]<|qI H (λuR H=>?_) λuR H=>?_
   ·refine cR (dT uR) [43] [u b1 3]<|sv (dT uR) h 3<|cR (dT uR) [45,46] [Z ((O.aq.length:Nat):Int),cJ (((O.aq.length:Nat):Int)<=512)]<|ny (dT uR) (cJ (((O.aq.length:Nat):Int)<=512))<|ko [cJ (((O.aq.length:Nat):Int)<=512)]<|cB<|?_;cases H;exact gC (h.se 1 [])
   refine bU (dF uR) [43,44,45,46]<|nv (dF uR) (R false)<|bT<|cB<|?_;cases H;exact gC (h.se 1 [])
  refine bU (dF oh) [37,38,39,40]<|nv (dF oh) (R false)<|bT<|bU (rfl:false=false) [43,44,45,46]<|ko dx<|cB<|?_;cases H;exact gC (h.se 1 [])
 refine bU (dF c9) [32,33,34]<|nv (dF c9) (R false)<|bT<|bU (rfl:false=false) [37,38,39,40]<|ko dx<|bU (rfl:false=false) [43,44,45,46]<|ko dx<|cB<|?_;cases H;exact gC (h.se 1 [])
def gH(O:Int)(Y:Int):Option (Bool):=
 (if O>=0 then some (decide (O<Y))else some false)
theorem iz(H:gH O Y=some r0)(h:jh z (L) w) :
 nV 84 #[Z O,Z Y] w z (R r0) (L):=by
 unfold gH at H;refine ke func84 12 rfl λj=>gS<|aN [U,cJ (O>=0),cJ (O>=0)]<|qI H (λc1 H=>?_) λc1 H=>?_
 ·refine cR (dT c1) [8,9,10] [Z O,Z Y,cJ (O<Y)]<|ny (dT c1) (cJ (O<Y))<|ko [cJ (O<Y)]<|cB<|?_;cases H;exact gC h
 refine bU (dF c1) [8,9,10]<|nv (dF c1) (R false)<|bT<|cB<|?_;cases H;exact gC h
def nA(O:aD)(Y:cx):Option (Bool):=
 eY (gH Y.A O.dg) (λr3=>eY (gH Y.B O.dg) (λr5=>eY ((if Y.aL=0 then some (Y.aL==0)else(if Y.aL=8 then some (Y.aL==8)else some (Y.aL==9)))) (λg7=>(if g7=true then some r3 else(if Y.aL=1 then(if r3=true then some r5 else some false)else(if Y.aL=2 then(if r3=true then(if r5=true then eY (gH Y.C O.dg) (λme=>(if me=true then(if Y.K>=0 then some (decide (Y.K<16))else some false)else some false))else some false)else some false)else(if Y.aL=3 then eY (gH Y.A ((O.aq.length:Nat):Int)) (λqZ=>some qZ)else(if Y.aL=4 then(if r3=true then eY (gH Y.B ((O.aq.length:Nat):Int)) (λME=>some ME)else some false)else(if Y.aL=5 then eY (gH Y.A O.bM) (λAW=>some AW)else(if Y.aL=6 then some true else(if Y.aL=7 then(if r3=true then eY (gH Y.B O.bM) (λCT=>some CT)else some false)else some false)))))))))))
theorem si(H:nA O Y=some r0)(h:jh z (L) w)(cK:bL L 5 cT bt O.aq) :
 nV 50 #[oP #[Z O.aV,Z O.dg,Z O.bM,aY bt O.aq.length bW],iO Y] w z (R r0) (L):=by
 unfold nA at H;refine ke func50 91 rfl λj=>ks<|kN h (#[Z O.aV,Z O.dg,Z O.bM,aY bt O.aq.length bW]) 85 λb1 w h=>kN h (nk Y) 132 λb2 w h=>bT<|I<|aN [U]<|kL h 1<|bT<|kL (h.pick 1) 1<|gB H λr3 e4 H=>fG (iz e4 h :) λw h=>bT<|I<|aN [U]<|kL h 2<|bT<|kL (h.pick 1) 1<|gB H λr5 e6 H=>fG (iz e6 h :) λw h=>bT<|I<|wq<|aN [U]<|kL h 0<|I<|wb<|DV H λo9 H K9=>λ_ r=>cY (β:=Unit) (λ_ a w=>∃g7:Bool,g7=o9/\∃j,kH 91 (lk [(2,u b1 0),(3,u b2 0),(5,R r3),(6,R r5),(18,Z Y.aL),(19,R g7)] j) a/\Fit z (aC (qD b1 O bt bW::wN b2 Y::L)) w) ?_ ?_
 ·refine qq r<|aN [R (Y.aL==0),R (Y.aL==0)]<|I<|ez H (λoh H=>?_) λoh H=>?_
  ·refine gD<|?_;exact λ_ r=>⟨(),(Y.aL==0),gA H,r.fj (h.se 2 [1,0])⟩
  refine aN [R (Y.aL==8),R (Y.aL==8)]<|I<|ez H (λuR H=>?_) λuR H=>?_
  ·refine gD<|?_;exact λ_ r=>⟨(),(Y.aL==8),gA H,r.fj (h.se 2 [1,0])⟩
  refine wl<|ko [R (Y.aL==9),R (Y.aL==9)]<|I<|?_;exact λ_ r=>⟨(),(Y.aL==9),gA H,r.fj (h.se 2 [1,0])⟩
 clear h r;rintro _ a w ⟨g7,rfl,j,r,h⟩;replace H:=DS K9;refine qq r<|FJ H (λCD H=>?_) λCD H=>?_
 ·refine aN dx<|cB<|br<|tr<|?_;cases H;exact gC (h.se 2 [])
 refine aN [R (Y.aL==1),R (Y.aL==1)]<|I<|ez H (λyI H=>?_) λyI H=>?_
 ·refine aN dx<|qI H (λxP H=>?_) λxP H=>?_
  ·refine cR (xP) [28] [R r5]<|ny (xP) (R r5)<|bT<|cB<|br<|tr<|?_;cases H;exact gC (h.se 2 [])
  refine bU (bF xP) [28]<|nv (bF xP) (R false)<|bT<|cB<|br<|tr<|?_;cases H;exact gC (h.se 2 [])
 refine aN [R (Y.aL==2),R (Y.aL==2)]<|I<|ez H (λpL H=>?_) λpL H=>?_
 ·refine aN dx<|qI H (λxg H=>?_) λxg H=>?_
  ·refine cR (xg) [34] [R r5]<|ny (xg) (R r5)<|bT<|qI H (λBG H=>?_) λBG H=>?_
   ·refine cR (BG) [37] [u b2 3]<|λ_ r=>ld (aX r (BG)) r (Z Y.C) ((h.pick 1).cell 3 rfl)<|?_;refine cR (BG) [39] [u b1 1]<|λ_ r=>ld (aX r (BG)) r (Z O.dg) (h.cell 1 rfl)<|?_;refine gB H λme IV H=>?_;have hc:=iz (H:=IV) (h:=h);intro _ r;refine cl (aX r (BG)) r hc ?_;clear hc h;rintro _ w ⟨rfl,h⟩;refine⟨_,rfl,?_⟩;refine ny (BG) (R me)<|bT<|qI H (λmG H=>?_) λmG H=>?_
    ·refine cR (mG) [44] [u b2 4]<|λ_ r=>ld (aX r (mG)) r (Z Y.K) ((h.pick 1).cell 4 rfl)<|?_;refine cR (mG) [46] [cJ (Y.K>=0)]<|ny (mG) (cJ (Y.K>=0))<|ko [cJ (Y.K>=0)]<|qI H (λsj H=>?_) λsj H=>?_
     ·refine cR (dT sj) [49] [u b2 4]<|sv (dT sj) (h.pick 1) 4<|cR (dT sj) [51] [cJ (Y.K<16)]<|ny (dT sj) (cJ (Y.K<16))<|ko [cJ (Y.K<16)]<|cB<|br<|tr<|?_;cases H;exact gC (h.se 2 [])
     refine bU (dF sj) [49,50,51]<|nv (dF sj) (R false)<|bT<|cB<|br<|tr<|?_;cases H;exact gC (h.se 2 [])
    refine bU (bF mG) [44,45,46]<|nv (bF mG) (R false)<|bT<|bU (rfl:false=false) [49,50,51]<|ko dx<|cB<|br<|tr<|?_;cases H;exact gC (h.se 2 [])
   refine bU (bF BG) [37,38,39,40,41]<|nv (bF BG) (R false)<|bT<|bU (rfl:false=false) [44,45,46]<|ko dx<|bU (rfl:false=false) [49,50,51]<|ko dx<|cB<|br<|tr<|?_;cases H;exact gC (h.se 2 [])
  refine bU (bF xg) [34]<|nv (bF xg) (R false)<|bT<|bU (rfl:false=false) [37,38,39,40,41]<|ko dx<|bU (rfl:false=false) [44,45,46]<|ko dx<|bU (rfl:false=false) [49,50,51]<|ko dx<|cB<|br<|tr<|?_;cases H;exact gC (h.se 2 [])
 refine aN [R (Y.aL==3),R (Y.aL==3)]<|I<|ez H (λDg H=>?_) λDg H=>?_
 ·refine aN [U]<|kL (h.pick 1) 1<|bT<|kL h 3<|gB H λqZ UQ H=>ko [Z ((O.aq.length:Nat):Int)]<|fG (iz UQ h :) λw h=>bT<|cB<|br<|tr<|?_;cases H;exact gC (h.se 2 [])
 refine aN [R (Y.aL==4),R (Y.aL==4)]<|I<|ez H (λyJ H=>?_) λyJ H=>?_
 ·refine aN dx<|qI H (λBH H=>?_) λBH H=>?_
  ·refine cR (BH) [65] [u b2 2]<|λ_ r=>ld (aX r (BH)) r (Z Y.B) ((h.pick 1).cell 2 rfl)<|?_;refine cR (BH) [67] [u b1 3]<|λ_ r=>ld (aX r (BH)) r (aY bt O.aq.length bW) (h.cell 3 rfl)<|?_;refine gB H λME PX H=>cR (BH) [69] [Z ((O.aq.length:Nat):Int)]<|?_;have hc:=iz (H:=PX) (h:=h);intro _ r;refine cl (aX r (BH)) r hc ?_;clear hc h;rintro _ w ⟨rfl,h⟩;refine⟨_,rfl,?_⟩;refine ny (BH) (R ME)<|bT<|cB<|br<|tr<|?_;cases H;exact gC (h.se 2 [])
  refine bU (bF BH) [65,66,67,68,69,70]<|nv (bF BH) (R false)<|bT<|cB<|br<|tr<|?_;cases H;exact gC (h.se 2 [])
 refine aN [R (Y.aL==5),R (Y.aL==5)]<|I<|ez H (λyZ H=>?_) λyZ H=>?_
 ·refine aN [U]<|kL (h.pick 1) 1<|bT<|kL h 2<|gB H λAW T6 H=>fG (iz T6 h :) λw h=>bT<|cB<|br<|tr<|?_;cases H;exact gC (h.se 2 [])
 refine aN [R (Y.aL==6),R (Y.aL==6)]<|I<|ez H (λEV H=>?_) λEV H=>?_
 ·refine gS<|wr<|br<|tr<|?_;cases H;exact gC (h.se 2 [])
 refine aN [R (Y.aL==7),R (Y.aL==7)]<|I<|ez H (λAz H=>?_) λAz H=>?_
 ·refine aN dx<|qI H (λDh H=>?_) λDh H=>?_
  ·refine cR (Dh) [85] [u b2 2]<|λ_ r=>ld (aX r (Dh)) r (Z Y.B) ((h.pick 1).cell 2 rfl)<|?_;refine cR (Dh) [87] [u b1 2]<|λ_ r=>ld (aX r (Dh)) r (Z O.bM) (h.cell 2 rfl)<|?_;refine gB H λCT Sf H=>?_;have hc:=iz (H:=Sf) (h:=h);intro _ r;refine cl (aX r (Dh)) r hc ?_;clear hc h;rintro _ w ⟨rfl,h⟩;refine⟨_,rfl,?_⟩;refine ny (Dh) (R CT)<|bT<|cB<|br<|tr<|?_;cases H;exact gC (h.se 2 [])
  refine bU (bF Dh) [85,86,87,88,89]<|nv (bF Dh) (R false)<|bT<|cB<|br<|tr<|?_;cases H;exact gC (h.se 2 [])
 refine wk<|bn<|tn<|gS<|wr<|?_;cases H;exact gC (h.se 2 [])
def oq(O:aM)(Y:aD)(p2:cx):Option (Bool):=
 (if p2.aL=5 then eY (gH p2.B ((O.ak.length:Nat):Int)) (λr5=>(if r5=true then if bI p2.B O.ak.length then(if(J O.ak p2.B.toNat).aV=0 then some true else eY (gH p2.C Y.dg) (λAX=>(if AX=true then some (decide ((J O.ak p2.B.toNat).aV<=(wi (Y.dg-p2.C))))else some false)))else none else some false))else some true)
theorem Ah(H:oq O Y p2=some r0)(h:jh z (L) w)(be:BN L bB aI O.ak)(eP:bL L 5 cT dh Y.aq) :
 nV 51 #[oP #[aY bB O.ak.length cr],oP #[Z Y.aV,Z Y.dg,Z Y.bM,aY dh Y.aq.length dr],iO p2] w z (R r0) (L):=by
 unfold oq at H;refine ke func51 43 rfl λj=>ks<|kN h (#[aY bB O.ak.length cr]) 24 λb1 w h=>kN h (#[Z Y.aV,Z Y.dg,Z Y.bM,aY dh Y.aq.length dr]) 85 λb2 w h=>kN h (nk p2) 132 λb3 w h=>bT<|I<|wq<|aN [U]<|kL h 0<|ko [R (p2.aL != 5)]<|I<|qB H (λc4 H=>?_) λc4 H=>?_
 ·refine gD<|wq<|aN [U]<|kL h 2<|bT<|kL (h.pick 2) 0<|gB H λr5 e6 H=>ko [Z ((O.ak.length:Nat):Int)]<|fG (iz e6 h :) λw h=>ko [R (!r5)]<|I<|D5 H (λc7 H=>?_) λc7 H=>?_
  ·refine gD<|aN [U]<|kL (h.pick 2) 0<|bT<|kL h 2<|qg H λc8 H=>kp (u (dA bB) (kg bB+p2.B.toNat*4)) (D8 85 cr rfl rfl be c8)<|bT<|yY (Z (J O.ak p2.B.toNat).aV) (be.cell c8 (h.dn 3) 0 rfl)<|?_;refine bT<|I<|aN [U,R ((J O.ak p2.B.toNat).aV==0),R ((J O.ak p2.B.toNat).aV==0)]<|qI H (λc9 H=>?_) λc9 H=>?_
   ·refine bU (beq_iff_eq.mpr c9) [28,29,30,31,32,33]<|Ox true [34,35,36,37,38,39,40]<|bU (beq_iff_eq.mpr c9) [41]<|ny (beq_iff_eq.mpr c9) (R true)<|bT<|cB<|?_;cases H;exact gC (h.se 3 [])
   refine cR (bN c9) [28] [u b3 3]<|sv (bN c9) h 3<|cR (bN c9) [30] [u b2 1]<|sv (bN c9) (h.pick 1) 1<|gB H λAX UR H=>Zt (bN c9) (iz UR h :) λw h=>cR (bN c9) [33] [R AX]<|qI H (λCD H=>?_) λCD H=>?_
   ·refine cR (CD) [34,35] [Z (J O.ak p2.B.toNat).aV,u b2 1]<|λ_ r=>ld (aX r (CD)) r (Z Y.dg) ((h.pick 1).cell 1 rfl)<|?_;refine cR (CD) [37] [u b3 3]<|λ_ r=>ld (aX r (CD)) r (Z p2.C) (h.cell 3 rfl)<|?_;refine cR (CD) [39,40] [Z (wi (Y.dg-p2.C)),cJ ((J O.ak p2.B.toNat).aV<=(wi (Y.dg-p2.C)))]<|λ_ r=>Rz (aX r (bN c9)) r (cJ ((J O.ak p2.B.toNat).aV<=(wi (Y.dg-p2.C)))) (qX (b:=AX) rfl aK (CD) aK)<|?_;refine nv (bN c9) (cJ ((J O.ak p2.B.toNat).aV<=(wi (Y.dg-p2.C))))<|ko [cJ ((J O.ak p2.B.toNat).aV<=(wi (Y.dg-p2.C)))]<|cB<|?_;cases H;exact gC (h.se 3 [])
   refine bU (bF CD) [34,35,36,37,38,39,40]<|λ_ r=>Rz (aX r (bN c9)) r (R false) (nI (b:=AX) rfl aK (bF CD) aK)<|?_;refine nv (bN c9) (R false)<|bT<|cB<|?_;cases H;exact gC (h.se 3 [])
  refine gS<|wr<|tr<|?_;cases H;exact gC (h.se 3 [])
 refine gS<|wr<|tr<|?_;cases H;exact gC (h.se 3 [])
def mO(O:aD):Option (Bool):=
 if bI (wi (((O.aq.length:Nat):Int)-1)) O.aq.length then(if(J O.aq (wi (((O.aq.length:Nat):Int)-1)).toNat).aL=3 then some true else some ((J O.aq (wi (((O.aq.length:Nat):Int)-1)).toNat).aL==9))else none
theorem vP(H:mO O=some r0)(h:jh z (L) w)(cK:bL L 5 cT bt O.aq) :
 nV 52 #[oP #[Z O.aV,Z O.dg,Z O.bM,aY bt O.aq.length bW]] w z (R r0) (L):=by
 unfold mO at H;refine ke func52 19 rfl λj=>ks<|kN h (#[Z O.aV,Z O.dg,Z O.bM,aY bt O.aq.length bW]) 85 λb1 w h=>bT<|I<|aN [U]<|kL h 3<|bT<|kL h 3<|qg H λc2 H=>ko [Z ((O.aq.length:Nat):Int),Z (wi (((O.aq.length:Nat):Int)-1))]<|kj 132 bW cK c2<|ko [u (dA bt) (kg bt+(wi (((O.aq.length:Nat):Int)-1)).toNat*5)]<|yY (Z (J O.aq (wi (((O.aq.length:Nat):Int)-1)).toNat).aL) (cK.cell c2 (h.dn 1) 0 rfl)<|?_;refine ko [Z (J O.aq (wi (((O.aq.length:Nat):Int)-1)).toNat).aL]<|I<|aN [Z (J O.aq (wi (((O.aq.length:Nat):Int)-1)).toNat).aL,R ((J O.aq (wi (((O.aq.length:Nat):Int)-1)).toNat).aL==3),R ((J O.aq (wi (((O.aq.length:Nat):Int)-1)).toNat).aL==3)]<|qI H (λc3 H=>?_) λc3 H=>?_
 ·refine bU (beq_iff_eq.mpr c3) [16,17]<|ny (beq_iff_eq.mpr c3) (R true)<|bT<|cB<|?_;cases H;exact gC (h.se 1 [])
 refine cR (bN c3) [16,17] [Z (J O.aq (wi (((O.aq.length:Nat):Int)-1)).toNat).aL,R ((J O.aq (wi (((O.aq.length:Nat):Int)-1)).toNat).aL==9)]<|nv (bN c3) (R ((J O.aq (wi (((O.aq.length:Nat):Int)-1)).toNat).aL==9))<|ko [R ((J O.aq (wi (((O.aq.length:Nat):Int)-1)).toNat).aL==9)]<|cB<|?_;cases H;exact gC (h.se 1 [])
def iZ(K:Nat)(O:aD):Nat->Int->Option (Bool)
 | 0,_=>none
 | k1+1,g5=>(if g5<((O.aq.length:Nat):Int)then if bI g5 O.aq.length then eY (nA O (J O.aq g5.toNat)) (λr8=>(if r8=true then(iZ K O k1 (wi (g5+1)))else some false))else none else eY (mO O) (λvC=>some vC))
def rU(K:Nat)(O:aD):Option (Bool):=
 eY (jX O) (λr2=>(if r2=true then(iZ K O K 0)else some false))
theorem AY(H:rU K O=some r0)(h:jh z (L) w)(cK:bL L 5 cT bt O.aq) :
 nV 85 #[oP #[Z O.aV,Z O.dg,Z O.bM,aY bt O.aq.length bW]] w z (R r0) (L):=by
 unfold rU at H;refine ke func85 26 rfl λj=>ks<|kN h (#[Z O.aV,Z O.dg,Z O.bM,aY bt O.aq.length bW]) 85 λb1 w h=>bT<|I<|wq<|ks<|kM h<|gB H λr2 e3 H=>fG (uy (bt:=bt) (bW:=bW) (cK:=(bL.up 1 cK)) e3 h :) λw h=>ko [R (!r2)]<|I<|D5 H (λc4 H=>?_) λc4 H=>?_
 ·refine gD<|wq<|gS<|wb<|λ_ r=>dQ (β:=Nat) id (λm a w=>∃g5:Int,(iZ K O m g5)=some r0/\∃j,kH 26 (lk [(1,u b1 0),(3,Z g5)] j) a/\Fit z (aC (qD b1 O bt bW::L)) w) K ⟨0,H,r.fj h⟩<|?_;clear h r H;rintro k1 a w ⟨g5,H,j,r,h⟩;cases k1 with
  | zero=>exact absurd H (by simp[iZ])
  | succ k1 =>
   rw[iZ]at H;refine qq r<|wq<|aN dx<|kL h 3<|ko [Z ((O.aq.length:Nat):Int),cJ (g5<((O.aq.length:Nat):Int))]<|I<|ez H (λc6 H=>?_) λc6 H=>?_
   ·refine gD<|wq<|wb<|wq<|qg H λc7 H=>gB H λr8 e9 H=>lC [(b1,0,[Z O.aV,Z O.dg,Z O.bM,aY bt O.aq.length bW]),(b1,3,[aY bt O.aq.length bW]),(dA bt,kg bt+g5.toNat*5,gO (J O.aq g5.toNat))] [1,4] 8 h (λh=>⟨(h.held 0 rfl),⟨h.cell 3 rfl,bx⟩,⟨cK.cell c7 (h.dn 1) 0 rfl,cK.cell c7 (h.dn 1) 1 rfl,cK.cell c7 (h.dn 1) 2 rfl,cK.cell c7 (h.dn 1) 3 rfl,cK.cell c7 (h.dn 1) 4 rfl,bx⟩,bx⟩) λw h hd =>iy hd 6 [(1,16,u b1 3),(3,18,Z g5)]<|wL hd 0 5 0 rfl rfl<|fg hd 1 4 2 rfl<|jl hd 3 4 rfl (u (dA bt) (kg bt+g5.toNat*5)) (λw=>Fa 132 bW rfl rfl cK c7)<|wL hd 2 2 5 rfl rfl<|lQ 6 rfl<|fG (si (bt:=bt) (bW:=bW) (cK:=(bL.up 1 cK)) e9 h :) λw h=>I<|mJ<|iS 0 7 rfl (R r8)<|kI<|tn<|aN [U,R (!r8)]<|I<|D5 H (λoh H=>?_) λoh H=>?_
    ·refine wk<|bn<|tn<|wl<|ko [U,Z (wi (g5+1)),Z (wi (g5+1))]<|I<|?_;exact λ_ r=>⟨_,⟨(wi (g5+1)),H,r.fj h⟩,gQ _⟩
    refine gS<|wr<|br<|tr<|tr<|br<|tr<|?_;cases H;exact gC (h.se 1 [])
   refine wx<|te<|te<|bh<|tn<|ks<|kM h<|gB H λvC D9 H=>fG (vP (bt:=bt) (bW:=bW) (cK:=(bL.up 1 cK)) D9 h :) λw h=>bT<|cB<|?_;cases H;exact gC (h.se 1 [])
 refine gS<|wr<|tr<|?_;cases H;exact gC (h.se 1 [])
def oX(O:cx)(Y:Int)(p2:Int):Option (Int):=
 (if O.aL=5 then(if O.A=Y then some 2 else(if O.aL=6 then(if p2=2 then some 4 else some p2)else some p2))else(if O.aL=6 then(if p2=2 then some 4 else some p2)else some p2))
theorem AZ(H:oX O Y p2=some r0)(h:jh z (L) w) :
 nV 120 #[iO O,Z Y,Z p2] w z (Z r0) (L):=by
 unfold oX at H;refine ke func120 24 rfl λj=>ks<|kN h (nk O) 132 λb1 w h=>bT<|I<|wq<|aN [U]<|kL h 0<|ko [R (O.aL==5),R (O.aL==5)]<|qI H (λc2 H=>?_) λc2 H=>?_
 ·refine cR (beq_iff_eq.mpr c2) [11] [u b1 1]<|λ_ r=>ld (aX r (beq_iff_eq.mpr c2)) r (Z O.A) (h.cell 1 rfl)<|?_;refine cR (beq_iff_eq.mpr c2) [13,14] [Z Y,R (O.A==Y)]<|ny (beq_iff_eq.mpr c2) (R (O.A==Y))<|I<|ez H (λc3 H=>?_) λc3 H=>?_
  ·refine gS<|wr<|tr<|?_;cases H;exact gC (h.se 1 [])
  refine gD<|wq<|aN [U]<|kL h 0<|ko [R (O.aL==6),R (O.aL==6)]<|qI H (λc4 H=>?_) λc4 H=>?_
  ·refine cR (beq_iff_eq.mpr c4) [20,21] [Z p2,R (p2==2)]<|ny (beq_iff_eq.mpr c4) (R (p2==2))<|I<|ez H (λc5 H=>?_) λc5 H=>?_
   ·refine gS<|wr<|tr<|?_;cases H;exact gC (h.se 1 [])
   refine gD<|aN dx<|cB<|?_;cases H;exact gC (h.se 1 [])
  refine bU (bN c4) [20,21]<|nv (bN c4) (R false)<|I<|λ_ r=>iT r (b:=false) rfl<|qq r<|gD<|aN dx<|cB<|?_;cases H;exact gC (h.se 1 [])
 refine bU (bN c2) [11,12,13,14]<|nv (bN c2) (R false)<|I<|λ_ r=>iT r (b:=false) rfl<|qq r<|gD<|wq<|aN [U]<|kL h 0<|ko [R (O.aL==6),R (O.aL==6)]<|qI H (λc6 H=>?_) λc6 H=>?_
 ·refine cR (beq_iff_eq.mpr c6) [20,21] [Z p2,R (p2==2)]<|ny (beq_iff_eq.mpr c6) (R (p2==2))<|I<|ez H (λc7 H=>?_) λc7 H=>?_
  ·refine gS<|wr<|tr<|?_;cases H;exact gC (h.se 1 [])
  refine gD<|aN dx<|cB<|?_;cases H;exact gC (h.se 1 [])
 refine bU (bN c6) [20,21]<|nv (bN c6) (R false)<|I<|λ_ r=>iT r (b:=false) rfl<|qq r<|gD<|aN dx<|cB<|?_;cases H;exact gC (h.se 1 [])
def oY(O:aD)(Y:Int):Option ((List Int)):=
 if bI Y O.aq.length then(if(J O.aq Y.toNat).aL=3 then some ([(J O.aq Y.toNat).A])else(if(J O.aq Y.toNat).aL=9 then some ([]:List Int)else(if(J O.aq Y.toNat).aL=4 then some ([wi (Y+1),(J O.aq Y.toNat).B])else some ([wi (Y+1)]))))else none
abbrev La:Array Value:=#[Z 0,Z 0,Z 0,Z 0,Z 0]
theorem Ba(H:oY O Y=some r0)(h:jh z (L) w)(cK:bL L 5 cT bt O.aq) :
 Calls Tryz.prog 121 #[oP #[Z O.aV,Z O.dg,Z O.bM,aY bt O.aq.length bW],Z Y] w λe w=>∃y1 y2,e=.returned (aY y1 r0.length y2)/\Fit z (aC (xq y1 y2 r0::L)) w:=by
 unfold oY at H;refine ke func121 30 rfl λj=>ks<|kN h (#[Z O.aV,Z O.dg,Z O.bM,aY bt O.aq.length bW]) 85 λb1 w h=>bT<|I<|aN [U]<|kL h 3<|qg H λc2 H=>bT<|kj 132 bW cK c2<|xx (iO (J O.aq Y.toNat)) (cs:=gO (J O.aq Y.toNat)) ⟨cK.cell c2 (h.dn 1) 0 rfl,cK.cell c2 (h.dn 1) 1 rfl,cK.cell c2 (h.dn 1) 2 rfl,cK.cell c2 (h.dn 1) 3 rfl,cK.cell c2 (h.dn 1) 4 rfl,bx⟩<|?_;refine kN h (La) 132 λb3 w h=>kA h (wN b3 (J O.aq Y.toNat)) λw h=>I<|wq<|aN [U]<|kL h 0<|I<|wb<|aN [R ((J O.aq Y.toNat).aL==3),R ((J O.aq Y.toNat).aL==3)]<|I<|ez H (λc4 H=>?_) λc4 H=>?_
 ·refine aN [U]<|kL h 1<|kV h (#[Z (J O.aq Y.toNat).A]) 3 λb5 w h=>?_;replace h:=Fit.BC (n:=1) (l:=[(J O.aq Y.toNat).A]) (by rfl) (by rfl) aE eL h;refine bT<|cB<|br<|tr<|λ_ r=>oa (aY (some ⟨b5,0,none⟩) 1 1) rfl r<|?_;have hn5:1=([(J O.aq Y.toNat).A]).length:=h.p6;replace h:=Fit.Gk hn5 (λq_=>rowOf 3 1 ck (aY (some ⟨b5,0,none⟩) q_ 1) ([(J O.aq Y.toNat).A])) h;cases H;exact⟨(some ⟨b5,0,none⟩),1,(by first | rfl | simp only[hn5]),h.se 3 [0]⟩
 refine aN [R ((J O.aq Y.toNat).aL==9),R ((J O.aq Y.toNat).aL==9)]<|I<|ez H (λc7 H=>?_) λc7 H=>?_
 ·refine gS<|wr<|br<|tr<|λ_ r=>oa (aY none 0 0) rfl r<|?_;replace h:=h.fX (e:=3) (sz:=1) (enc:=ck);cases H;exact⟨none,0,rfl,h.se 3 [0]⟩
 refine aN [R ((J O.aq Y.toNat).aL==4),R ((J O.aq Y.toNat).aL==4)]<|I<|ez H (λc8 H=>?_) λc8 H=>?_
 ·refine aN [U,Z (wi (Y+1)),U]<|kL h 2<|λ_ r=>Xt (wn rfl) r h (λb=>aY (some ⟨b,0,none⟩) 2 2) (#[Z (wi (Y+1)),Z (J O.aq Y.toNat).B]) 3 λb9 w _ h r=>qq r<|?_;replace h:=Fit.BC (n:=2) (l:=[wi (Y+1),(J O.aq Y.toNat).B]) (by rfl) (by rfl) aE eL h;refine bT<|cB<|br<|tr<|λ_ r=>oa (aY (some ⟨b9,0,none⟩) 2 2) rfl r<|?_;have hn9:2=([wi (Y+1),(J O.aq Y.toNat).B]).length:=h.p6;replace h:=Fit.Gk hn9 (λq_=>rowOf 3 1 ck (aY (some ⟨b9,0,none⟩) q_ 2) ([wi (Y+1),(J O.aq Y.toNat).B])) h;cases H;exact⟨(some ⟨b9,0,none⟩),2,(by first | rfl | simp only[hn9]),h.se 3 [0]⟩
 refine wk<|bn<|tn<|aN [U,Z (wi (Y+1))]<|kV h (#[Z (wi (Y+1))]) 3 λM2 w h=>?_;replace h:=Fit.BC (n:=1) (l:=[wi (Y+1)]) (by rfl) (by rfl) aE eL h;refine bT<|cB<|λ_ r=>oa (aY (some ⟨M2,0,none⟩) 1 1) rfl r<|?_;have aaK:1=([wi (Y+1)]).length:=h.p6;replace h:=Fit.Gk aaK (λq_=>rowOf 3 1 ck (aY (some ⟨M2,0,none⟩) q_ 1) ([wi (Y+1)])) h;cases H;exact⟨(some ⟨M2,0,none⟩),1,(by first | rfl | simp only[aaK]),h.se 3 [0]⟩
def gM(K:Nat)(sw:Int)(tZ:List Int):Nat->(List Int)->(List Int)->(List Int)->Int->Option ((List Int)×(List Int)×(List Int))
 | 0,_,_,_,_=>none
 | k2+1,Hs,OD,OE,rV=>(if rV<((tZ.length:Nat):Int)then if bI rV tZ.length then if bI (J tZ rV.toNat) Hs.length then(if(iN (J Hs (J tZ rV.toNat).toNat) sw)=0 then if(OD.length+1)*8<=140737488355328 then if(OE.length+1)*8<=140737488355328 then(gM K sw tZ k2 (Hs.set (J tZ rV.toNat).toNat (wi ((J Hs (J tZ rV.toNat).toNat)+sw))) (OD++[(J tZ rV.toNat)]) (OE++[sw]) (wi (rV+1)))else none else none else(gM K sw tZ k2 Hs OD OE (wi (rV+1))))else none else none else some (Hs,OD,OE))
def iq(K:Nat)(O:aD)(Y:Int):Nat->(List Int)->(List Int)->(List Int)->Int->Option ((List Int))
 | 0,_,_,_,_=>none
 | k1+1,l9,Gy,Gz,ve=>(if ve<((Gy.length:Nat):Int)then pM (if bI ve Gy.length then if bI (J Gy ve.toNat) O.aq.length then if bI ve Gz.length then eY (oX (J O.aq (J Gy ve.toNat).toNat) Y (J Gz ve.toNat)) (λsw=>eY (oY O (J Gy ve.toNat)) (λtZ=>(gM K sw tZ K l9 Gy Gz 0)))else none else none else none) (λWv XH OG=>(iq K O Y k1 Wv XH OG (wi (ve+1))))else some l9)
def mg(K:Nat)(O:aD)(Y:Int):Option ((List Int)):=
 if 0<=((O.aq.length:Nat):Int)/\((O.aq.length:Nat):Int)*8<=140737488355328 then if bI (0:Int) (List.replicate O.aq.length (0:Int)).length then(iq K O Y K ((List.replicate O.aq.length (0:Int)).set 0 1) ([0]) ([1]) 0)else none else none
theorem xh(H:mg K O Y=some r0)(h:jh z (L) w)(cK:bL L 5 cT bt O.aq) :
 Calls Tryz.prog 86 #[oP #[Z O.aV,Z O.dg,Z O.bM,aY bt O.aq.length bW],Z Y] w λe w=>∃y1 y2,e=.returned (aY y1 r0.length y2)/\Fit z (aC (xq y1 y2 r0::L)) w:=by
 unfold mg at H;refine ke func86 91 rfl λj=>ks<|kN h (#[Z O.aV,Z O.dg,Z O.bM,aY bt O.aq.length bW]) 85 λb1 w h=>bT<|I<|aN [U]<|kL h 3<|qg H λc2 H=>ko [Z ((O.aq.length:Nat):Int)]<|λ_ r=>n3 (i:=((O.aq.length:Nat):Int)) (bytes:=8) (zc:=#[Z 0]) (0:Int) (wn rfl) rfl rfl r rfl aK aK c2 aE (E:=3) aK aK rfl rfl h λjs w _ h r=>qq r<|bT<|I<|ks<|kV h (#[Z 0]) 3 λb4 w h=>?_;replace h:=Fit.BC (n:=1) (l:=[0]) (by rfl) (by rfl) aE eL h;refine bT<|I<|ks<|kV h (#[Z 1]) 3 λb5 w h=>?_;replace h:=Fit.BC (n:=1) (l:=[1]) (by rfl) (by rfl) aE eL h;refine bT<|I<|ks<|qg H λc6 H=>bT<|kp (u (dA js) (0*1)) (zg (i:=(0:Int)) (k:=.i64) (E:=3) rfl aK aK aK aK (h.pick 2) c6)<|qh h.m2 λh=>λ_ r=>BM (wn rfl) r aE h 0 0 (Z 1) (J (List.replicate O.aq.length (0:Int)) 0) 1 (aS c6) λw h=>qq r<|I<|wq<|gS<|wb<|?_;have aaL:(List.replicate O.aq.length (0:Int)).length=((List.replicate O.aq.length (0:Int)).set 0 1).length:=h.p6;replace h:=Fit.Gk aaL (λq_=>rowOf 3 1 ck (aY js q_ O.aq.length) ((List.replicate O.aq.length (0:Int)).set 0 1)) h;intro _ r;replace r:=r.re 5 (qG (λq_=>Value.slice js q_ O.aq.length) aaL);refine qh h.m2 λh=>?_;have aaM:1=([0]).length:=h.p6;replace h:=Fit.Gk aaM (λq_=>rowOf 3 1 ck (aY (some ⟨b4,0,none⟩) q_ 1) ([0])) h;replace r:=r.re 6 (qG (λq_=>Value.slice (some ⟨b4,0,none⟩) q_ 1) aaM);refine qh h.m2 λh=>?_;have aaN:1=([1]).length:=h.p6;replace h:=Fit.Gk aaN (λq_=>rowOf 3 1 ck (aY (some ⟨b5,0,none⟩) q_ 1) ([1])) h;replace r:=r.re 7 (qG (λq_=>Value.slice (some ⟨b5,0,none⟩) q_ 1) aaN);refine dQ (β:=Nat) id (λm a w=>∃kQ:fR,∃lD:Nat,∃HD:fR,∃PY:Nat,∃iA:fR,∃sW:Nat,∃l9:List Int,∃Gy:List Int,∃Gz:List Int,∃ve:Int,(iq K O Y m l9 Gy Gz ve)=some r0/\∃j,kH 91 (lk [(1,Z Y),(2,u b1 0),(5,aY kQ l9.length lD),(6,aY HD Gy.length PY),(7,aY iA Gz.length sW),(8,Z ve)] j) a/\Fit z (aC (qD b1 O bt bW::xq kQ lD l9::xq HD PY Gy::xq iA sW Gz::L)) w) K ⟨js,O.aq.length,(some ⟨b4,0,none⟩),1,(some ⟨b5,0,none⟩),1,((List.replicate O.aq.length (0:Int)).set 0 1),[0],[1],0,H,r.fj (h.se 4 [3,2,1,0])⟩<|?_;clear h r H;rintro k1 a w ⟨kQ,lD,HD,PY,iA,sW,l9,Gy,Gz,ve,H,j,r,h⟩;cases k1 with
 | zero=>exact absurd H (by simp[iq])
 | succ k1 =>
  rw[iq]at H;refine qq r<|wq<|aN [U,U,Z ((Gy.length:Nat):Int),cJ (ve<((Gy.length:Nat):Int))]<|I<|ez H (λmG H=>?_) λmG H=>?_
  ·refine gD<|qd3 H λo29 H XI=>λ_ r=>cY (β:=Unit) (λ_ a w=>∃Lb:fR,∃Lc:Nat,∃yK:fR,∃BO:Nat,∃Wv:List Int,∃XH:List Int,∃OG:List Int,(Wv,XH,OG)=o29/\∃j,kH 91 (lk [(1,Z Y),(2,u b1 0),(5,aY kQ l9.length lD),(6,aY Lb XH.length Lc),(7,aY yK OG.length BO),(8,Z ve)] j) a/\Fit z (aC (qD b1 O bt bW::rowOf 3 1 ck (aY kQ l9.length lD) Wv::xq Lb Lc XH::xq yK BO OG::L)) w) ?_ ?_
   ·refine qq r<|wb<|wq<|qg H λur H=>qg H λvx H=>lC [(b1,3,[aY bt O.aq.length bW]),(dA HD,ve.toNat*1,[Z (J Gy ve.toNat)]),(dA bt,kg bt+(J Gy ve.toNat).toNat*5,gO (J O.aq (J Gy ve.toNat).toNat))] [0,4,6] 10 h (λh=>⟨⟨h.cell 3 rfl,bx⟩,⟨(h.pick 2).bE aE (f:=0) (aS ur) rfl,bx⟩,⟨cK.cell vx (h.dn 4) 0 rfl,cK.cell vx (h.dn 4) 1 rfl,cK.cell vx (h.dn 4) 2 rfl,cK.cell vx (h.dn 4) 3 rfl,cK.cell vx (h.dn 4) 4 rfl,bx⟩,bx⟩) λw h hd =>iy hd 7 [(0,27,u b1 3),(2,29,aY HD Gy.length PY),(3,30,Z ve)]<|jl hd 6 4 rfl (mw HD ve 1) (λw=>nN 3 rfl (h.pick 2) ur)<|fg hd 0 5 1 rfl<|fg hd 1 4 5 rfl<|jl hd 3 6 rfl (u (dA bt) (kg bt+(J Gy ve.toNat).toNat*5)) (λw=>Fa 132 bW rfl rfl cK vx)<|wL hd 2 2 7 rfl rfl<|lQ 8 rfl<|kN h (La) 132 λb32 w h=>I<|λ_ r=>xE<|lI 9 rfl<|qq r<|kA h (wN b32 (J O.aq (J Gy ve.toNat).toNat)) λw h=>I<|mJ<|kI<|tn<|wq<|qg H λAz H=>gB H λsw Jv H=>lC [(b32,0,gO (J O.aq (J Gy ve.toNat).toNat)),(dA iA,ve.toNat*1,[Z (J Gz ve.toNat)])] [4] 8 h (λh=>⟨(h.held 0 rfl),⟨(h.pick 4).bE aE (f:=0) (aS Az) rfl,bx⟩,bx⟩) λw h hd =>iy hd 5 [(1,36,Z Y),(2,37,aY iA Gz.length sW),(3,38,Z ve)]<|jl hd 4 4 rfl (mw iA ve 1) (λw=>nN 3 rfl (h.pick 4) Az)<|wL hd 0 3 0 rfl rfl<|fg hd 1 2 5 rfl<|lQ 6 rfl<|fG (AZ Jv h :) λw h=>I<|mJ<|iS 0 7 rfl (Z sw)<|kI<|tn<|wq<|gB H λtZ PZ H=>lC [(b1,0,[Z O.aV,Z O.dg,Z O.bM,aY bt O.aq.length bW]),(dA HD,ve.toNat*1,[Z (J Gy ve.toNat)])] [3] 7 h (λh=>⟨((h.pick 1).held 0 rfl),⟨(h.pick 3).bE aE (f:=0) (aS ur) rfl,bx⟩,bx⟩) λw h hd =>iy hd 5 [(1,43,aY HD Gy.length PY),(2,44,Z ve)]<|jl hd 4 3 rfl (mw HD ve 1) (λw=>nN 3 rfl (h.pick 3) ur)<|wL hd 0 3 0 rfl rfl<|fg hd 1 2 4 rfl<|lQ 5 rfl<|Wr (Ba (bt:=bt) (bW:=bW) (cK:=(bL.up 5 cK)) PZ h :) λFK Ea w h=>I<|mJ<|iS 0 6 rfl (aY FK tZ.length Ea)<|kI<|tn<|gS<|wb<|λ_ r=>dQ (β:=Nat) id (λm a w=>∃Sg:fR,∃Sh:Nat,∃Ld:fR,∃Le:Nat,∃Hs:List Int,∃OD:List Int,∃OE:List Int,∃rV:Int,(gM K sw tZ m Hs OD OE rV)=some o29/\∃j,kH 91 (lk [(1,Z Y),(2,u b1 0),(5,aY kQ l9.length lD),(6,aY Sg OD.length Sh),(7,aY Ld OE.length Le),(8,Z ve),(10,Z sw),(11,aY FK tZ.length Ea),(12,Z rV)] j) a/\Fit z (aC (qD b1 O bt bW::rowOf 3 1 ck (aY kQ l9.length lD) Hs::xq Sg Sh OD::xq Ld Le OE::xq FK Ea tZ::L)) w) K ⟨HD,PY,iA,sW,l9,Gy,Gz,0,H,r.fj (h.se 6 [2,3,4,5,0])⟩<|?_;clear h r H;rintro k2 a w ⟨Sg,Sh,Ld,Le,Hs,OD,OE,rV,H,j,r,h⟩;cases k2 with
    | zero=>exact absurd H (by simp[gM])
    | succ k2 =>
     rw[gM]at H;refine qq r<|wq<|aN [U,U,Z ((tZ.length:Nat):Int),cJ (rV<((tZ.length:Nat):Int))]<|I<|ez H (λCE H=>?_) λCE H=>?_
     ·refine gD<|wq<|wb<|ks<|qg H λFb H=>ko lR<|ki (h.pick 4) Fb<|yY (Z (J tZ rV.toNat)) ((h.pick 4).bE aE (f:=0) (aS Fb) rfl)<|?_;refine qg H λCq H=>ki (h.pick 1) Cq<|yY (Z (J Hs (J tZ rV.toNat).toNat)) ((h.pick 1).bE aE (f:=0) (aS Cq) rfl)<|?_;refine bT<|kp (Z (iN (J Hs (J tZ rV.toNat).toNat) sw)) (rand rfl aK aK)<|ko [R ((iN (J Hs (J tZ rV.toNat).toNat) sw)==0)]<|I<|ez H (λFc H=>?_) λFc H=>?_
      ·refine wq<|lC [(dA FK,rV.toNat*1,[Z (J tZ rV.toNat)]),(dA FK,rV.toNat*1,[Z (J tZ rV.toNat)]),(dA kQ,(J tZ rV.toNat).toNat*1,[Z (J Hs (J tZ rV.toNat).toNat)])] [3,8,10,13] 16 h (λh=>⟨⟨(h.pick 4).bE aE (f:=0) (aS Fb) rfl,bx⟩,⟨(h.pick 4).bE aE (f:=0) (aS Fb) rfl,bx⟩,⟨(h.pick 1).bE aE (f:=0) (aS Cq) rfl,bx⟩,bx⟩) λw h hd =>iy hd 13 [(0,64,aY kQ l9.length lD),(1,65,aY FK tZ.length Ea),(2,66,Z rV)]<|jl hd 12 3 rfl (mw FK rV 1) (λw=>nN 3 rfl (h.pick 4) Fb)<|iy hd 9 [(5,69,aY kQ l9.length lD),(6,70,aY FK tZ.length Ea),(7,71,Z rV)]<|jl hd 8 8 rfl (mw FK rV 1) (λw=>nN 3 rfl (h.pick 4) Fb)<|iy hd 7 [(12,76,Z sw)]<|fg hd 0 6 4 rfl<|fg hd 1 5 9 rfl<|jl hd 4 10 rfl (u (dA kQ) ((J tZ rV.toNat).toNat*1)) (λw=>nN 3 rfl (h.pick 1) Cq)<|fg hd 2 3 11 rfl<|iy hd 2 [(13,77,Z (wi ((J Hs (J tZ rV.toNat).toNat)+sw)))]<|jl hd 1 14 rfl (u (dA kQ) ((J tZ rV.toNat).toNat*1)) (λw=>nN 3 rfl (h.pick 1) Cq)<|λ_ r=>lI 15 rfl<|qh h.m1 λh=>BM (wn rfl) r aE h (J tZ rV.toNat).toNat 0 (Z (wi ((J Hs (J tZ rV.toNat).toNat)+sw))) (J Hs (J tZ rV.toNat).toNat) (wi ((J Hs (J tZ rV.toNat).toNat)+sw)) (aS Cq) λw h=>qq r<|I<|mJ<|kI<|tn<|aN lR<|ki (h.pick 4) Fb<|yY (Z (J tZ rV.toNat)) ((h.pick 4).bE aE (f:=0) (aS Fb) rfl)<|?_;refine kV h (#[Z (J tZ rV.toNat)]) 3 λb52 w h=>qh h.m3 λh=>qg H λc55 H=>λ_ r=>kY (n0:=OD.length) (c:=1) (bytes:=8) (wn rfl) rfl rfl r rfl aK aK aE (E:=3) (xs:=OD) aK aK h (news:=[(J tZ rV.toNat)]) (m:=1) rfl ((h.pick 1).news rfl) c55 rfl λac5 ac6 w _ h r=>qq r<|bT<|I<|wl<|ko dx<|kV h (#[Z sw]) 3 λb56 w h=>qh h.m5 λh=>qg H λLf H=>λ_ r=>kY (n0:=OE.length) (c:=1) (bytes:=8) (wn rfl) rfl rfl r rfl aK aK aE (E:=3) (xs:=OE) aK aK h (news:=[sw]) (m:=1) rfl ((h.pick 1).news rfl) Lf rfl λHE HF w _ h r=>qq r<|bT<|kl<|bn<|tn<|wl<|ko [U,Z (wi (rV+1)),Z (wi (rV+1))]<|I<|?_;exact λ_ r=>⟨_,⟨ac5,ac6,HE,HF,(Hs.set (J tZ rV.toNat).toNat (wi ((J Hs (J tZ rV.toNat).toNat)+sw))),(OD++[(J tZ rV.toNat)]),(OE++[sw]),(wi (rV+1)),H,r.fj (h.se 7 [5,4,2,0,6])⟩,gQ _⟩
      refine wk<|bn<|tn<|wl<|ko [U,Z (wi (rV+1)),Z (wi (rV+1))]<|I<|?_;exact λ_ r=>⟨_,⟨Sg,Sh,Ld,Le,Hs,OD,OE,(wi (rV+1)),H,r.fj h⟩,gQ _⟩
     refine wx<|te<|te<|bh<|bn<|tn<|?_;exact λ_ r=>⟨(),Sg,Sh,Ld,Le,Hs,OD,OE,gA H,r.fj (h.se 5 [0,1,2,3])⟩
   clear h r;rintro _ a w ⟨Lb,Lc,yK,BO,Wv,XH,OG,rfl,j,r,h⟩;replace H:=kk3 XI;refine qq r<|wl<|ko [U,Z (wi (ve+1)),Z (wi (ve+1))]<|I<|qh h.m1 λh=>?_;have aaO:l9.length=Wv.length:=h.p6;replace h:=Fit.Gk aaO (λq_=>rowOf 3 1 ck (aY kQ q_ lD) Wv) h;intro _ r;replace r:=r.re 5 (qG (λq_=>Value.slice kQ q_ lD) aaO);exact⟨_,⟨kQ,lD,Lb,Lc,yK,BO,Wv,XH,OG,(wi (ve+1)),H,r.fj (h.se 4 [1,0,2,3])⟩,gQ _⟩
  refine wx<|te<|te<|bh<|tn<|aN dx<|cB<|?_;cases H;exact Zv kQ lD (h.se 4 [1])
def kJ(K:Nat)(O:aD):Nat->(List (List Int))->Int->Option ((List (List Int)))
 | 0,_,_=>none
 | k1+1,FL,sJ=>(if sJ<(((List.replicate O.aq.length ([]:List Int)).length:Nat):Int)then if 0<=O.bM/\O.bM*8<=140737488355328 then if bI sJ FL.length then(kJ K O k1 (FL.set sJ.toNat (List.replicate O.bM.toNat (0:Int))) (wi (sJ+1)))else none else none else some FL)
def kK(K:Nat)(O:aD)(lX:Int)(CF:List Int):Nat->(List (List Int))->Int->Option ((List (List Int)))
 | 0,_,_=>none
 | k3+1,Fe,BP=>(if BP<(((List.replicate O.aq.length ([]:List Int)).length:Nat):Int)then if bI BP Fe.length then if bI BP CF.length then if bI lX (J Fe BP.toNat).length then(kK K O lX CF k3 (Fe.set BP.toNat ((J Fe BP.toNat).set lX.toNat (J CF BP.toNat))) (wi (BP+1)))else none else none else none else some Fe)
def kO(K:Nat)(O:aD):Nat->(List (List Int))->Int->Option ((List (List Int)))
 | 0,_,_=>none
 | k2+1,yn,lX=>(if lX<O.bM then eY (eY (mg K O lX) (λCF=>(kK K O lX CF K yn 0))) (λLh=>(kO K O k2 Lh (wi (lX+1))))else some yn)
def qb(K:Nat)(O:aD):Option ((List (List Int))):=
 eY (rU K O) (λr2=>(if r2=true then if 0<=((O.aq.length:Nat):Int)/\((O.aq.length:Nat):Int)*24<=140737488355328 then eY ((kJ K O K (List.replicate O.aq.length ([]:List Int)) 0)) (λl7=>(kO K O K l7 0))else none else some ([]:List (List Int))))
theorem BQ(H:qb K O=some r0)(h:jh z (L) w)(cK:bL L 5 cT bt O.aq) :
 Calls Tryz.prog 53 #[oP #[Z O.aV,Z O.dg,Z O.bM,aY bt O.aq.length bW]] w λe w=>∃y1 y2,e=.returned (aY y1 r0.length y2)/\Fit z (aC (Jq y1 y2 r0::L)) w:=by
 unfold qb at H;refine ke func53 55 rfl λj=>ks<|kN h (#[Z O.aV,Z O.dg,Z O.bM,aY bt O.aq.length bW]) 85 λb1 w h=>bT<|I<|ks<|kM h<|gB H λr2 e3 H=>fG (AY (bt:=bt) (bW:=bW) (cK:=(bL.up 1 cK)) e3 h :) λw h=>bT<|I<|wq<|aN [U,R (!r2)]<|I<|D5 H (λc4 H=>?_) λc4 H=>?_
 ·refine gD<|aN [U]<|kL h 3<|qg H λc5 H=>ko [Z ((O.aq.length:Nat):Int)]<|λ_ r=>C5 (own:=jM) (i:=((O.aq.length:Nat):Int)) (bytes:=24) (zc:=#[aY none 0 0]) ([]:List Int) (wn rfl) rfl rfl r rfl aK aK c5 rfl (by simp[Value.oneCell']) eL (E:=28) aK aK rfl (λh=>iH (x:=([]:List Int)) (th:=none) (tj:=0) (h.fX)) h λDW w _ h r=>qq r<|bT<|I<|DV H λo9 H K9=>λ_ r=>cY (β:=Unit) (λ_ a w=>∃l7:List (List Int),l7=o9/\∃j,kH 55 (lk [(1,u b1 0),(4,aY DW (List.replicate O.aq.length ([]:List Int)).length O.aq.length)] j) a/\Fit z (aC (qD b1 O bt bW::sA 28 1 jM (aY DW (List.replicate O.aq.length ([]:List Int)).length O.aq.length) l7::L)) w) ?_ ?_
  ·refine qq r<|gS<|wb<|λ_ r=>dQ (β:=Nat) id (λm a w=>∃FL:List (List Int),∃sJ:Int,(kJ K O m FL sJ)=some o9/\∃j,kH 55 (lk [(1,u b1 0),(4,aY DW (List.replicate O.aq.length ([]:List Int)).length O.aq.length),(5,Z sJ)] j) a/\Fit z (aC (qD b1 O bt bW::sA 28 1 jM (aY DW (List.replicate O.aq.length ([]:List Int)).length O.aq.length) FL::L)) w) K ⟨(List.replicate O.aq.length ([]:List Int)),0,H,r.fj (h.se 2 [1,0])⟩<|?_;clear h r H;rintro k1 a w ⟨FL,sJ,H,j,r,h⟩;cases k1 with
   | zero=>exact absurd H (by simp[kJ])
   | succ k1 =>
    rw[kJ]at H;refine qq r<|wq<|aN [U,U,Z (((List.replicate O.aq.length ([]:List Int)).length:Nat):Int),cJ (sJ<(((List.replicate O.aq.length ([]:List Int)).length:Nat):Int))]<|I<|ez H (λCD H=>?_) λCD H=>?_
    ·refine gD<|wq<|wb<|wl<|ko lR<|kL h 2<|qg H λyI H=>λ_ r=>n3 (i:=O.bM) (bytes:=8) (zc:=#[Z 0]) (0:Int) (wn rfl) rfl rfl r rfl aK aK yI aE (E:=3) aK aK rfl rfl h λq7 w _ h r=>qq r<|qg H λpL H=>kp (mw DW sJ 1) (FF (k:=.i64) (E:=28) rfl aK aK aK aK (h.pick 2) pL)<|?_;obtain⟨aeZ,h⟩:=h.m2.mu (aS pL);obtain⟨tI,ae0,Di,h⟩:=nn (h.m1);subst Di;refine qh h.m1 λh=>λ_ r=>Cl (wn rfl) rfl r rfl aK aK (v:=aY q7 (List.replicate O.bM.toNat (0:Int)).length O.bM.toNat) rfl rfl aK aK h (i:=sJ.toNat) (f:=0) eL λw h=>qq r<|kl<|bn<|tn<|wl<|ko [U,Z (wi (sJ+1)),Z (wi (sJ+1))]<|I<|qh h.m2 λh=>?_;replace h:=iH (x:=(List.replicate O.bM.toNat (0:Int))) h;replace h:=(h.m1).yE;exact λ_ r=>⟨_,⟨(FL.set sJ.toNat (List.replicate O.bM.toNat (0:Int))),(wi (sJ+1)),H,r.fj (h.se 3 [2,0])⟩,gQ _⟩
    refine wx<|te<|te<|bh<|tn<|?_;exact λ_ r=>⟨(),FL,gA H,r.fj h⟩
  clear h r;rintro _ a w ⟨l7,rfl,j,r,h⟩;replace H:=DS K9;refine qq r<|wq<|gS<|wb<|λ_ r=>dQ (β:=Nat) id (λm a w=>∃yn:List (List Int),∃lX:Int,(kO K O m yn lX)=some r0/\∃j,kH 55 (lk [(1,u b1 0),(4,aY DW (List.replicate O.aq.length ([]:List Int)).length O.aq.length),(6,Z lX)] j) a/\Fit z (aC (qD b1 O bt bW::sA 28 1 jM (aY DW (List.replicate O.aq.length ([]:List Int)).length O.aq.length) yn::L)) w) K ⟨l7,0,H,r.fj h⟩<|?_;clear h r H;rintro k2 a w ⟨yn,lX,H,j,r,h⟩;cases k2 with
  | zero=>exact absurd H (by simp[kO])
  | succ k2 =>
   rw[kO]at H;refine qq r<|wq<|aN dx<|kL h 2<|ko [cJ (lX<O.bM)]<|I<|ez H (λDg H=>?_) λDg H=>?_
   ·refine gD<|DV H λo25 H XJ=>λ_ r=>cY (β:=Unit) (λ_ a w=>∃Lh:List (List Int),Lh=o25/\∃j,kH 55 (lk [(1,u b1 0),(4,aY DW (List.replicate O.aq.length ([]:List Int)).length O.aq.length),(6,Z lX)] j) a/\Fit z (aC (qD b1 O bt bW::sA 28 1 jM (aY DW (List.replicate O.aq.length ([]:List Int)).length O.aq.length) Lh::L)) w) ?_ ?_
    ·refine qq r<|wb<|ks<|kM h<|gB H λCF P0 H=>bT<|Wr (xh (bt:=bt) (bW:=bW) (cK:=(bL.up 2 cK)) P0 h :) λP1 Eb w h=>bT<|I<|gS<|wb<|λ_ r=>dQ (β:=Nat) id (λm a w=>∃Fe:List (List Int),∃BP:Int,(kK K O lX CF m Fe BP)=some o25/\∃j,kH 55 (lk [(1,u b1 0),(4,aY DW (List.replicate O.aq.length ([]:List Int)).length O.aq.length),(6,Z lX),(7,aY P1 CF.length Eb),(8,Z BP)] j) a/\Fit z (aC (qD b1 O bt bW::sA 28 1 jM (aY DW (List.replicate O.aq.length ([]:List Int)).length O.aq.length) Fe::xq P1 Eb CF::L)) w) K ⟨yn,0,H,r.fj (h.se 3 [1,2,0])⟩<|?_;clear h r H;rintro k3 a w ⟨Fe,BP,H,j,r,h⟩;cases k3 with
     | zero=>exact absurd H (by simp[kK])
     | succ k3 =>
      rw[kK]at H;refine qq r<|wq<|aN [U,U,Z (((List.replicate O.aq.length ([]:List Int)).length:Nat):Int),cJ (BP<(((List.replicate O.aq.length ([]:List Int)).length:Nat):Int))]<|I<|ez H (λEV H=>?_) λEV H=>?_
      ·refine gD<|wq<|wb<|qg H λAz H=>?_;obtain⟨ae1,h⟩:=h.m1.mu (aS Az);obtain⟨Jw,Li,Sf,h⟩:=nn (h.m1);subst Sf;refine qg H λGA H=>qg H λxz H=>lC [(dA DW,BP.toNat*1,[aY Jw (J Fe BP.toNat).length Li]),(dA P1,BP.toNat*1,[Z (J CF BP.toNat)])] [2,7] 11 h (λh=>⟨⟨(h.pick 1).oO eL (f:=0) rfl,bx⟩,⟨(h.pick 3).bE aE (f:=0) (aS GA) rfl,bx⟩,bx⟩) λw h hd =>iy hd 9 [(0,44,aY DW (List.replicate O.aq.length ([]:List Int)).length O.aq.length),(1,45,Z BP)]<|jl hd 8 2 rfl (mw DW BP 1) (λw=>vY (k:=.i64) (E:=28) rfl aK aK aK aK (h.pick 1) Az)<|iy hd 5 [(4,48,Z lX),(5,49,aY P1 CF.length Eb),(6,50,Z BP)]<|jl hd 4 7 rfl (mw P1 BP 1) (λw=>nN 3 rfl (h.pick 3) GA)<|fg hd 0 3 3 rfl<|fg hd 1 2 8 rfl<|jl hd 1 9 rfl (mw Jw lX 1) (λw=>nN 3 rfl h xz)<|λ_ r=>lI 10 rfl<|BM (wn rfl) r aE h lX.toNat 0 (Z (J CF BP.toNat)) (J (J Fe BP.toNat) lX.toNat) (J CF BP.toNat) (aS xz) λw h=>qq r<|I<|mJ<|kI<|bn<|tn<|wl<|ko [U,Z (wi (BP+1)),Z (wi (BP+1))]<|I<|?_;replace h:=h.Om (λq_=>AL 28 1 jM (aY DW (List.replicate O.aq.length ([]:List Int)).length O.aq.length) Fe BP.toNat [aY Jw q_ Li]);replace h:=iH (x:=((J Fe BP.toNat).set lX.toNat (J CF BP.toNat))) h;replace h:=(h.m1).yE;exact λ_ r=>⟨_,⟨(Fe.set BP.toNat ((J Fe BP.toNat).set lX.toNat (J CF BP.toNat))),(wi (BP+1)),H,r.fj (h.se 3 [1,0,2])⟩,gQ _⟩
      refine wx<|te<|te<|bh<|bn<|tn<|?_;exact λ_ r=>⟨(),Fe,gA H,r.fj (h.se 3 [0,1])⟩
    clear h r;rintro _ a w ⟨Lh,rfl,j,r,h⟩;replace H:=DS XJ;refine qq r<|wl<|ko [U,Z (wi (lX+1)),Z (wi (lX+1))]<|I<|?_;exact λ_ r=>⟨_,⟨Lh,(wi (lX+1)),H,r.fj h⟩,gQ _⟩
   refine wx<|te<|te<|bh<|tn<|aN dx<|cB<|λ_ r=>oa (aY DW (List.replicate O.aq.length ([]:List Int)).length O.aq.length) rfl r<|qh h.m1 λh=>?_;have Si:(List.replicate O.aq.length ([]:List Int)).length=yn.length:=h.MS;replace h:=Fit.Gk Si (λq_=>sA 28 1 jM (aY DW q_ O.aq.length) yn) h;cases H;exact⟨DW,O.aq.length,(by first | rfl | simp only[Si]),h.se 2 [0]⟩
 refine gS<|wr<|tr<|λ_ r=>oa (aY none 0 0) rfl r<|?_;replace h:=h.C2 (e:=28) (sz:=1) (own:=jM);cases H;exact⟨none,0,rfl,h.se 2 [0]⟩
def gW(K:Nat)(Y:List Int):Nat->Int->Option (Int)
 | 0,_=>none
 | k1+1,g9=>(if g9<((Y.length:Nat):Int)then if bI g9 Y.length then(if(iN (J Y g9.toNat) (2:Int))=0 then(gW K Y k1 (wi (g9+1)))else some 56)else none else some 0)
def mK(K:Nat)(O:cx)(Y:List Int):Option (Int):=
 (if O.aL=5 then if bI O.A Y.length then(if(iN (J Y O.A.toNat) (2:Int))=0 then some 0 else some 54)else none else(if O.aL=7 then if bI O.B Y.length then(if(iN (J Y O.B.toNat) (3:Int))=0 then some 0 else some 55)else none else(if O.aL=9 then(gW K Y K 0)else some 0)))
theorem xQ(H:mK K O Y=some r0)(h:jh z (L) w)(Kk:bL L 1 ck Kl Y) :
 nV 54 #[iO O,aY Kl Y.length Lj] w z (Z r0) (L):=by
 unfold mK at H;refine ke func54 40 rfl λj=>ks<|kN h (nk O) 132 λb1 w h=>bT<|I<|wq<|aN [U]<|kL h 0<|I<|wb<|aN [R (O.aL==5),R (O.aL==5)]<|I<|ez H (λc2 H=>?_) λc2 H=>?_
 ·refine aN dx<|kL h 1<|qg H λc3 H=>kj 3 Lj Kk c3<|yY (Z (J Y O.A.toNat)) (Kk.cell c3 (h.dn 1) 0 rfl)<|?_;refine kp (Z (iN (J Y O.A.toNat) (2:Int))) (rand rfl aK aK)<|ko [R ((iN (J Y O.A.toNat) (2:Int)) != 0)]<|I<|qB H (λc4 H=>?_) λc4 H=>?_
  ·refine wk<|bn<|tn<|gS<|wr<|?_;cases H;exact gC (h.se 1 [])
  refine gS<|wr<|br<|tr<|?_;cases H;exact gC (h.se 1 [])
 refine aN [R (O.aL==7),R (O.aL==7)]<|I<|ez H (λc5 H=>?_) λc5 H=>?_
 ·refine aN dx<|kL h 2<|qg H λc6 H=>kj 3 Lj Kk c6<|yY (Z (J Y O.B.toNat)) (Kk.cell c6 (h.dn 1) 0 rfl)<|?_;refine kp (Z (iN (J Y O.B.toNat) (3:Int))) (rand rfl aK aK)<|ko [R ((iN (J Y O.B.toNat) (3:Int)) != 0)]<|I<|qB H (λc7 H=>?_) λc7 H=>?_
  ·refine wk<|bn<|tn<|gS<|wr<|?_;cases H;exact gC (h.se 1 [])
  refine gS<|wr<|br<|tr<|?_;cases H;exact gC (h.se 1 [])
 refine aN [R (O.aL==9),R (O.aL==9)]<|I<|ez H (λc8 H=>?_) λc8 H=>?_
 ·refine gS<|wb<|λ_ r=>dQ (β:=Nat) id (λm a w=>∃g9:Int,(gW K Y m g9)=some r0/\∃j,kH 40 (lk [(1,aY Kl Y.length Lj),(5,Z g9)] j) a/\Fit z (aC (L)) w) K ⟨0,H,r.fj (h.se 1 [])⟩<|?_;clear h r H;rintro k1 a w ⟨g9,H,j,r,h⟩;cases k1 with
  | zero=>exact absurd H (by simp[gW])
  | succ k1 =>
   rw[gW]at H;refine qq r<|wq<|aN [U,U,Z ((Y.length:Nat):Int),cJ (g9<((Y.length:Nat):Int))]<|I<|ez H (λoh H=>?_) λoh H=>?_
   ·refine gD<|wq<|wb<|ks<|qg H λuR H=>ko dx<|kj 3 Lj Kk uR<|yY (Z (J Y g9.toNat)) (Kk.cell uR (h.dn 0) 0 rfl)<|?_;refine kp (Z (iN (J Y g9.toNat) (2:Int))) (rand rfl aK aK)<|ko [R ((iN (J Y g9.toNat) (2:Int)) != 0)]<|I<|qB H (λCD H=>?_) λCD H=>?_
    ·refine wk<|bn<|tn<|wl<|ko [U,Z (wi (g9+1)),Z (wi (g9+1))]<|I<|?_;exact λ_ r=>⟨_,⟨(wi (g9+1)),H,r.fj h⟩,gQ _⟩
    refine gS<|wr<|br<|tr<|tr<|br<|br<|tr<|?_;cases H;exact gC h
   refine wx<|te<|te<|bh<|bn<|tn<|gS<|wr<|?_;cases H;exact gC h
 refine wk<|bn<|tn<|gS<|wr<|?_;cases H;exact gC (h.se 1 [])
def ja(K:Nat)(O:aM):Nat->Int->Option ((Unit)⊕(eN))
 | 0,_=>none
 | k1+1,g9=>(if g9<((O.ak.length:Nat):Int)then if bI g9 O.ak.length then eY (jX (J O.ak g9.toNat)) (λw8=>(if w8=true then(ja K O k1 (wi (g9+1)))else some (.inr (⟨51,g9,0⟩:eN))))else none else some (.inl ()))
def jb(K:Nat)(O:aM)(mH:Int):Nat->Int->Option ((Unit)⊕((Unit)⊕((Unit)⊕(eN))))
 | 0,_=>none
 | k3+1,Dj=>(if Dj<(((J O.ak mH.toNat).aq.length:Nat):Int)then if bI Dj (J O.ak mH.toNat).aq.length then eY (nA (J O.ak mH.toNat) (J (J O.ak mH.toNat).aq Dj.toNat)) (λyL=>(if yL=true then eY (oq O (J O.ak mH.toNat) (J (J O.ak mH.toNat).aq Dj.toNat)) (λzk=>(if zk=true then(jb K O mH k3 (wi (Dj+1)))else some (.inr (.inr (.inr (⟨52,mH,Dj⟩:eN))))))else some (.inr (.inr (.inr (⟨52,mH,Dj⟩:eN))))))else none else some (.inl ()))
def jc(K:Nat)(O:aM):Nat->Int->Option ((Unit)⊕(eN))
 | 0,_=>none
 | k2+1,mH=>(if mH<((O.ak.length:Nat):Int)then xp (if bI mH O.ak.length then xp ((jb K O mH K 0)) (eY (mO (J O.ak mH.toNat)) (λsw=>(if sw=true then some (.inl ())else some (.inr (.inr (⟨53,mH,wi ((((J O.ak mH.toNat).aq.length:Nat):Int)-1)⟩:eN))))))else none) ((jc K O k2 (wi (mH+1))))else some (.inl ()))
def jd(K:Nat)(O:aM)(nO:Int)(Ll:List (List Int)):Nat->Int->Option ((Unit)⊕(eN))
 | 0,_=>none
 | k5+1,rV=>(if rV<(((J O.ak nO.toNat).aq.length:Nat):Int)then if bI rV (J O.ak nO.toNat).aq.length then if bI rV Ll.length then eY (mK K (J (J O.ak nO.toNat).aq rV.toNat) (J Ll rV.toNat)) (λLm=>(if Lm=0 then(jd K O nO Ll k5 (wi (rV+1)))else some (.inr (⟨Lm,nO,rV⟩:eN))))else none else none else some (.inl ()))
def jY(K:Nat)(O:aM):Nat->Int->Option (eN)
 | 0,_=>none
 | k4+1,nO=>(if nO<((O.ak.length:Nat):Int)then xp (if bI nO O.ak.length then eY (qb K (J O.ak nO.toNat)) (λLl=>(jd K O nO Ll K 0))else none) ((jY K O k4 (wi (nO+1))))else some (⟨0,0,0⟩:eN))
def oZ(K:Nat)(O:aM):Option (eN):=
 xp ((if((O.ak.length:Nat):Int)<1 then some (.inr (⟨50,0,0⟩:eN))else(if((O.ak.length:Nat):Int)>32 then some (.inr (⟨50,0,0⟩:eN))else some (.inl ())))) (xp ((ja K O K 0)) (xp ((jc K O K 0)) ((jY K O K 0))))
abbrev wA:List Value:=[U,U,U,U]
theorem Bb(H:oZ K O=some r0)(h:jh z (L) w)(be:BN L bB aI O.ak) :
 nV 35 #[oP #[aY bB O.ak.length cr]] w z (AQ r0) (L):=by
 unfold oZ at H;refine ke func35 131 rfl λj=>ks<|kN h (#[aY bB O.ak.length cr]) 24 λb1 w h=>kN h (#[Z 0,Z 0,Z 0]) 81 λb2 w h=>I<|?_;obtain⟨o4,H,M3⟩:=CZ H;refine λ_ r=>cY (β:=Unit) (λ_ a w=>.inl ()=o4/\∃j,kH 131 (lk [(1,u b1 0),(2,u b2 0)] j) a/\Fit z (aC (gK b1 #[aY bB O.ak.length cr] 24::gK b2 #[Z 0,Z 0,Z 0] 81::L)) w) ?_ ?_
 ·refine qq r<|aN [U]<|kL (h.pick 1) 0<|ko [Z ((O.ak.length:Nat):Int),cJ (((O.ak.length:Nat):Int)<1),cJ (((O.ak.length:Nat):Int)<1)]<|qI H (λc5 H=>?_) λc5 H=>?_
  ·refine bU (dT c5) [19,20,21,22]<|ny (dT c5) (R true)<|I<|λ_ r=>dX r (b:=true) rfl<|qq r<|aN [U]<|kA h (gK b2 #[Z 50,Z 0,Z 0] 81) λw h=>cB<|tr<|kC h<|?_;replace H:=tg H M3;cases H;exact⟨rfl,h.se 2 []⟩
  refine cR (dF c5) [19] [u b1 0]<|sv (dF c5) (h.pick 1) 0<|cR (dF c5) [21,22] [Z ((O.ak.length:Nat):Int),cJ (((O.ak.length:Nat):Int)>32)]<|nv (dF c5) (cJ (((O.ak.length:Nat):Int)>32))<|I<|ez H (λc6 H=>?_) λc6 H=>?_
  ·refine aN [U]<|kA h (gK b2 #[Z 50,Z 0,Z 0] 81) λw h=>cB<|tr<|kC h<|?_;replace H:=tg H M3;cases H;exact⟨rfl,h.se 2 []⟩
  refine gD<|?_;exact λ_ r=>⟨(),gA H,r.fj (h.se 2 [1,0])⟩
 clear h r;rintro _ a w ⟨rfl,j,r,h⟩;replace H:=C0 M3;obtain⟨o8,H,Ln⟩:=CZ H;refine cY (β:=Unit) (λ_ a w=>.inl ()=o8/\∃j,kH 131 (lk [(1,u b1 0),(2,u b2 0)] j) a/\Fit z (aC (gK b1 #[aY bB O.ak.length cr] 24::gK b2 #[Z 0,Z 0,Z 0] 81::L)) w) ?_ ?_
 ·refine qq r<|gS<|wb<|λ_ r=>dQ (β:=Nat) id (λm a w=>∃g9:Int,(ja K O m g9)=some o8/\∃j,kH 131 (lk [(1,u b1 0),(2,u b2 0),(3,Z g9)] j) a/\Fit z (aC (gK b1 #[aY bB O.ak.length cr] 24::gK b2 #[Z 0,Z 0,Z 0] 81::L)) w) K ⟨0,H,r.fj h⟩<|?_;clear h r H;rintro k1 a w ⟨g9,H,j,r,h⟩;cases k1 with
  | zero=>exact absurd H (by simp[ja])
  | succ k1 =>
   rw[ja]at H;refine qq r<|wq<|aN dx<|kL h 0<|ko [Z ((O.ak.length:Nat):Int),cJ (g9<((O.ak.length:Nat):Int))]<|I<|ez H (λoh H=>?_) λoh H=>?_
   ·refine gD<|wq<|wb<|aN [U]<|kL h 0<|qg H λuR H=>bT<|kp (u (dA bB) (kg bB+g9.toNat*4)) (D8 85 cr rfl rfl be uR)<|xx (oP #[Z (J O.ak g9.toNat).aV,Z (J O.ak g9.toNat).dg,Z (J O.ak g9.toNat).bM,aY ((aI g9.toNat).1) (J O.ak g9.toNat).aq.length ((aI g9.toNat).2)]) (cs:=[Z (J O.ak g9.toNat).aV,Z (J O.ak g9.toNat).dg,Z (J O.ak g9.toNat).bM,aY ((aI g9.toNat).1) (J O.ak g9.toNat).aq.length ((aI g9.toNat).2)]) ⟨be.cell uR (h.dn 2) 0 rfl,be.cell uR (h.dn 2) 1 rfl,be.cell uR (h.dn 2) 2 rfl,be.cell uR (h.dn 2) 3 rfl,bx⟩<|?_;refine gB H λw8 XK H=>fG (uy (bt:=((aI g9.toNat).1)) (bW:=((aI g9.toNat).2)) (cK:=(bL.up 2 (be.u7 uR))) XK h :) λw h=>bT<|I<|aN [U,R (!w8)]<|I<|D5 H (λxP H=>?_) λxP H=>?_
    ·refine wk<|bn<|tn<|wl<|ko [U,Z (wi (g9+1)),Z (wi (g9+1))]<|I<|?_;exact λ_ r=>⟨_,⟨(wi (g9+1)),H,r.fj h⟩,gQ _⟩
    refine aN dx<|qh h.m1 λh=>kA h (gK b2 #[Z 51,Z g9,Z 0] 81) λw h=>cB<|br<|tr<|tr<|br<|tr<|kC h<|?_;replace H:=tg H Ln;cases H;exact⟨rfl,h.se 2 []⟩
   refine wx<|te<|te<|bh<|tn<|?_;exact λ_ r=>⟨(),gA H,r.fj h⟩
 clear h r;rintro _ a w ⟨rfl,j,r,h⟩;replace H:=C0 Ln;obtain⟨o16,H,US⟩:=CZ H;refine cY (β:=Unit) (λ_ a w=>.inl ()=o16/\∃j,kH 131 (lk [(1,u b1 0),(2,u b2 0)] j) a/\Fit z (aC (gK b1 #[aY bB O.ak.length cr] 24::gK b2 #[Z 0,Z 0,Z 0] 81::L)) w) ?_ ?_
 ·refine qq r<|gS<|wb<|λ_ r=>dQ (β:=Nat) id (λm a w=>∃mH:Int,(jc K O m mH)=some o16/\∃j,kH 131 (lk [(1,u b1 0),(2,u b2 0),(5,Z mH)] j) a/\Fit z (aC (gK b1 #[aY bB O.ak.length cr] 24::gK b2 #[Z 0,Z 0,Z 0] 81::L)) w) K ⟨0,H,r.fj h⟩<|?_;clear h r H;rintro k2 a w ⟨mH,H,j,r,h⟩;cases k2 with
  | zero=>exact absurd H (by simp[jc])
  | succ k2 =>
   rw[jc]at H;refine qq r<|wq<|aN dx<|kL h 0<|ko [Z ((O.ak.length:Nat):Int),cJ (mH<((O.ak.length:Nat):Int))]<|I<|ez H (λHG H=>?_) λHG H=>?_
   ·refine gD<|?_;obtain⟨o20,H,UT⟩:=CZ H;refine λ_ r=>cY (β:=Unit) (λ_ a w=>.inl ()=o20/\∃j,kH 131 (lk [(1,u b1 0),(2,u b2 0),(5,Z mH)] j) a/\Fit z (aC (gK b1 #[aY bB O.ak.length cr] 24::gK b2 #[Z 0,Z 0,Z 0] 81::L)) w) ?_ ?_
    ·refine qq r<|wb<|aN [U]<|kL h 0<|qg H λsj H=>bT<|kp (u (dA bB) (kg bB+mH.toNat*4)) (D8 85 cr rfl rfl be sj)<|xx (oP #[Z (J O.ak mH.toNat).aV,Z (J O.ak mH.toNat).dg,Z (J O.ak mH.toNat).bM,aY ((aI mH.toNat).1) (J O.ak mH.toNat).aq.length ((aI mH.toNat).2)]) (cs:=[Z (J O.ak mH.toNat).aV,Z (J O.ak mH.toNat).dg,Z (J O.ak mH.toNat).bM,aY ((aI mH.toNat).1) (J O.ak mH.toNat).aq.length ((aI mH.toNat).2)]) ⟨be.cell sj (h.dn 2) 0 rfl,be.cell sj (h.dn 2) 1 rfl,be.cell sj (h.dn 2) 2 rfl,be.cell sj (h.dn 2) 3 rfl,bx⟩<|?_;refine kN h (#[Z 0,Z 0,Z 0,aY none 0 0]) 85 λxR w h=>kA h (qD xR (J O.ak mH.toNat) ((aI mH.toNat).1) ((aI mH.toNat).2)) λw h=>I<|?_;obtain⟨o24,H,M4⟩:=CZ H;refine λ_ r=>cY (β:=Unit) (λ_ a w=>.inl ()=o24/\∃j,kH 131 (lk [(1,u b1 0),(2,u b2 0),(5,Z mH),(6,u xR 0)] j) a/\Fit z (aC (gK b1 #[aY bB O.ak.length cr] 24::gK b2 #[Z 0,Z 0,Z 0] 81::qD xR (J O.ak mH.toNat) ((aI mH.toNat).1) ((aI mH.toNat).2)::L)) w) ?_ ?_
     ·refine qq r<|gS<|wb<|λ_ r=>dQ (β:=Nat) id (λm a w=>∃Dj:Int,(jb K O mH m Dj)=some o24/\∃j,kH 131 (lk [(1,u b1 0),(2,u b2 0),(5,Z mH),(6,u xR 0),(7,Z Dj)] j) a/\Fit z (aC (gK b1 #[aY bB O.ak.length cr] 24::gK b2 #[Z 0,Z 0,Z 0] 81::qD xR (J O.ak mH.toNat) ((aI mH.toNat).1) ((aI mH.toNat).2)::L)) w) K ⟨0,H,r.fj (h.se 3 [1,2,0])⟩<|?_;clear h r H;rintro k3 a w ⟨Dj,H,j,r,h⟩;cases k3 with
      | zero=>exact absurd H (by simp[jb])
      | succ k3 =>
       rw[jb]at H;refine qq r<|wq<|aN dx<|kL (h.pick 2) 3<|ko [Z (((J O.ak mH.toNat).aq.length:Nat):Int),cJ (Dj<(((J O.ak mH.toNat).aq.length:Nat):Int))]<|I<|ez H (λBH H=>?_) λBH H=>?_
       ·refine gD<|wq<|wb<|wq<|qg H λqc H=>gB H λyL T7 H=>qI H (λur H=>?_) λur H=>?_
        ·refine gB H λzk M5 H=>lC [(xR,0,[Z (J O.ak mH.toNat).aV,Z (J O.ak mH.toNat).dg,Z (J O.ak mH.toNat).bM,aY ((aI mH.toNat).1) (J O.ak mH.toNat).aq.length ((aI mH.toNat).2)]),(xR,3,[aY ((aI mH.toNat).1) (J O.ak mH.toNat).aq.length ((aI mH.toNat).2)]),(dA ((aI mH.toNat).1),kg ((aI mH.toNat).1)+Dj.toNat*5,gO (J (J O.ak mH.toNat).aq Dj.toNat)),(b1,0,[aY bB O.ak.length cr]),(xR,0,[Z (J O.ak mH.toNat).aV,Z (J O.ak mH.toNat).dg,Z (J O.ak mH.toNat).bM,aY ((aI mH.toNat).1) (J O.ak mH.toNat).aq.length ((aI mH.toNat).2)]),(xR,3,[aY ((aI mH.toNat).1) (J O.ak mH.toNat).aq.length ((aI mH.toNat).2)]),(dA ((aI mH.toNat).1),kg ((aI mH.toNat).1)+Dj.toNat*5,gO (J (J O.ak mH.toNat).aq Dj.toNat))] [1,4,6,7,11,14] 19 h (λh=>⟨((h.pick 2).held 0 rfl),⟨(h.pick 2).cell 3 rfl,bx⟩,⟨(be.u7 sj).cell qc (h.dn 3) 0 rfl,(be.u7 sj).cell qc (h.dn 3) 1 rfl,(be.u7 sj).cell qc (h.dn 3) 2 rfl,(be.u7 sj).cell qc (h.dn 3) 3 rfl,(be.u7 sj).cell qc (h.dn 3) 4 rfl,bx⟩,⟨h.cell 0 rfl,bx⟩,((h.pick 2).held 0 rfl),⟨(h.pick 2).cell 3 rfl,bx⟩,⟨(be.u7 sj).cell qc (h.dn 3) 0 rfl,(be.u7 sj).cell qc (h.dn 3) 1 rfl,(be.u7 sj).cell qc (h.dn 3) 2 rfl,(be.u7 sj).cell qc (h.dn 3) 3 rfl,(be.u7 sj).cell qc (h.dn 3) 4 rfl,bx⟩,bx⟩) λw h hd =>iy hd 17 [(1,62,u xR 3),(3,64,Z Dj)]<|wL hd 0 16 0 rfl rfl<|fg hd 1 15 2 rfl<|jl hd 14 4 rfl (u (dA ((aI mH.toNat).1)) (kg ((aI mH.toNat).1)+Dj.toNat*5)) (λw=>Fa 132 ((aI mH.toNat).2) rfl rfl (be.u7 sj) qc)<|wL hd 2 13 5 rfl rfl<|lQ 6 rfl<|fG (si (bt:=((aI mH.toNat).1)) (bW:=((aI mH.toNat).2)) (cK:=(bL.up 3 (be.u7 sj))) T7 h :) λw h=>I<|uH ⟨((h.pick 2).held 0 rfl),⟨(h.pick 2).cell 3 rfl,bx⟩,⟨(be.u7 sj).cell qc (h.dn 3) 0 rfl,(be.u7 sj).cell qc (h.dn 3) 1 rfl,(be.u7 sj).cell qc (h.dn 3) 2 rfl,(be.u7 sj).cell qc (h.dn 3) 3 rfl,(be.u7 sj).cell qc (h.dn 3) 4 rfl,bx⟩,⟨h.cell 0 rfl,bx⟩,((h.pick 2).held 0 rfl),⟨(h.pick 2).cell 3 rfl,bx⟩,⟨(be.u7 sj).cell qc (h.dn 3) 0 rfl,(be.u7 sj).cell qc (h.dn 3) 1 rfl,(be.u7 sj).cell qc (h.dn 3) 2 rfl,(be.u7 sj).cell qc (h.dn 3) 3 rfl,(be.u7 sj).cell qc (h.dn 3) 4 rfl,bx⟩,bx⟩ λhd =>ju hd 10 61 [([7,8],R (!yL))]<|λ_ r=>fV hd 9 11 rfl (aX r (nT ur)) r (u xR 3)<|?_;refine λ_ r=>fV hd 8 13 rfl (aX r (nT ur)) r (Z Dj)<|?_;refine λ_ r=>elm hd 3 7 9 r (aX r (nT ur)) rfl rfl<|?_;refine λ_ r=>elm hd 4 6 10 r (aX r (nT ur)) rfl rfl<|?_;refine λ_ r=>mT hd 5 5 12 r (aX r (nT ur)) rfl rfl<|?_;refine λ_ r=>fV hd 4 14 rfl (aX r (nT ur)) r (u (dA ((aI mH.toNat).1)) (kg ((aI mH.toNat).1)+Dj.toNat*5)) (hrun:=λw=>Fa 132 ((aI mH.toNat).2) rfl rfl (be.u7 sj) qc)<|?_;refine λ_ r=>elm hd 6 3 15 r (aX r (nT ur)) rfl rfl<|?_
         refine lQ 16 rfl<|Zt (nT ur) (Ah (bB:=bB) (cr:=cr) (be:=(ym.up 3 be)) (dh:=((aI mH.toNat).1)) (dr:=((aI mH.toNat).2)) (eP:=(bL.up 3 (be.u7 sj))) (aI:=aI) M5 h :) λw h=>I<|λ_ r=>xE<|evs 1 17 rfl (aX r (nT ur)) r (R (!zk))<|?_;refine λ_ r=>evs 0 18 rfl (wn rfl) r (R (!zk)) (hrun:=λw=>nI (b:=(!yL)) rfl aK (nT ur) aK)<|?_;refine kI<|tn<|D5 H (λAz H=>?_) λAz H=>?_
         ·refine wk<|bn<|tn<|wl<|ko [U,Z (wi (Dj+1)),Z (wi (Dj+1))]<|I<|?_;exact λ_ r=>⟨_,⟨(wi (Dj+1)),H,r.fj h⟩,gQ _⟩
         refine aN lR<|qh h.m1 λh=>kA h (gK b2 #[Z 52,Z mH,Z Dj] 81) λw h=>cB<|br<|tr<|tr<|br<|tr<|br<|tr<|tr<|br<|tr<|kC h<|?_;replace H:=tg H M4;replace H:=tg H UT;replace H:=tg H US;cases H;exact⟨rfl,h.se 3 []⟩
        refine lC [(xR,0,[Z (J O.ak mH.toNat).aV,Z (J O.ak mH.toNat).dg,Z (J O.ak mH.toNat).bM,aY ((aI mH.toNat).1) (J O.ak mH.toNat).aq.length ((aI mH.toNat).2)]),(xR,3,[aY ((aI mH.toNat).1) (J O.ak mH.toNat).aq.length ((aI mH.toNat).2)]),(dA ((aI mH.toNat).1),kg ((aI mH.toNat).1)+Dj.toNat*5,gO (J (J O.ak mH.toNat).aq Dj.toNat))] [1,4] 19 h (λh=>⟨((h.pick 2).held 0 rfl),⟨(h.pick 2).cell 3 rfl,bx⟩,⟨(be.u7 sj).cell qc (h.dn 3) 0 rfl,(be.u7 sj).cell qc (h.dn 3) 1 rfl,(be.u7 sj).cell qc (h.dn 3) 2 rfl,(be.u7 sj).cell qc (h.dn 3) 3 rfl,(be.u7 sj).cell qc (h.dn 3) 4 rfl,bx⟩,bx⟩) λw h hd =>iy hd 17 [(1,62,u xR 3),(3,64,Z Dj)]<|wL hd 0 16 0 rfl rfl<|fg hd 1 15 2 rfl<|jl hd 14 4 rfl (u (dA ((aI mH.toNat).1)) (kg ((aI mH.toNat).1)+Dj.toNat*5)) (λw=>Fa 132 ((aI mH.toNat).2) rfl rfl (be.u7 sj) qc)<|wL hd 2 13 5 rfl rfl<|lQ 6 rfl<|fG (si (bt:=((aI mH.toNat).1)) (bW:=((aI mH.toNat).2)) (cK:=(bL.up 3 (be.u7 sj))) T7 h :) λw h=>I<|mJ<|iS 11 7 rfl (R (!yL))<|iS 10 8 rfl (R (!yL))<|λ_ r=>Wl 9 11 rfl (aX r (nF ur)) r<|?_;refine λ_ r=>Wl 8 13 rfl (aX r (nF ur)) r<|?_;refine λ_ r=>Wl 7 9 rfl (aX r (nF ur)) r<|?_;refine λ_ r=>Wl 6 10 rfl (aX r (nF ur)) r<|?_;refine λ_ r=>Wl 5 12 rfl (aX r (nF ur)) r<|?_;refine λ_ r=>Wl 4 14 rfl (aX r (nF ur)) r<|?_;refine λ_ r=>Wl 3 15 rfl (aX r (nF ur)) r<|?_;refine λ_ r=>lI 16 rfl<|acR (aX r (nF ur)) r<|?_;refine I<|λ_ r=>xE<|Wl 1 17 rfl (aX r (nF ur)) r<|?_;refine λ_ r=>evs 0 18 rfl (wn rfl) r (R true) (hrun:=λw=>qX (b:=(!yL)) rfl aK (nF ur) aK)<|?_;refine kI<|tn<|λ_ r=>dX r (b:=true) rfl<|qq r<|aN lR<|qh h.m1 λh=>kA h (gK b2 #[Z 52,Z mH,Z Dj] 81) λw h=>cB<|br<|tr<|tr<|br<|tr<|br<|tr<|tr<|br<|tr<|kC h<|?_;replace H:=tg H M4;replace H:=tg H UT;replace H:=tg H US;cases H;exact⟨rfl,h.se 3 []⟩
       refine wx<|te<|te<|bh<|tn<|?_;exact λ_ r=>⟨(),gA H,r.fj h⟩
     clear h r;rintro _ a w ⟨rfl,j,r,h⟩;replace H:=C0 M4;refine qq r<|ks<|kM (h.pick 2)<|gB H λsw Jv H=>fG (vP (bt:=((aI mH.toNat).1)) (bW:=((aI mH.toNat).2)) (cK:=(bL.up 3 (be.u7 sj))) Jv h :) λw h=>bT<|I<|aN [U,R (!sw)]<|I<|D5 H (λyo H=>?_) λyo H=>?_
     ·refine wk<|bn<|tn<|?_;exact λ_ r=>⟨(),gA H,r.fj (h.se 3 [0,1])⟩
     refine aN dx<|kL (h.pick 2) 3<|ko [Z (((J O.ak mH.toNat).aq.length:Nat):Int),Z (wi ((((J O.ak mH.toNat).aq.length:Nat):Int)-1)),oP #[Z 53,Z mH,Z (wi ((((J O.ak mH.toNat).aq.length:Nat):Int)-1))]]<|qh h.m1 λh=>kA h (gK b2 #[Z 53,Z mH,Z (wi ((((J O.ak mH.toNat).aq.length:Nat):Int)-1))] 81) λw h=>cB<|br<|tr<|tr<|br<|tr<|kC h<|?_;replace H:=tg H UT;replace H:=tg H US;cases H;exact⟨rfl,h.se 3 []⟩
    clear h r;rintro _ a w ⟨rfl,j,r,h⟩;replace H:=C0 UT;refine qq r<|wl<|ko [U,Z (wi (mH+1)),Z (wi (mH+1))]<|I<|?_;exact λ_ r=>⟨_,⟨(wi (mH+1)),H,r.fj h⟩,gQ _⟩
   refine wx<|te<|te<|bh<|tn<|?_;exact λ_ r=>⟨(),gA H,r.fj h⟩
 clear h r;rintro _ a w ⟨rfl,j,r,h⟩;replace H:=C0 US;refine qq r<|wq<|gS<|wb<|λ_ r=>dQ (β:=Nat) id (λm a w=>∃nO:Int,(jY K O m nO)=some r0/\∃j,kH 131 (lk [(1,u b1 0),(2,u b2 0),(9,Z nO)] j) a/\Fit z (aC (gK b1 #[aY bB O.ak.length cr] 24::gK b2 #[Z 0,Z 0,Z 0] 81::L)) w) K ⟨0,H,r.fj h⟩<|?_;clear h r H;rintro k4 a w ⟨nO,H,j,r,h⟩;cases k4 with
 | zero=>exact absurd H (by simp[jY])
 | succ k4 =>
  rw[jY]at H;refine qq r<|wq<|aN dx<|kL h 0<|ko [Z ((O.ak.length:Nat):Int),cJ (nO<((O.ak.length:Nat):Int))]<|I<|ez H (λGA H=>?_) λGA H=>?_
  ·refine gD<|?_;obtain⟨o40,H,aaP⟩:=CZ H;refine λ_ r=>cY (β:=Unit) (λ_ a w=>.inl ()=o40/\∃j,kH 131 (lk [(1,u b1 0),(2,u b2 0),(9,Z nO)] j) a/\Fit z (aC (gK b1 #[aY bB O.ak.length cr] 24::gK b2 #[Z 0,Z 0,Z 0] 81::L)) w) ?_ ?_
   ·refine qq r<|wb<|aN [U]<|kL h 0<|qg H λxb H=>bT<|kp (u (dA bB) (kg bB+nO.toNat*4)) (D8 85 cr rfl rfl be xb)<|xx (oP #[Z (J O.ak nO.toNat).aV,Z (J O.ak nO.toNat).dg,Z (J O.ak nO.toNat).bM,aY ((aI nO.toNat).1) (J O.ak nO.toNat).aq.length ((aI nO.toNat).2)]) (cs:=[Z (J O.ak nO.toNat).aV,Z (J O.ak nO.toNat).dg,Z (J O.ak nO.toNat).bM,aY ((aI nO.toNat).1) (J O.ak nO.toNat).aq.length ((aI nO.toNat).2)]) ⟨be.cell xb (h.dn 2) 0 rfl,be.cell xb (h.dn 2) 1 rfl,be.cell xb (h.dn 2) 2 rfl,be.cell xb (h.dn 2) 3 rfl,bx⟩<|?_;refine kN h (#[Z 0,Z 0,Z 0,aY none 0 0]) 85 λb42 w h=>kA h (qD b42 (J O.ak nO.toNat) ((aI nO.toNat).1) ((aI nO.toNat).2)) λw h=>I<|ks<|kM h<|gB H λLl e44 H=>Wr (BQ (bt:=((aI nO.toNat).1)) (bW:=((aI nO.toNat).2)) (cK:=(bL.up 3 (be.u7 xb))) e44 h :) λUU x46 w h=>bT<|I<|gS<|wb<|λ_ r=>dQ (β:=Nat) id (λm a w=>∃rV:Int,(jd K O nO Ll m rV)=some o40/\∃j,kH 131 (lk [(1,u b1 0),(2,u b2 0),(9,Z nO),(10,u b42 0),(11,aY UU Ll.length x46),(12,Z rV)] j) a/\Fit z (aC (gK b1 #[aY bB O.ak.length cr] 24::gK b2 #[Z 0,Z 0,Z 0] 81::qD b42 (J O.ak nO.toNat) ((aI nO.toNat).1) ((aI nO.toNat).2)::Jq UU x46 Ll::L)) w) K ⟨0,H,r.fj (h.se 4 [2,3,1,0])⟩<|?_;clear h r H;rintro k5 a w ⟨rV,H,j,r,h⟩;cases k5 with
    | zero=>exact absurd H (by simp[jd])
    | succ k5 =>
     rw[jd]at H;refine qq r<|wq<|aN dx<|kL (h.pick 2) 3<|ko [Z (((J O.ak nO.toNat).aq.length:Nat):Int),cJ (rV<(((J O.ak nO.toNat).aq.length:Nat):Int))]<|I<|ez H (λCE H=>?_) λCE H=>?_
     ·refine gD<|wq<|wb<|wq<|qg H λFb H=>qg H λCq H=>?_;obtain⟨ae2,h⟩:=h.m3.mu (aS Cq);obtain⟨Ff,Fg,e53,h⟩:=nn (h.m1);subst e53;refine gB H λLm e56 H=>lC [(b42,3,[aY ((aI nO.toNat).1) (J O.ak nO.toNat).aq.length ((aI nO.toNat).2)]),(dA ((aI nO.toNat).1),kg ((aI nO.toNat).1)+rV.toNat*5,gO (J (J O.ak nO.toNat).aq rV.toNat)),(dA UU,rV.toNat*1,[aY Ff (J Ll rV.toNat).length Fg])] [0,3,7] 11 h (λh=>⟨⟨(h.pick 4).cell 3 rfl,bx⟩,⟨(be.u7 xb).cell Fb (h.dn 5) 0 rfl,(be.u7 xb).cell Fb (h.dn 5) 1 rfl,(be.u7 xb).cell Fb (h.dn 5) 2 rfl,(be.u7 xb).cell Fb (h.dn 5) 3 rfl,(be.u7 xb).cell Fb (h.dn 5) 4 rfl,bx⟩,⟨(h.pick 1).oO eL (f:=0) rfl,bx⟩,bx⟩) λw h hd =>ju hd 7 114 [([0],u b42 3),([2],Z rV),([5],aY UU Ll.length x46),([6],Z rV)]<|jl hd 6 7 rfl (mw UU rV 1) (λw=>vY (k:=.i64) (E:=28) rfl aK aK aK aK (h.pick 1) Cq)<|fg hd 0 5 1 rfl<|jl hd 4 3 rfl (u (dA ((aI nO.toNat).1)) (kg ((aI nO.toNat).1)+rV.toNat*5)) (λw=>Fa 132 ((aI nO.toNat).2) rfl rfl (be.u7 xb) Fb)<|wL hd 1 3 4 rfl rfl<|fg hd 2 2 8 rfl<|lQ 9 rfl<|fG (xQ (Kl:=Ff) (Lj:=Fg) (Kk:=(bL.Gd aE h (λh=>h))) e56 h :) λw h=>I<|mJ<|iS 0 10 rfl (Z Lm)<|kI<|tn<|aN [U,R (Lm != 0)]<|I<|qB H (λLo H=>?_) λLo H=>?_
      ·refine wk<|bn<|tn<|wl<|ko [U,Z (wi (rV+1)),Z (wi (rV+1))]<|I<|?_;replace h:=iH (x:=(J Ll rV.toNat)) h;replace h:=(h.m1).iv;exact λ_ r=>⟨_,⟨(wi (rV+1)),H,r.fj (h.se 4 [1,2,3,0])⟩,gQ _⟩
      refine aN wA<|qh h.m3 λh=>kA h (gK b2 #[Z Lm,Z nO,Z rV] 81) λw h=>cB<|br<|tr<|tr<|br<|br<|tr<|tr<|br<|tr<|kC h<|qh h.m2.m2 λh=>?_;replace h:=iH (x:=(J Ll rV.toNat)) h;replace h:=(h.m1).iv;replace H:=tg H aaP;cases H;exact⟨rfl,h.se 4 []⟩
     refine wx<|te<|te<|bh<|bn<|tn<|?_;exact λ_ r=>⟨(),gA H,r.fj (h.se 4 [0,1])⟩
   clear h r;rintro _ a w ⟨rfl,j,r,h⟩;replace H:=C0 aaP;refine qq r<|wl<|ko [U,Z (wi (nO+1)),Z (wi (nO+1))]<|I<|?_;exact λ_ r=>⟨_,⟨(wi (nO+1)),H,r.fj h⟩,gQ _⟩
  refine wx<|te<|te<|bh<|tn<|aN [U]<|qh h.m1 λh=>kA h (gK b2 #[Z 0,Z 0,Z 0] 81) λw h=>cB<|kC h<|?_;cases H;exact⟨rfl,h.se 2 []⟩
def nq(K:Nat)(O:aM)(Y:List Int)(p2:Int)(p3:eM):Option (Int):=
 eY (oZ K O) (λr3=>(if r3.OA=0 then if bI (0:Int) O.ak.length then(if((Y.length:Nat):Int)=(J O.ak 0).aV then(if p2<1 then some 110 else(if p2>64 then some 110 else eY (kq p3) (λvC=>(if vC=true then some 111 else some 0))))else some 61)else none else some 60))
theorem yM(H:nq K O Y p2 p3=some r0)(h:jh z (L) w)(be:BN L bB aI O.ak)(Kk:bL L 1 ck Kl Y) :
 nV 14 #[oP #[aY bB O.ak.length cr],aY Kl Y.length Lj,Z p2,j8 p3] w z (Z r0) (L):=by
 unfold nq at H;refine ke func14 35 rfl λj=>ks<|kN h (#[aY bB O.ak.length cr]) 24 λb1 w h=>kN h (lz p3) 27 λb2 w h=>bT<|I<|ks<|xx (oP #[aY bB O.ak.length cr]) (cs:=[aY bB O.ak.length cr]) ⟨(h.pick 1).cell 0 rfl,bx⟩<|?_;refine gB H λr3 e4 H=>fG (Bb (bB:=bB) (cr:=cr) (be:=(ym.up 2 be)) (aI:=aI) e4 h :) λw h=>kN h (#[Z 0,Z 0,Z 0]) 81 λb5 w h=>kA h (ac3 b5 r3) λw h=>I<|wq<|wb<|aN [U]<|kL h 0<|ko [R (r3.OA != 0),R (r3.OA != 0)]<|I<|qB H (λc6 H=>?_) λc6 H=>?_
 ·refine aN [U,Z ((Y.length:Nat):Int),U]<|kL (h.pick 2) 0<|qg H λc7 H=>kp (u (dA bB) (kg bB+0*4)) (D8 85 cr rfl rfl be c7)<|bT<|yY (Z (J O.ak 0).aV) (be.cell c7 (h.dn 3) 0 rfl)<|?_;refine ko [R (((Y.length:Nat):Int) != (J O.ak 0).aV),R (((Y.length:Nat):Int) != (J O.ak 0).aV)]<|I<|qB H (λc8 H=>?_) λc8 H=>?_
  ·refine aN [U,cJ (p2<1),cJ (p2<1)]<|qI H (λc9 H=>?_) λc9 H=>?_
   ·refine bU (dT c9) [29,30]<|ny (dT c9) (R true)<|bT<|I<|λ_ r=>dX r (b:=true) rfl<|qq r<|gS<|wr<|br<|tr<|?_;cases H;exact gC (h.se 3 [])
   refine cR (dF c9) [29,30] [Z p2,cJ (p2>64)]<|nv (dF c9) (cJ (p2>64))<|ko [cJ (p2>64)]<|I<|ez H (λoh H=>?_) λoh H=>?_
   ·refine gS<|wr<|br<|tr<|?_;cases H;exact gC (h.se 3 [])
   refine ks<|kM (h.pick 1)<|gB H λvC D9 H=>fG (xe D9 h :) λw h=>bT<|I<|FJ H (λyI H=>?_) λyI H=>?_
   ·refine gS<|wr<|br<|tr<|?_;cases H;exact gC (h.se 3 [])
   refine wk<|bn<|tn<|gS<|wr<|?_;cases H;exact gC (h.se 3 [])
  refine gS<|wr<|br<|tr<|?_;cases H;exact gC (h.se 3 [])
 refine gS<|wr<|br<|tr<|?_;cases H;exact gC (h.se 3 [])
def ua(O:aD):Option (Bool):=
 xp ((if O.aV<0 then some (.inr false)else(if O.aV>8 then some (.inr false)else(if O.dg<1 then some (.inr false)else(if O.dg<O.aV then some (.inr false)else(if O.dg>16 then some (.inr false)else some (.inl ()))))))) ((if O.bM>=0 then(if O.bM<=8 then(if((O.aq.length:Nat):Int)>=1 then some (decide (((O.aq.length:Nat):Int)<=512))else some false)else some false)else some false))
theorem Fh(H:ua O=some r0)(h:jh z (L) w)(cK:bL L 5 cT bt O.aq) :
 nV 88 #[oP #[Z O.aV,Z O.dg,Z O.bM,aY bt O.aq.length bW]] w z (R r0) (L):=by
 unfold ua at H;refine ke func88 48 rfl λj=>ks<|kN h (#[Z O.aV,Z O.dg,Z O.bM,aY bt O.aq.length bW]) 85 λb1 w h=>bT<|I<|?_;obtain⟨o3,H,EU⟩:=CZ H;refine λ_ r=>cY (β:=Unit) (λ_ a w=>.inl ()=o3/\∃j,kH 48 (lk [(1,u b1 0)] j) a/\Fit z (aC (qD b1 O bt bW::L)) w) ?_ ?_
 ·refine qq r<|aN [U]<|kL h 0<|ko [cJ (O.aV<0),cJ (O.aV<0)]<|qI H (λc4 H=>?_) λc4 H=>?_
  ·refine bU (dT c4) [7,8,9]<|ny (dT c4) (R true)<|bT<|bU (rfl:true=true) [12,13,14]<|ko dx<|bU (rfl:true=true) [17,18,19,20,21]<|ko dx<|bU (rfl:true=true) [24,25,26]<|bT<|I<|λ_ r=>dX r (b:=true) rfl<|qq r<|gS<|wr<|tr<|λ_ r=>oa (R false) rfl r<|?_;replace H:=tg H EU;cases H;exact⟨rfl,h.se 1 []⟩
  refine cR (dF c4) [7] [u b1 0]<|sv (dF c4) h 0<|cR (dF c4) [9] [cJ (O.aV>8)]<|nv (dF c4) (cJ (O.aV>8))<|ko [cJ (O.aV>8)]<|qI H (λc5 H=>?_) λc5 H=>?_
  ·refine bU (dT c5) [12,13,14]<|ny (dT c5) (R true)<|bT<|bU (rfl:true=true) [17,18,19,20,21]<|ko dx<|bU (rfl:true=true) [24,25,26]<|bT<|I<|λ_ r=>dX r (b:=true) rfl<|qq r<|gS<|wr<|tr<|λ_ r=>oa (R false) rfl r<|?_;replace H:=tg H EU;cases H;exact⟨rfl,h.se 1 []⟩
  refine cR (dF c5) [12] [u b1 1]<|sv (dF c5) h 1<|cR (dF c5) [14] [cJ (O.dg<1)]<|nv (dF c5) (cJ (O.dg<1))<|ko [cJ (O.dg<1)]<|qI H (λc6 H=>?_) λc6 H=>?_
  ·refine bU (dT c6) [17,18,19,20,21]<|ny (dT c6) (R true)<|bT<|bU (rfl:true=true) [24,25,26]<|bT<|I<|λ_ r=>dX r (b:=true) rfl<|qq r<|gS<|wr<|tr<|λ_ r=>oa (R false) rfl r<|?_;replace H:=tg H EU;cases H;exact⟨rfl,h.se 1 []⟩
  refine cR (dF c6) [17] [u b1 1]<|sv (dF c6) h 1<|cR (dF c6) [19] [u b1 0]<|sv (dF c6) h 0<|cR (dF c6) [21] [cJ (O.dg<O.aV)]<|nv (dF c6) (cJ (O.dg<O.aV))<|ko [cJ (O.dg<O.aV)]<|qI H (λc7 H=>?_) λc7 H=>?_
  ·refine bU (dT c7) [24,25,26]<|ny (dT c7) (R true)<|I<|λ_ r=>dX r (b:=true) rfl<|qq r<|gS<|wr<|tr<|λ_ r=>oa (R false) rfl r<|?_;replace H:=tg H EU;cases H;exact⟨rfl,h.se 1 []⟩
  refine cR (dF c7) [24] [u b1 1]<|sv (dF c7) h 1<|cR (dF c7) [26] [cJ (O.dg>16)]<|nv (dF c7) (cJ (O.dg>16))<|I<|ez H (λc8 H=>?_) λc8 H=>?_
  ·refine gS<|wr<|tr<|λ_ r=>oa (R false) rfl r<|?_;replace H:=tg H EU;cases H;exact⟨rfl,h.se 1 []⟩
  refine gD<|?_;exact λ_ r=>⟨(),gA H,r.fj h⟩
 clear h r;rintro _ a w ⟨rfl,j,r,h⟩;replace H:=C0 EU;refine qq r<|aN [U]<|kL h 2<|ko [cJ (O.bM>=0),cJ (O.bM>=0)]<|qI H (λc9 H=>?_) λc9 H=>?_
 ·refine cR (dT c9) [32] [u b1 2]<|sv (dT c9) h 2<|cR (dT c9) [34] [cJ (O.bM<=8)]<|ny (dT c9) (cJ (O.bM<=8))<|ko [cJ (O.bM<=8)]<|qI H (λoh H=>?_) λoh H=>?_
  ·refine cR (dT oh) [37] [u b1 3]<|sv (dT oh) h 3<|cR (dT oh) [39,40] [Z ((O.aq.length:Nat):Int),cJ (((O.aq.length:Nat):Int)>=1)]<|ny (dT oh) (cJ (((O.aq.length:Nat):Int)>=1))<|ko [cJ (((O.aq.length:Nat):Int)>=1)]<|qI H (λuR H=>?_) λuR H=>?_
   ·refine cR (dT uR) [43] [u b1 3]<|sv (dT uR) h 3<|cR (dT uR) [45,46] [Z ((O.aq.length:Nat):Int),cJ (((O.aq.length:Nat):Int)<=512)]<|ny (dT uR) (cJ (((O.aq.length:Nat):Int)<=512))<|ko [cJ (((O.aq.length:Nat):Int)<=512)]<|cB<|?_;cases H;exact gC (h.se 1 [])
   refine bU (dF uR) [43,44,45,46]<|nv (dF uR) (R false)<|bT<|cB<|?_;cases H;exact gC (h.se 1 [])
  refine bU (dF oh) [37,38,39,40]<|nv (dF oh) (R false)<|bT<|bU (rfl:false=false) [43,44,45,46]<|ko dx<|cB<|?_;cases H;exact gC (h.se 1 [])
 refine bU (dF c9) [32,33,34]<|nv (dF c9) (R false)<|bT<|bU (rfl:false=false) [37,38,39,40]<|ko dx<|bU (rfl:false=false) [43,44,45,46]<|ko dx<|cB<|?_;cases H;exact gC (h.se 1 [])
def wB(O:Int)(Y:Int)(p2:aD)(p3:Int):Option (Bool):=
 (if O=0 then some true else(if O=1 then(if Y>=0 then some (decide (Y<p2.dg))else some false)else(if O=2 then(if Y>=0 then some (decide (Y<p2.bM))else some false)else(if O=3 then(if Y>=0 then some (decide (Y<((p2.aq.length:Nat):Int)))else some false)else(if O=5 then(if Y>=0 then some (decide (Y<16))else some false)else(if O=4 then(if p3<0 then some true else(if Y>=0 then some (decide (Y<p3))else some false))else(if Y>=0 then some (decide (Y<0))else some false)))))))
theorem zm(H:wB O Y p2 p3=some r0)(h:jh z (L) w)(GB:bL L 5 cT Bc p2.aq) :
 nV 147 #[Z O,Z Y,oP #[Z p2.aV,Z p2.dg,Z p2.bM,aY Bc p2.aq.length Dk],Z p3] w z (R r0) (L):=by
 unfold wB at H;refine ke func147 40 rfl λj=>ks<|kN h (#[Z p2.aV,Z p2.dg,Z p2.bM,aY Bc p2.aq.length Dk]) 85 λb1 w h=>bT<|I<|gS<|wq<|gS<|wb<|aN [R (O==0),R (O==0)]<|I<|ez H (λc2 H=>?_) λc2 H=>?_
 ·refine gS<|wr<|br<|tr<|?_;cases H;exact gC (h.se 1 [])
 refine aN [R (O==1),R (O==1)]<|I<|ez H (λc3 H=>?_) λc3 H=>?_
 ·refine wl<|bT<|kL h 1<|bT<|kl<|bn<|tn<|aN [U,cJ (Y>=0),cJ (Y>=0)]<|qI H (λc4 H=>?_) λc4 H=>?_
  ·refine cR (dT c4) [36,37,38] [Z Y,Z p2.dg,cJ (Y<p2.dg)]<|ny (dT c4) (cJ (Y<p2.dg))<|ko [cJ (Y<p2.dg)]<|cB<|?_;cases H;exact gC (h.se 1 [])
  refine bU (dF c4) [36,37,38]<|nv (dF c4) (R false)<|bT<|cB<|?_;cases H;exact gC (h.se 1 [])
 refine aN [R (O==2),R (O==2)]<|I<|ez H (λc5 H=>?_) λc5 H=>?_
 ·refine wl<|bT<|kL h 2<|bT<|kl<|bn<|tn<|aN [U,cJ (Y>=0),cJ (Y>=0)]<|qI H (λc6 H=>?_) λc6 H=>?_
  ·refine cR (dT c6) [36,37,38] [Z Y,Z p2.bM,cJ (Y<p2.bM)]<|ny (dT c6) (cJ (Y<p2.bM))<|ko [cJ (Y<p2.bM)]<|cB<|?_;cases H;exact gC (h.se 1 [])
  refine bU (dF c6) [36,37,38]<|nv (dF c6) (R false)<|bT<|cB<|?_;cases H;exact gC (h.se 1 [])
 refine aN [R (O==3),R (O==3)]<|I<|ez H (λc7 H=>?_) λc7 H=>?_
 ·refine wl<|bT<|kL h 3<|ko [Z ((p2.aq.length:Nat):Int),Z ((p2.aq.length:Nat):Int)]<|kl<|bn<|tn<|aN [U,cJ (Y>=0),cJ (Y>=0)]<|qI H (λc8 H=>?_) λc8 H=>?_
  ·refine cR (dT c8) [36,37,38] [Z Y,Z ((p2.aq.length:Nat):Int),cJ (Y<((p2.aq.length:Nat):Int))]<|ny (dT c8) (cJ (Y<((p2.aq.length:Nat):Int)))<|ko [cJ (Y<((p2.aq.length:Nat):Int))]<|cB<|?_;cases H;exact gC (h.se 1 [])
  refine bU (dF c8) [36,37,38]<|nv (dF c8) (R false)<|bT<|cB<|?_;cases H;exact gC (h.se 1 [])
 refine aN [R (O==5),R (O==5)]<|I<|ez H (λc9 H=>?_) λc9 H=>?_
 ·refine wl<|bT<|kl<|bn<|tn<|aN [U,cJ (Y>=0),cJ (Y>=0)]<|qI H (λoh H=>?_) λoh H=>?_
  ·refine cR (dT oh) [36,37,38] [Z Y,Z 16,cJ (Y<16)]<|ny (dT oh) (cJ (Y<16))<|ko [cJ (Y<16)]<|cB<|?_;cases H;exact gC (h.se 1 [])
  refine bU (dF oh) [36,37,38]<|nv (dF oh) (R false)<|bT<|cB<|?_;cases H;exact gC (h.se 1 [])
 refine aN [R (O==4),R (O==4)]<|I<|ez H (λuR H=>?_) λuR H=>?_
 ·refine wq<|aN [U,cJ (p3<0)]<|I<|ez H (λCD H=>?_) λCD H=>?_
  ·refine gS<|wr<|tr<|br<|tr<|?_;cases H;exact gC (h.se 1 [])
  refine gD<|wl<|ko dx<|kl<|bn<|tn<|aN [U,cJ (Y>=0),cJ (Y>=0)]<|qI H (λyI H=>?_) λyI H=>?_
  ·refine cR (dT yI) [36,37,38] [Z Y,Z p3,cJ (Y<p3)]<|ny (dT yI) (cJ (Y<p3))<|ko [cJ (Y<p3)]<|cB<|?_;cases H;exact gC (h.se 1 [])
  refine bU (dF yI) [36,37,38]<|nv (dF yI) (R false)<|bT<|cB<|?_;cases H;exact gC (h.se 1 [])
 refine wk<|bn<|tn<|aN [U,cJ (Y>=0),cJ (Y>=0)]<|qI H (λxP H=>?_) λxP H=>?_
 ·refine cR (dT xP) [36,37,38] [Z Y,Z 0,cJ (Y<0)]<|ny (dT xP) (cJ (Y<0))<|ko [cJ (Y<0)]<|cB<|?_;cases H;exact gC (h.se 1 [])
 refine bU (dF xP) [36,37,38]<|nv (dF xP) (R false)<|bT<|cB<|?_;cases H;exact gC (h.se 1 [])
def uc(O:cx)(Y:aD)(p2:List aD):Option (Bool):=
 xp ((if O.aL<0 then some (.inr false)else(if O.aL>=10 then some (.inr false)else some (.inl ())))) (if bI O.aL w6.length then MR (if 0<p2.length then some ()else none) (xp (eY (wB (J w6 O.aL.toNat).a O.A Y ((p2.length:Nat):Int)) (λiU=>(if iU=true then eY (wB (J w6 O.aL.toNat).b O.B Y ((p2.length:Nat):Int)) (λBR=>(if BR=true then eY (wB (J w6 O.aL.toNat).c O.C Y ((p2.length:Nat):Int)) (λzn=>(if zn=true then some (.inl ())else some (.inr false)))else some (.inr false)))else some (.inr false)))) (xp ((if(J w6 O.aL.toNat).k=5 then(if O.K<0 then some (.inr false)else(if O.K>=16 then some (.inr false)else some (.inl ())))else some (.inl ()))) (eY ((if O.aL=5 then if 0<p2.length then some true else none else some false)) (λg28=>(if g28=true then if bI O.B p2.length then(if(J p2 O.B.toNat).aV=0 then some true else(if O.C>=0 then some (decide (O.C<=(wi (Y.dg-(J p2 O.B.toNat).aV))))else some false))else none else some true)))))else none)
end
noncomputable section
variable {z w:World}{L:List bj}
theorem zY(H:uc O Y p2=some r0)(h:jh z (L) w)(eP:bL L 5 cT dh Y.aq)(Fi:BN L xS T8 p2)(uu:bL L 5 gJ (some ⟨1,0,none⟩) w6) :
 nV 122 #[iO O,oP #[Z Y.aV,Z Y.dg,Z Y.bM,aY dh Y.aq.length dr],aY xS p2.length yN] w z (R r0) (L):=by
 unfold uc at H;refine ke func122 96 rfl λj=>ks<|kN h (nk O) 132 λb1 w h=>kN h (#[Z Y.aV,Z Y.dg,Z Y.bM,aY dh Y.aq.length dr]) 85 λb2 w h=>bT<|I<|?_;obtain⟨o4,H,M3⟩:=CZ H;refine λ_ r=>cY (β:=Unit) (λ_ a w=>.inl ()=o4/\∃j,kH 96 (lk [(2,aY xS p2.length yN),(3,u b1 0),(4,u b2 0)] j) a/\Fit z (aC (wN b1 O::qD b2 Y dh dr::L)) w) ?_ ?_
 ·refine qq r<|aN [U]<|kL (h.pick 1) 0<|ko [cJ (O.aL<0),cJ (O.aL<0)]<|qI H (λc5 H=>?_) λc5 H=>?_
  ·refine bU (dT c5) [14,15,16]<|ny (dT c5) (R true)<|I<|λ_ r=>dX r (b:=true) rfl<|qq r<|gS<|wr<|tr<|λ_ r=>oa (R false) rfl r<|?_;replace H:=tg H M3;cases H;exact⟨rfl,h.se 2 []⟩
  refine cR (dF c5) [14] [u b1 0]<|sv (dF c5) (h.pick 1) 0<|cR (dF c5) [16] [cJ (O.aL>=10)]<|nv (dF c5) (cJ (O.aL>=10))<|I<|ez H (λc6 H=>?_) λc6 H=>?_
  ·refine gS<|wr<|tr<|λ_ r=>oa (R false) rfl r<|?_;replace H:=tg H M3;cases H;exact⟨rfl,h.se 2 []⟩
  refine gD<|?_;exact λ_ r=>⟨(),gA H,r.fj (h.se 2 [1,0])⟩
 clear h r;rintro _ a w ⟨rfl,j,r,h⟩;replace H:=C0 M3;refine qq r<|aN [U]<|kL h 0<|qg H λc7 H=>kp (u (dA (some ⟨1,0,none⟩)) (O.aL.toNat*5)) (MT (xs:=w6) (k:=.i64) (E:=215) rfl aK aK aK aK rfl c7)<|xx (Js (J w6 O.aL.toNat)) (cs:=Jr (J w6 O.aL.toNat)) ⟨uu.Gm c7 (h.dn 2) 0 rfl,uu.Gm c7 (h.dn 2) 1 rfl,uu.Gm c7 (h.dn 2) 2 rfl,uu.Gm c7 (h.dn 2) 3 rfl,uu.Gm c7 (h.dn 2) 4 rfl,bx⟩<|?_;refine kN h (#[Z 0,Z 0,Z 0,Z 0,R false]) 215 λb8 w h=>kA h (Se b8 (J w6 O.aL.toNat)) λw h=>I<|aN [U,Z ((p2.length:Nat):Int),Z ((p2.length:Nat):Int)]<|I<|qd0 H λo10 H hK9=>λ_ r=>cY (β:=Unit) (λ_ a w=>()=o10/\∃j,kH 96 (lk [(2,aY xS p2.length yN),(3,u b1 0),(4,u b2 0),(7,u b8 0),(8,Z ((p2.length:Nat):Int))] j) a/\Fit z (aC (wN b1 O::qD b2 Y dh dr::Se b8 (J w6 O.aL.toNat)::L)) w) ?_ ?_
 ·refine qq r<|ks<|qg H λuR H=>bT<|kp (R false) (UB (n0:=p2.length) (cc:=yN) rfl aK aK (E:=85) aK (Fi.ne uR))<|I<|λ_ r=>iT r (b:=false) rfl<|qq r<|gD<|?_;exact λ_ r=>⟨(),gA H,r.fj (h.se 3 [1,2,0])⟩
 clear h r;rintro _ a w ⟨rfl,j,r,h⟩;replace H:=kk0 hK9;obtain⟨o13,H,UW⟩:=CZ H;refine cY (β:=Unit) (λ_ a w=>.inl ()=o13/\∃j,kH 96 (lk [(2,aY xS p2.length yN),(3,u b1 0),(4,u b2 0),(7,u b8 0)] j) a/\Fit z (aC (wN b1 O::qD b2 Y dh dr::Se b8 (J w6 O.aL.toNat)::L)) w) ?_ ?_
 ·refine qq r<|aN [U]<|kL (h.pick 2) 0<|bT<|kL h 1<|kM (h.pick 1)<|gB H λiU Jx H=>ko [Z ((p2.length:Nat):Int)]<|fG (zm (Bc:=dh) (Dk:=dr) (GB:=(bL.up 3 eP)) Jx h :) λw h=>ko [R (!iU),R (!iU)]<|qI H (λxg H=>?_) λxg H=>?_
  ·refine cR (nT xg) [35] [u b8 1]<|sv (nT xg) (h.pick 2) 1<|cR (nT xg) [37] [u b1 2]<|sv (nT xg) h 2<|λ_ r=>ldm (aX r (nT xg)) r (oP #[Z Y.aV,Z Y.dg,Z Y.bM,aY dh Y.aq.length dr]) (cs:=[Z Y.aV,Z Y.dg,Z Y.bM,aY dh Y.aq.length dr]) ((h.pick 1).held 0 rfl)<|?_;refine gB H λBR Di H=>cR (nT xg) [40] [Z ((p2.length:Nat):Int)]<|Zt (nT xg) (zm (Bc:=dh) (Dk:=dr) (GB:=(bL.up 3 eP)) Di h :) λw h=>cR (nT xg) [42] [R (!BR)]<|nv (nT xg) (R (!BR))<|ko [R (!BR)]<|qI H (λtu H=>?_) λtu H=>?_
   ·refine cR (nT tu) [45] [u b8 2]<|sv (nT tu) (h.pick 2) 2<|cR (nT tu) [47] [u b1 3]<|sv (nT tu) h 3<|λ_ r=>ldm (aX r (nT tu)) r (oP #[Z Y.aV,Z Y.dg,Z Y.bM,aY dh Y.aq.length dr]) (cs:=[Z Y.aV,Z Y.dg,Z Y.bM,aY dh Y.aq.length dr]) ((h.pick 1).held 0 rfl)<|?_;refine gB H λzn Lp H=>cR (nT tu) [50] [Z ((p2.length:Nat):Int)]<|Zt (nT tu) (zm (Bc:=dh) (Dk:=dr) (GB:=(bL.up 3 eP)) Lp h :) λw h=>cR (nT tu) [52] [R (!zn)]<|nv (nT tu) (R (!zn))<|I<|D5 H (λDg H=>?_) λDg H=>?_
    ·refine gD<|?_;exact λ_ r=>⟨(),gA H,r.fj h⟩
    refine gS<|wr<|tr<|λ_ r=>oa (R false) rfl r<|?_;replace H:=tg H UW;cases H;exact⟨rfl,h.se 3 []⟩
   refine bU (nF tu) [45,46,47,48,49,50,51,52]<|ny (nF tu) (R true)<|I<|λ_ r=>dX r (b:=true) rfl<|qq r<|gS<|wr<|tr<|λ_ r=>oa (R false) rfl r<|?_;replace H:=tg H UW;cases H;exact⟨rfl,h.se 3 []⟩
  refine bU (nF xg) [35,36,37,38,39,40,41,42]<|ny (nF xg) (R true)<|bT<|bU (rfl:true=true) [45,46,47,48,49,50,51,52]<|bT<|I<|λ_ r=>dX r (b:=true) rfl<|qq r<|gS<|wr<|tr<|λ_ r=>oa (R false) rfl r<|?_;replace H:=tg H UW;cases H;exact⟨rfl,h.se 3 []⟩
 clear h r;rintro _ a w ⟨rfl,j,r,h⟩;replace H:=C0 UW;obtain⟨o24,H,M4⟩:=CZ H;refine cY (β:=Unit) (λ_ a w=>.inl ()=o24/\∃j,kH 96 (lk [(2,aY xS p2.length yN),(3,u b1 0),(4,u b2 0)] j) a/\Fit z (aC (wN b1 O::qD b2 Y dh dr::L)) w) ?_ ?_
 ·refine qq r<|aN [U]<|kL (h.pick 2) 3<|ko [R ((J w6 O.aL.toNat).k==5),R ((J w6 O.aL.toNat).k==5)]<|qI H (λyJ H=>?_) λyJ H=>?_
  ·refine cR (beq_iff_eq.mpr yJ) [58] [u b1 4]<|λ_ r=>ld (aX r (beq_iff_eq.mpr yJ)) r (Z O.K) (h.cell 4 rfl)<|?_;refine cR (beq_iff_eq.mpr yJ) [60,61] [cJ (O.K<0),cJ (O.K<0)]<|qI H (λBH H=>?_) λBH H=>?_
   ·refine bU (dT BH) [62,63,64]<|λ_ r=>Rz (aX r (beq_iff_eq.mpr yJ)) r (R true) (qX (b:=(decide (O.K<0))) rfl aK (dT BH) aK)<|?_;refine ny (beq_iff_eq.mpr yJ) (R true)<|I<|λ_ r=>dX r (b:=true) rfl<|qq r<|gS<|wr<|tr<|λ_ r=>oa (R false) rfl r<|?_;replace H:=tg H M4;cases H;exact⟨rfl,h.se 3 []⟩
   refine cR (dF BH) [62] [u b1 4]<|sv (dF BH) h 4<|cR (dF BH) [64] [cJ (O.K>=16)]<|λ_ r=>Rz (aX r (beq_iff_eq.mpr yJ)) r (cJ (O.K>=16)) (nI (b:=(decide (O.K<0))) rfl aK (dF BH) aK)<|?_;refine ny (beq_iff_eq.mpr yJ) (cJ (O.K>=16))<|I<|ez H (λqc H=>?_) λqc H=>?_
   ·refine gS<|wr<|tr<|λ_ r=>oa (R false) rfl r<|?_;replace H:=tg H M4;cases H;exact⟨rfl,h.se 3 []⟩
   refine gD<|?_;exact λ_ r=>⟨(),gA H,r.fj (h.se 3 [0,1])⟩
  refine bU (bN yJ) [58,59,60,61]<|Ox false [62,63,64]<|bU (bN yJ) [65]<|nv (bN yJ) (R false)<|I<|λ_ r=>iT r (b:=false) rfl<|qq r<|gD<|?_;exact λ_ r=>⟨(),gA H,r.fj (h.se 3 [0,1])⟩
 clear h r;rintro _ a w ⟨rfl,j,r,h⟩;replace H:=C0 M4;refine qq r<|wq<|DV H λo30 H ac7=>λ_ r=>cY (β:=Unit) (λ_ a w=>∃g28:Bool,g28=o30/\∃j,kH 96 (lk [(2,aY xS p2.length yN),(3,u b1 0),(4,u b2 0),(73,R g28)] j) a/\Fit z (aC (wN b1 O::qD b2 Y dh dr::L)) w) ?_ ?_
 ·refine qq r<|wl<|bT<|kL h 0<|ko [R (O.aL==5),R (O.aL==5)]<|qI H (λvx H=>?_) λvx H=>?_
  ·refine qg H λEV H=>cR (beq_iff_eq.mpr vx) [71] [aY xS p2.length yN]<|λ_ r=>Rz (aX r (beq_iff_eq.mpr vx)) r (R true) (RH (n0:=p2.length) (cc:=yN) rfl aK aK (E:=85) aK (Fi.ne EV))<|?_;refine ny (beq_iff_eq.mpr vx) (R true)<|I<|?_;exact λ_ r=>⟨(),true,gA H,r.fj h⟩
  refine bU (bN vx) [71,72]<|nv (bN vx) (R false)<|I<|?_;exact λ_ r=>⟨(),false,gA H,r.fj h⟩
 clear h r;rintro _ a w ⟨g28,rfl,j,r,h⟩;replace H:=DS ac7;refine qq r<|FJ H (λAz H=>?_) λAz H=>?_
 ·refine aN dx<|kL h 2<|qg H λDh H=>kp (u (dA xS) (kg xS+O.B.toNat*4)) (D8 85 yN rfl rfl Fi Dh)<|bT<|yY (Z (J p2 O.B.toNat).aV) (Fi.cell Dh (h.dn 2) 0 rfl)<|?_;refine bT<|I<|aN [U,R ((J p2 O.B.toNat).aV==0),R ((J p2 O.B.toNat).aV==0)]<|qI H (λvD H=>?_) λvD H=>?_
  ·refine bU (beq_iff_eq.mpr vD) [83,84,85,86]<|Ox true [87,88,89,90,91,92,93]<|bU (beq_iff_eq.mpr vD) [94]<|ny (beq_iff_eq.mpr vD) (R true)<|bT<|cB<|tr<|?_;cases H;exact gC (h.se 2 [])
  refine cR (bN vD) [83] [u b1 3]<|sv (bN vD) h 3<|cR (bN vD) [85,86] [cJ (O.C>=0),cJ (O.C>=0)]<|qI H (λyo H=>?_) λyo H=>?_
  ·refine cR (dT yo) [87] [u b1 3]<|sv (dT yo) h 3<|cR (dT yo) [89] [u b2 1]<|sv (dT yo) (h.pick 1) 1<|cR (dT yo) [91,92,93] [Z (J p2 O.B.toNat).aV,Z (wi (Y.dg-(J p2 O.B.toNat).aV)),cJ (O.C<=(wi (Y.dg-(J p2 O.B.toNat).aV)))]<|λ_ r=>Rz (aX r (bN vD)) r (cJ (O.C<=(wi (Y.dg-(J p2 O.B.toNat).aV)))) (qX (b:=(decide (O.C>=0))) rfl aK (dT yo) aK)<|?_;refine nv (bN vD) (cJ (O.C<=(wi (Y.dg-(J p2 O.B.toNat).aV))))<|ko [cJ (O.C<=(wi (Y.dg-(J p2 O.B.toNat).aV)))]<|cB<|tr<|?_;cases H;exact gC (h.se 2 [])
  refine bU (dF yo) [87,88,89,90,91,92,93]<|λ_ r=>Rz (aX r (bN vD)) r (R false) (nI (b:=(decide (O.C>=0))) rfl aK (dF yo) aK)<|?_;refine nv (bN vD) (R false)<|bT<|cB<|tr<|?_;cases H;exact gC (h.se 2 [])
 refine gD<|gS<|wr<|?_;cases H;exact gC (h.se 2 [])
def vg(O:aD):Option (Bool):=
 if bI (wi (((O.aq.length:Nat):Int)-1)) O.aq.length then(if(J O.aq (wi (((O.aq.length:Nat):Int)-1)).toNat).aL=3 then some true else some ((J O.aq (wi (((O.aq.length:Nat):Int)-1)).toNat).aL==9))else none
theorem Bd(H:vg O=some r0)(h:jh z (L) w)(cK:bL L 5 cT bt O.aq) :
 nV 123 #[oP #[Z O.aV,Z O.dg,Z O.bM,aY bt O.aq.length bW]] w z (R r0) (L):=by
 unfold vg at H;refine ke func123 19 rfl λj=>ks<|kN h (#[Z O.aV,Z O.dg,Z O.bM,aY bt O.aq.length bW]) 85 λb1 w h=>bT<|I<|aN [U]<|kL h 3<|bT<|kL h 3<|qg H λc2 H=>ko [Z ((O.aq.length:Nat):Int),Z (wi (((O.aq.length:Nat):Int)-1))]<|kj 132 bW cK c2<|ko [u (dA bt) (kg bt+(wi (((O.aq.length:Nat):Int)-1)).toNat*5)]<|yY (Z (J O.aq (wi (((O.aq.length:Nat):Int)-1)).toNat).aL) (cK.cell c2 (h.dn 1) 0 rfl)<|?_;refine ko [Z (J O.aq (wi (((O.aq.length:Nat):Int)-1)).toNat).aL]<|I<|aN [Z (J O.aq (wi (((O.aq.length:Nat):Int)-1)).toNat).aL,R ((J O.aq (wi (((O.aq.length:Nat):Int)-1)).toNat).aL==3),R ((J O.aq (wi (((O.aq.length:Nat):Int)-1)).toNat).aL==3)]<|qI H (λc3 H=>?_) λc3 H=>?_
 ·refine bU (beq_iff_eq.mpr c3) [16,17]<|ny (beq_iff_eq.mpr c3) (R true)<|bT<|cB<|?_;cases H;exact gC (h.se 1 [])
 refine cR (bN c3) [16,17] [Z (J O.aq (wi (((O.aq.length:Nat):Int)-1)).toNat).aL,R ((J O.aq (wi (((O.aq.length:Nat):Int)-1)).toNat).aL==9)]<|nv (bN c3) (R ((J O.aq (wi (((O.aq.length:Nat):Int)-1)).toNat).aL==9))<|ko [R ((J O.aq (wi (((O.aq.length:Nat):Int)-1)).toNat).aL==9)]<|cB<|?_;cases H;exact gC (h.se 1 [])
def gy(K:Nat)(O:Int)(Y:aD)(p2:List aD):Nat->Int->Option ((Unit)⊕((Unit)⊕mU))
 | 0,_=>none
 | k1+1,g4=>(if g4<((Y.aq.length:Nat):Int)then if bI g4 Y.aq.length then eY (uc (J Y.aq g4.toNat) Y p2) (λr8=>(if r8=true then(gy K O Y p2 k1 (wi (g4+1)))else some (.inr (.inr (⟨52,O,g4⟩:mU)))))else none else some (.inl ()))
def nB(K:Nat)(O:Int)(Y:aD)(p2:List aD):Option ((Unit)⊕mU):=
 xp ((gy K O Y p2 K 0)) (eY (vg Y) (λvC=>(if vC=true then some (.inl ())else some (.inr (⟨53,O,wi (((Y.aq.length:Nat):Int)-1)⟩:mU)))))
abbrev XL:List Value:=[U,U,U,U,U]
theorem Ai{K:Nat}{O:Int}{Y:aD}{p2:List aD}{dh xS:fR}{dr yN:Nat}{T8:Nat->Option Addr×Nat}(H:nB K O Y p2=some (.inl ()))(h:jh z (L) w)(eP:bL L 5 cT dh Y.aq)(Fi:BN L xS T8 p2)(uu:bL L 5 gJ (some ⟨1,0,none⟩) w6) :
 nV 89 #[Z O,oP #[Z Y.aV,Z Y.dg,Z Y.bM,aY dh Y.aq.length dr],aY xS p2.length yN] w z (.tuple #[]) (L):=by
 unfold nB at H;refine ke func89 38 rfl λj=>ks<|kN h (#[Z Y.aV,Z Y.dg,Z Y.bM,aY dh Y.aq.length dr]) 85 λb1 w h=>I<|?_;obtain⟨o3,H,EU⟩:=CZ H;refine λ_ r=>cY (β:=Unit) (λ_ a w=>.inl ()=o3/\∃j,kH 38 (lk [(0,Z O),(4,u b1 0)] j) a/\Fit z (aC (qD b1 Y dh dr::L)) w) ?_ ?_
 ·refine qq r<|aN [U]<|kL h 3<|ko [Z ((Y.aq.length:Nat):Int),U]<|I<|wb<|λ_ r=>dQ (β:=Nat) id (λm a w=>∃g4:Int,(gy K O Y p2 m g4)=some o3/\∃j,kH 38 (lk [(0,Z O),(2,aY xS p2.length yN),(4,u b1 0),(9,aY dh Y.aq.length dr),(10,Z ((Y.aq.length:Nat):Int)),(11,Z g4)] j) a/\Fit z (aC (qD b1 Y dh dr::L)) w) K ⟨0,H,r.fj h⟩<|?_;clear h r H;rintro k1 a w ⟨g4,H,j,r,h⟩;cases k1 with
  | zero=>exact absurd H (by simp[gy])
  | succ k1 =>
   rw[gy]at H;refine qq r<|aN [cJ (g4<((Y.aq.length:Nat):Int))]<|I<|wq<|ez H (λc5 H=>?_) λc5 H=>?_
   ·refine gD<|wq<|wb<|ks<|qg H λc6 H=>bT<|kj 132 dr eP c6<|xx (iO (J Y.aq g4.toNat)) (cs:=gO (J Y.aq g4.toNat)) ⟨eP.cell c6 (h.dn 1) 0 rfl,eP.cell c6 (h.dn 1) 1 rfl,eP.cell c6 (h.dn 1) 2 rfl,eP.cell c6 (h.dn 1) 3 rfl,eP.cell c6 (h.dn 1) 4 rfl,bx⟩<|?_;refine kN h (La) 132 λb7 w h=>bT<|kA h (wN b7 (J Y.aq g4.toNat)) λw h=>I<|ks<|kM h<|kM (h.pick 1)<|gB H λr8 e9 H=>bT<|fG (zY (xS:=xS) (yN:=yN) (Fi:=(ym.up 2 Fi)) (dh:=dh) (dr:=dr) (eP:=(bL.up 2 eP)) (uu:=bL.up 2 uu) (T8:=T8) e9 h :) λw h=>ko [R (!r8)]<|I<|D5 H (λoh H=>?_) λoh H=>?_
    ·refine wk<|bn<|tn<|wl<|ko [Z (wi (g4+1)),Z (wi (g4+1))]<|I<|?_;exact λ_ r=>⟨_,⟨(wi (g4+1)),H,r.fj (h.se 2 [1])⟩,gQ _⟩
    refine wl<|ko XL<|λ_ r=>D4 (wn rfl) r rfl (T:=171) (afv:=oP #[Z 52,Z O,Z g4]) aK<|s9<|nK<|nK<|s9<|nK<|BF r<|?_;replace H:=tg H EU;cases H
   refine wx<|te<|te<|bh<|tn<|?_;exact λ_ r=>⟨(),gA H,r.fj h⟩
 clear h r;rintro _ a w ⟨rfl,j,r,h⟩;replace H:=C0 EU;refine qq r<|ks<|kM h<|gB H λvC D9 H=>fG (Bd (bt:=dh) (bW:=dr) (cK:=(bL.up 1 eP)) D9 h :) λw h=>ko [R (!vC)]<|I<|D5 H (λyI H=>?_) λyI H=>?_
 ·refine wk<|?_;cases H;exact Oy (h.se 1 [])
 refine wl<|ko dx<|kL h 3<|ko [Z ((Y.aq.length:Nat):Int),Z (wi (((Y.aq.length:Nat):Int)-1)),oP #[Z 53,Z O,Z (wi (((Y.aq.length:Nat):Int)-1))],oP #[Z 53,Z O,Z (wi (((Y.aq.length:Nat):Int)-1))],if_ 171 (oP #[Z 53,Z O,Z (wi (((Y.aq.length:Nat):Int)-1))])]<|λ_ r=>D4 (wn rfl) r rfl (T:=171) (afv:=oP #[Z 53,Z O,Z (wi (((Y.aq.length:Nat):Int)-1))]) aK<|BF r<|?_;cases H
theorem Aj{K:Nat}{O:Int}{Y:aD}{p2:List aD}{dh xS:fR}{dr yN:Nat}{T8:Nat->Option Addr×Nat}{rP:mU}(H:nB K O Y p2=some (.inr rP))(h:jh z (L) w)(eP:bL L 5 cT dh Y.aq)(Fi:BN L xS T8 p2)(uu:bL L 5 gJ (some ⟨1,0,none⟩) w6) :
 Calls Tryz.prog 89 #[Z O,oP #[Z Y.aV,Z Y.dg,Z Y.bM,aY dh Y.aq.length dr],aY xS p2.length yN] w λe w=>e=.panicked [{v:=if_ 171 (zX rP),recovered:=false}]/\Fit z (aC (L)) w:=by
 unfold nB at H;refine ke func89 38 rfl λj=>ks<|kN h (#[Z Y.aV,Z Y.dg,Z Y.bM,aY dh Y.aq.length dr]) 85 λb1 w h=>I<|?_;obtain⟨o3,H,EU⟩:=CZ H;refine λ_ r=>cY (β:=Unit) (λ_ a w=>.inl ()=o3/\∃j,kH 38 (lk [(0,Z O),(4,u b1 0)] j) a/\Fit z (aC (qD b1 Y dh dr::L)) w) ?_ ?_
 ·refine qq r<|aN [U]<|kL h 3<|ko [Z ((Y.aq.length:Nat):Int),U]<|I<|wb<|λ_ r=>dQ (β:=Nat) id (λm a w=>∃g4:Int,(gy K O Y p2 m g4)=some o3/\∃j,kH 38 (lk [(0,Z O),(2,aY xS p2.length yN),(4,u b1 0),(9,aY dh Y.aq.length dr),(10,Z ((Y.aq.length:Nat):Int)),(11,Z g4)] j) a/\Fit z (aC (qD b1 Y dh dr::L)) w) K ⟨0,H,r.fj h⟩<|?_;clear h r H;rintro k1 a w ⟨g4,H,j,r,h⟩;cases k1 with
  | zero=>exact absurd H (by simp[gy])
  | succ k1 =>
   rw[gy]at H;refine qq r<|aN [cJ (g4<((Y.aq.length:Nat):Int))]<|I<|wq<|ez H (λc5 H=>?_) λc5 H=>?_
   ·refine gD<|wq<|wb<|ks<|qg H λc6 H=>bT<|kj 132 dr eP c6<|xx (iO (J Y.aq g4.toNat)) (cs:=gO (J Y.aq g4.toNat)) ⟨eP.cell c6 (h.dn 1) 0 rfl,eP.cell c6 (h.dn 1) 1 rfl,eP.cell c6 (h.dn 1) 2 rfl,eP.cell c6 (h.dn 1) 3 rfl,eP.cell c6 (h.dn 1) 4 rfl,bx⟩<|?_;refine kN h (La) 132 λb7 w h=>bT<|kA h (wN b7 (J Y.aq g4.toNat)) λw h=>I<|ks<|kM h<|kM (h.pick 1)<|gB H λr8 e9 H=>bT<|fG (zY (xS:=xS) (yN:=yN) (Fi:=(ym.up 2 Fi)) (dh:=dh) (dr:=dr) (eP:=(bL.up 2 eP)) (uu:=bL.up 2 uu) (T8:=T8) e9 h :) λw h=>ko [R (!r8)]<|I<|D5 H (λoh H=>?_) λoh H=>?_
    ·refine wk<|bn<|tn<|wl<|ko [Z (wi (g4+1)),Z (wi (g4+1))]<|I<|?_;exact λ_ r=>⟨_,⟨(wi (g4+1)),H,r.fj (h.se 2 [1])⟩,gQ _⟩
    refine wl<|ko XL<|λ_ r=>D4 (wn rfl) r rfl (T:=171) (afv:=oP #[Z 52,Z O,Z g4]) aK<|s9<|nK<|nK<|s9<|nK<|BF r<|?_;replace H:=tg H EU;replace H:=ejR H;subst H;exact⟨rfl,h.se 2 []⟩
   refine wx<|te<|te<|bh<|tn<|?_;exact λ_ r=>⟨(),gA H,r.fj h⟩
 clear h r;rintro _ a w ⟨rfl,j,r,h⟩;replace H:=C0 EU;refine qq r<|ks<|kM h<|gB H λvC D9 H=>fG (Bd (bt:=dh) (bW:=dr) (cK:=(bL.up 1 eP)) D9 h :) λw h=>ko [R (!vC)]<|I<|D5 H (λyI H=>?_) λyI H=>?_
 ·refine wk<|λ_ r=>p7 rfl r<|?_;cases H
 refine wl<|ko dx<|kL h 3<|ko [Z ((Y.aq.length:Nat):Int),Z (wi (((Y.aq.length:Nat):Int)-1)),oP #[Z 53,Z O,Z (wi (((Y.aq.length:Nat):Int)-1))],oP #[Z 53,Z O,Z (wi (((Y.aq.length:Nat):Int)-1))],if_ 171 (oP #[Z 53,Z O,Z (wi (((Y.aq.length:Nat):Int)-1))])]<|λ_ r=>D4 (wn rfl) r rfl (T:=171) (afv:=oP #[Z 53,Z O,Z (wi (((Y.aq.length:Nat):Int)-1))]) aK<|BF r<|?_;replace H:=ejR H;subst H;exact⟨rfl,h.se 1 []⟩
def uS(O:aT):Option (Bool):=
 some false
theorem Ec(H:uS O=some r0)(h:jh z (L) w) :
 nV 149 #[vA O] w z (R r0) (L):=by
 unfold uS at H;refine ke func149 3 rfl λj=>ks<|kN h (E7 O) 221 λb1 w h=>bT<|I<|gS<|wr<|?_;cases H;exact gC (h.se 1 [])
def vh(O:cx)(Y:Int)(p2:Int):Option (Int):=
 (if O.aL=5 then(if O.A=Y then some 2 else(if O.aL=6 then(if p2=2 then some 4 else some p2)else some p2))else(if O.aL=6 then(if p2=2 then some 4 else some p2)else some p2))
theorem GC(H:vh O Y p2=some r0)(h:jh z (L) w) :
 nV 170 #[iO O,Z Y,Z p2] w z (Z r0) (L):=by
 unfold vh at H;refine ke func170 26 rfl λj=>ks<|kN h (nk O) 132 λb1 w h=>bT<|I<|wq<|wb<|aN [U]<|kL h 0<|ko [R (O.aL==5),R (O.aL==5)]<|qI H (λc2 H=>?_) λc2 H=>?_
 ·refine cR (beq_iff_eq.mpr c2) [12] [u b1 1]<|λ_ r=>ld (aX r (beq_iff_eq.mpr c2)) r (Z O.A) (h.cell 1 rfl)<|?_;refine cR (beq_iff_eq.mpr c2) [14,15] [Z Y,R (O.A==Y)]<|ny (beq_iff_eq.mpr c2) (R (O.A==Y))<|ko [R (O.A==Y)]<|I<|ez H (λc3 H=>?_) λc3 H=>?_
  ·refine gS<|wr<|br<|tr<|?_;cases H;exact gC (h.se 1 [])
  refine aN [U]<|kL h 0<|ko [R (O.aL==6),R (O.aL==6)]<|qI H (λc4 H=>?_) λc4 H=>?_
  ·refine cR (beq_iff_eq.mpr c4) [22,23] [Z p2,R (p2==2)]<|ny (beq_iff_eq.mpr c4) (R (p2==2))<|ko [R (p2==2)]<|I<|ez H (λc5 H=>?_) λc5 H=>?_
   ·refine gS<|wr<|br<|tr<|?_;cases H;exact gC (h.se 1 [])
   refine wk<|bn<|tn<|aN dx<|cB<|?_;cases H;exact gC (h.se 1 [])
  refine bU (bN c4) [22,23]<|nv (bN c4) (R false)<|bT<|I<|λ_ r=>iT r (b:=false) rfl<|qq r<|wk<|bn<|tn<|aN dx<|cB<|?_;cases H;exact gC (h.se 1 [])
 refine bU (bN c2) [12,13,14,15]<|nv (bN c2) (R false)<|bT<|I<|λ_ r=>iT r (b:=false) rfl<|qq r<|aN [U]<|kL h 0<|ko [R (O.aL==6),R (O.aL==6)]<|qI H (λc6 H=>?_) λc6 H=>?_
 ·refine cR (beq_iff_eq.mpr c6) [22,23] [Z p2,R (p2==2)]<|ny (beq_iff_eq.mpr c6) (R (p2==2))<|ko [R (p2==2)]<|I<|ez H (λc7 H=>?_) λc7 H=>?_
  ·refine gS<|wr<|br<|tr<|?_;cases H;exact gC (h.se 1 [])
  refine wk<|bn<|tn<|aN dx<|cB<|?_;cases H;exact gC (h.se 1 [])
 refine bU (bN c6) [22,23]<|nv (bN c6) (R false)<|bT<|I<|λ_ r=>iT r (b:=false) rfl<|qq r<|wk<|bn<|tn<|aN dx<|cB<|?_;cases H;exact gC (h.se 1 [])
def vi(O:aD)(Y:Int):Option ((List Int)):=
 if bI Y O.aq.length then eY (if bI (J O.aq Y.toNat).aL w6.length then(if(J w6 (J O.aq Y.toNat).aL.toNat).next=true then(if(wi (Y+1))<((O.aq.length:Nat):Int)then if(([]:List Int).length+1)*8<=140737488355328 then some (([]:List Int)++[wi (Y+1)])else none else some ([]:List Int))else some ([]:List Int))else none) (λl6=>(if(J O.aq Y.toNat).aL=3 then if(l6.length+1)*8<=140737488355328 then some (l6++[(J O.aq Y.toNat).A])else none else(if(J O.aq Y.toNat).aL=4 then if(l6.length+1)*8<=140737488355328 then some (l6++[(J O.aq Y.toNat).B])else none else some l6)))else none
theorem GD(H:vi O Y=some r0)(h:jh z (L) w)(cK:bL L 5 cT bt O.aq)(uu:bL L 5 gJ (some ⟨1,0,none⟩) w6) :
 Calls Tryz.prog 171 #[oP #[Z O.aV,Z O.dg,Z O.bM,aY bt O.aq.length bW],Z Y] w λe w=>∃y1 y2,e=.returned (aY y1 r0.length y2)/\Fit z (aC (xq y1 y2 r0::L)) w:=by
 unfold vi at H;refine ke func171 47 rfl λj=>ks<|kN h (#[Z O.aV,Z O.dg,Z O.bM,aY bt O.aq.length bW]) 85 λb1 w h=>bT<|I<|aN [U]<|kL h 3<|qg H λc2 H=>bT<|kj 132 bW cK c2<|xx (iO (J O.aq Y.toNat)) (cs:=gO (J O.aq Y.toNat)) ⟨cK.cell c2 (h.dn 1) 0 rfl,cK.cell c2 (h.dn 1) 1 rfl,cK.cell c2 (h.dn 1) 2 rfl,cK.cell c2 (h.dn 1) 3 rfl,cK.cell c2 (h.dn 1) 4 rfl,bx⟩<|?_;refine kN h (La) 132 λb3 w h=>kA h (wN b3 (J O.aq Y.toNat)) λw h=>I<|gS<|DV H λo8 H Ln=>λ_ r=>cY (β:=Unit) (λ_ a w=>∃Fj:fR,∃Fk:Nat,∃l6:List Int,l6=o8/\∃j,kH 47 (lk [(5,u b3 0),(6,aY Fj l6.length Fk)] j) a/\Fit z (aC (wN b3 (J O.aq Y.toNat)::xq Fj Fk l6::L)) w) ?_ ?_
 ·refine qq r<|aN [U]<|kL h 0<|qg H λc9 H=>kp (u (dA (some ⟨1,0,none⟩)) ((J O.aq Y.toNat).aL.toNat*5)) (MT (xs:=w6) (k:=.i64) (E:=215) rfl aK aK aK aK rfl c9)<|bT<|yY (R (J w6 (J O.aq Y.toNat).aL.toNat).next) (uu.Gm c9 (h.dn 2) 4 rfl)<|?_;refine bT<|qI H (λoh H=>?_) λoh H=>?_
  ·refine cR (oh) [18,19,20] [Z Y,Z (wi (Y+1)),u b1 3]<|λ_ r=>ld (aX r (oh)) r (aY bt O.aq.length bW) ((h.pick 1).cell 3 rfl)<|?_;refine cR (oh) [22,23] [Z ((O.aq.length:Nat):Int),cJ ((wi (Y+1))<((O.aq.length:Nat):Int))]<|ny (oh) (cJ ((wi (Y+1))<((O.aq.length:Nat):Int)))<|I<|ez H (λuR H=>?_) λuR H=>?_
   ·refine wl<|ko [U,U,Z (wi (Y+1))]<|kV h (#[Z (wi (Y+1))]) 3 λsX w h=>?_;replace h:=h.fX (e:=3) (sz:=1) (enc:=ck);refine qg H λpL H=>λ_ r=>kY (n0:=0) (c:=1) (bytes:=8) (wn rfl) rfl rfl r rfl aK aK aE (E:=3) (xs:=([]:List Int)) aK aK h (news:=[wi (Y+1)]) (m:=1) rfl ((h.pick 1).news rfl) pL rfl λiA sW w _ h r=>qq r<|ko [aY iA (([]:List Int)++[wi (Y+1)]).length sW]<|I<|?_;exact λ_ r=>⟨(),iA,sW,(([]:List Int)++[wi (Y+1)]),gA H,r.fj (h.se 4 [2,0])⟩
   refine gD<|?_;replace h:=h.fX (e:=3) (sz:=1) (enc:=ck);exact λ_ r=>⟨(),none,0,([]:List Int),gA H,r.fj (h.se 3 [1,0])⟩
  refine bU (bF oh) [18,19,20,21,22,23]<|nv (bF oh) (R false)<|I<|λ_ r=>iT r (b:=false) rfl<|qq r<|gD<|?_;replace h:=h.fX (e:=3) (sz:=1) (enc:=ck);exact λ_ r=>⟨(),none,0,([]:List Int),gA H,r.fj (h.se 3 [1,0])⟩
 clear h r;rintro _ a w ⟨Fj,Fk,l6,rfl,j,r,h⟩;replace H:=DS Ln;refine qq r<|wq<|aN [U]<|kL h 0<|I<|wb<|aN [R ((J O.aq Y.toNat).aL==3),R ((J O.aq Y.toNat).aL==3)]<|I<|ez H (λxg H=>?_) λxg H=>?_
 ·refine wl<|ko dx<|kL h 1<|kV h (#[Z (J O.aq Y.toNat).A]) 3 λb17 w h=>qh h.m2 λh=>qg H λmG H=>λ_ r=>kY (n0:=l6.length) (c:=1) (bytes:=8) (wn rfl) rfl rfl r rfl aK aK aE (E:=3) (xs:=l6) aK aK h (news:=[(J O.aq Y.toNat).A]) (m:=1) rfl ((h.pick 1).news rfl) mG rfl λEd Ee w _ h r=>qq r<|bT<|kl<|bn<|tn<|aN dx<|cB<|?_;cases H;exact Zv Ed Ee (h.se 3 [0])
 refine aN [R ((J O.aq Y.toNat).aL==4),R ((J O.aq Y.toNat).aL==4)]<|I<|ez H (λsj H=>?_) λsj H=>?_
 ·refine wl<|ko dx<|kL h 2<|kV h (#[Z (J O.aq Y.toNat).B]) 3 λxR w h=>qh h.m2 λh=>qg H λyJ H=>λ_ r=>kY (n0:=l6.length) (c:=1) (bytes:=8) (wn rfl) rfl rfl r rfl aK aK aE (E:=3) (xs:=l6) aK aK h (news:=[(J O.aq Y.toNat).B]) (m:=1) rfl ((h.pick 1).news rfl) yJ rfl λac8 ac9 w _ h r=>qq r<|bT<|kl<|bn<|tn<|aN dx<|cB<|?_;cases H;exact Zv ac8 ac9 (h.se 3 [0])
 refine wk<|bn<|tn<|aN dx<|cB<|?_;cases H;exact Zv Fj Fk (h.se 2 [1])
def jB(K:Nat)(l8:List aT)(zZ:Int)(qZ:List Int):Nat->(List (aT×aT))->(List aT)->Int->Option ((List (aT×aT))×(List aT))
 | 0,_,_,_=>none
 | k2+1,M6,M7,nO=>(if nO<((qZ.length:Nat):Int)then if bI nO qZ.length then(if(xd M6 (⟨(J qZ nO.toNat),zZ⟩:aT)).isSome=true then(jB K l8 zZ qZ k2 M6 M7 (wi (nO+1)))else if xd M6 (⟨(J qZ nO.toNat),zZ⟩:aT)=none then if(M7.length+1)*16<=140737488355328 then(jB K l8 zZ qZ k2 (M6++[((⟨(J qZ nO.toNat),zZ⟩:aT),J l8 0)]) (M7++[(⟨(J qZ nO.toNat),zZ⟩:aT)]) (wi (nO+1)))else none else none)else none else some (M6,M7))
def kP(K:Nat)(O:aD)(Y:Int):Nat->(List (aT×aT))->(List aT)->Option ((List (aT×aT)))
 | 0,_,_=>none
 | k1+1,l5,l8=>(if((l8.length:Nat):Int)>0 then if bI (0:Int) l8.length then if 0<=(1:Int)/\(1:Int)<=((l8.length:Nat):Int)then if 0<l8.length then eY (uS (J l8 0)) (λBR=>(if BR=true then some l5 else if bI (J l8 0).J O.aq.length then eY (vh (J O.aq (J l8 0).J.toNat) Y (J l8 0).state) (λzZ=>eY (vi O (J l8 0).J) (λqZ=>sR ((jB K l8 zZ qZ K l5 (l8.drop 1) 0)) (λOG Fe=>(kP K O Y k1 OG Fe))))else none))else none else none else none else some l5)
def qd(K:Nat)(O:aD)(Y:Int):Option ((List (aT×aT))):=
 (kP K O Y K (([]:List (aT×aT))++[((⟨0,1⟩:aT),(⟨-1,0⟩:aT))]) ([(⟨0,1⟩:aT)]))
abbrev sB:aT:=⟨0,1⟩
abbrev Cr:aT:=⟨-1,0⟩
abbrev xT:aT:=⟨0,0⟩
theorem BS(H:qd K O Y=some r0)(h:jh z (L) w)(cK:bL L 5 cT bt O.aq)(uu:bL L 5 gJ (some ⟨1,0,none⟩) w6) :
 Calls Tryz.prog 148 #[oP #[Z O.aV,Z O.dg,Z O.bM,aY bt O.aq.length bW],Z Y,.func (.func 149) #[] #[]] w λe w=>∃Wu,e=.returned (.map (some Wu))/\Fit z (aC (mapOf dR dR Wu r0::L)) w:=by
 unfold qd at H;refine ke func148 73 rfl λj=>ks<|kN h (#[Z O.aV,Z O.dg,Z O.bM,aY bt O.aq.length bW]) 85 λb1 w h=>bT<|I<|λ_ r=>wp_scope_straight<|qq r<|aN [U]<|kN h (#[Z 0,Z 0]) 221 λb2 w h=>kA h (gK b2 #[Z 0,Z 1] 221) λw h=>I<|ks<|λ_ r=>RW (wn rfl) rfl rfl r rfl dR dR h λb3 w _ h r=>qq r<|kM (h.pick 1)<|bT<|λ_ r=>RX (t:=218) (et:=221) (wn rfl) rfl r (Or.inr rfl) aK sB Cr aK aK aK Jt rfl h λw h=>qq r<|ko dx<|I<|ks<|kM (h.pick 1)<|kV h (#[Z 0,Z 1]) 221 λb4 w h=>?_;replace h:=Fit.BC (n:=1) (l:=[sB]) (by rfl) (by rfl) nL eL h;refine bT<|I<|wq<|λ_ r=>wp_label<|qq r<|tn<|wq<|wb<|qh h.Oz λh=>?_;have hn8:1=([sB]).length:=h.R4;replace h:=Fit.Gk hn8 (λq_=>Cy 221 2 dR (aY (some ⟨b4,0,none⟩) q_ 1) ([sB])) h;intro _ r;replace r:=r.re 9 (qG (λq_=>Value.slice (some ⟨b4,0,none⟩) q_ 1) hn8);refine dQ (β:=Nat) id (λm a w=>∃DW:fR,∃cc7:Nat,∃l5:List (aT×aT),∃l8:List aT,(kP K O Y m l5 l8)=some r0/\∃j,kH 73 (lk [(1,Z Y),(2,.func (.func 149) #[] #[]),(3,u b1 0),(8,.map (some b3)),(9,aY DW l8.length cc7)] j) a/\Fit z (aC (qD b1 O bt bW::mapOf dR dR b3 l5::Cy 221 2 dR (aY DW l8.length cc7) l8::L)) w) K ⟨(some ⟨b4,0,none⟩),1,(([]:List (aT×aT))++[(sB,Cr)]),([sB]),H,r.fj (h.se 4 [3,1,0])⟩<|?_;clear h r H;rintro k1 a w ⟨DW,cc7,l5,l8,H,j,r,h⟩;cases k1 with
 | zero=>exact absurd H (by simp[kP])
 | succ k1 =>
  rw[kP]at H;refine qq r<|wq<|aN [U,Z ((l8.length:Nat):Int),cJ (((l8.length:Nat):Int)>0)]<|I<|ez H (λoh H=>?_) λoh H=>?_
  ·refine gD<|wb<|ks<|qg H λuR H=>bT<|kp (u (dA DW) (kg DW+0*2)) (ac0 (i:=(0:Int)) (k:=.i64) (E:=221) rfl aK aK aK aK (h.pick 2) uR)<|xx (vA (J l8 0)) (cs:=E6 (J l8 0)) ⟨(h.pick 2).K0 nL (f:=0) (aS uR) rfl,(h.pick 2).K0 nL (f:=1) (aS uR) rfl,bx⟩<|?_;refine kN h (#[Z 0,Z 0]) 221 λsX w h=>kA h (OB sX (J l8 0)) λw h=>I<|ks<|qg H λyI H=>qg H λxP H=>bT<|qh h.m3 λh=>λ_ r=>UP (k:=.i64) (wn rfl) rfl rfl r rfl aK aK (E:=221) aK aK nL h yI xP λada adb a h r =>qq r<|bT<|I<|wq<|aN [U]<|kM (h.pick 1)<|gB H λBR Di H=>fG (Ec Di h :) λw h=>I<|FJ H (λtu H=>?_) λtu H=>?_
   ·refine wx<|te<|λ_ r=>D1 eL<|qq r<|te<|bh<|tn<|aN dx<|cB<|λ_ r=>RU<|qq r<|?_;cases H;exact xy1 b3 (h.se 4 [3])
   refine gD<|wq<|qg H λmG H=>gB H λzZ M8 H=>lC [(b1,3,[aY bt O.aq.length bW]),(sX,0,[Z (J l8 0).J]),(dA bt,kg bt+(J l8 0).J.toNat*5,gO (J O.aq (J l8 0).J.toNat)),(sX,1,[Z (J l8 0).state])] [0,2,4,7] 11 h (λh=>⟨⟨(h.pick 2).cell 3 rfl,bx⟩,⟨(h.pick 1).cell 0 rfl,bx⟩,⟨cK.cell mG (h.dn 4) 0 rfl,cK.cell mG (h.dn 4) 1 rfl,cK.cell mG (h.dn 4) 2 rfl,cK.cell mG (h.dn 4) 3 rfl,cK.cell mG (h.dn 4) 4 rfl,bx⟩,⟨(h.pick 1).cell 1 rfl,bx⟩,bx⟩) λw h hd =>iy hd 7 [(0,35,u b1 3),(2,37,u sX 0),(6,41,Z Y),(7,42,u sX 1)]<|fg hd 0 6 1 rfl<|fg hd 1 5 3 rfl<|jl hd 4 4 rfl (u (dA bt) (kg bt+(J l8 0).J.toNat*5)) (λw=>Fa 132 bW rfl rfl cK mG)<|wL hd 2 3 5 rfl rfl<|fg hd 3 2 8 rfl<|lQ 9 rfl<|fG (GC M8 h :) λw h=>I<|mJ<|iS 0 10 rfl (Z zZ)<|kI<|tn<|ks<|kM (h.pick 2)<|bT<|kL (h.pick 1) 0<|gB H λqZ UQ H=>Wr (GD (bt:=bt) (bW:=bW) (cK:=(bL.up 4 cK)) (uu:=bL.up 4 uu) UQ h :) λEf IW w h=>ko [Z ((qZ.length:Nat):Int),U]<|I<|qd2 H λo32 H ade=>λ_ r=>qY (λa w=>∃UX:fR,∃UY:Nat,∃OG:List (aT×aT),∃Fe:List aT,(OG,Fe)=o32/\∃j,kH 73 (lk [(1,Z Y),(2,.func (.func 149) #[] #[]),(3,u b1 0),(8,.map (some b3)),(9,aY UX Fe.length UY)] j) a/\Fit z (aC (qD b1 O bt bW::mapOf dR dR b3 OG::Cy 221 2 dR (aY UX Fe.length UY) Fe::L)) w) ?_ ?_
   ·refine qq r<|wb<|λ_ r=>dQ (β:=Nat) id (λm a w=>∃Jw:fR,∃Li:Nat,∃M6:List (aT×aT),∃M7:List aT,∃nO:Int,(jB K l8 zZ qZ m M6 M7 nO)=some o32/\∃j,kH 73 (lk [(1,Z Y),(2,.func (.func 149) #[] #[]),(3,u b1 0),(8,.map (some b3)),(9,aY Jw M7.length Li),(10,u sX 0),(11,Z zZ),(48,aY Ef qZ.length IW),(49,Z ((qZ.length:Nat):Int)),(50,Z nO)] j) a/\Fit z (aC (qD b1 O bt bW::mapOf dR dR b3 M6::Cy 221 2 dR (aY Jw M7.length Li) M7::OB sX (J l8 0)::xq Ef IW qZ::L)) w) K ⟨ada,adb,l5,(l8.drop 1),0,H,r.fj (h.se 5 [3,4,1,2,0])⟩<|?_;clear h r H;rintro k2 a w ⟨Jw,Li,M6,M7,nO,H,j,r,h⟩;cases k2 with
    | zero=>exact absurd H (by simp[jB])
    | succ k2 =>
     rw[jB]at H;refine qq r<|aN [cJ (nO<((qZ.length:Nat):Int))]<|I<|wq<|ez H (λGA H=>?_) λGA H=>?_
     ·refine gD<|wq<|wb<|ks<|qg H λxz H=>ki (h.pick 4) xz<|yY (Z (J qZ nO.toNat)) ((h.pick 4).bE aE (f:=0) (aS xz) rfl)<|?_;refine bT<|I<|aN lR<|kN h (#[Z 0,Z 0]) 221 λb40 w h=>kA h (gK b40 #[Z (J qZ nO.toNat),Z zZ] 221) λw h=>I<|wq<|aN [U]<|kM h<|λ_ r=>UK (et:=221) (wn rfl) rfl rfl r rfl aK (⟨(J qZ nO.toNat),zZ⟩:aT) aK aK Jt (v0:=xT) aK (h.pick 2)<|?_;refine ko [.tuple #[vA ((xd M6 (⟨(J qZ nO.toNat),zZ⟩:aT)).getD xT),R (xd M6 (⟨(J qZ nO.toNat),zZ⟩:aT)).isSome],U,U]<|kN h (#[Z 0,Z 0]) 221 λb41 w h=>kA h (OB b41 ((xd M6 (⟨(J qZ nO.toNat),zZ⟩:aT)).getD xT)) λw h=>bT<|I<|gS<|FJ H (λBe H=>?_) λBe H=>?_
      ·refine wx<|te<|bh<|tn<|wl<|ko [Z (wi (nO+1)),Z (wi (nO+1))]<|I<|?_;exact λ_ r=>⟨_,⟨Jw,Li,M6,M7,(wi (nO+1)),H,r.fj (h.se 7 [2,3,4,5,6])⟩,gQ _⟩
      refine gD<|aN [U]<|kM (h.pick 1)<|kM (h.pick 5)<|qh h.m3 λh=>qg H λM9 H=>λ_ r=>RX (t:=218) (et:=221) (wn rfl) rfl r (Or.inl rfl) aK (⟨(J qZ nO.toNat),zZ⟩:aT) (J l8 0) aK aK aK Jt M9 h λw h=>qq r<|I<|wl<|bT<|kM (h.pick 2)<|kV h (#[Z (J qZ nO.toNat),Z zZ]) 221 λOH w h=>qh h.m5 λh=>qg H λDl H=>λ_ r=>K1 (n0:=M7.length) (c:=1) (bytes:=16) (wn rfl) rfl rfl r rfl aK aK nL (E:=221) (xs:=M7) aK aK h (news:=[(⟨(J qZ nO.toNat),zZ⟩:aT)]) (m:=1) rfl ((h.pick 1).news rfl) Dl rfl λNa Nb w _ h r=>qq r<|bT<|kl<|bn<|tn<|wl<|ko [Z (wi (nO+1)),Z (wi (nO+1))]<|I<|?_;exact λ_ r=>⟨_,⟨Na,Nb,(M6++[((⟨(J qZ nO.toNat),zZ⟩:aT),J l8 0)]),(M7++[(⟨(J qZ nO.toNat),zZ⟩:aT)]),(wi (nO+1)),H,r.fj (h.se 8 [5,2,0,6,7])⟩,gQ _⟩
     refine wx<|te<|te<|bh<|tn<|?_;exact λ_ r=>⟨Jw,Li,M6,M7,gA H,r.fj (h.se 5 [0,1,2])⟩
   clear h r;rintro a w ⟨UX,UY,OG,Fe,rfl,j,r,h⟩;replace H:=kk2 ade;refine qq r<|bn<|tn<|?_;exact λ_ r=>⟨_,⟨UX,UY,OG,Fe,H,r.fj h⟩,gQ _⟩
  refine wx<|te<|te<|bh<|tn<|aN dx<|cB<|λ_ r=>RU<|qq r<|?_;cases H;exact xy1 b3 (h.se 3 [1])
def ot(K:Nat)(O:aD):Nat->(List (List Int))->Int->Option ((List (List Int)))
 | 0,_,_=>none
 | k1+1,l7,g8=>(if g8<(((List.replicate O.aq.length ([]:List Int)).length:Nat):Int)then if 0<=O.bM/\O.bM*8<=140737488355328 then if bI g8 l7.length then(ot K O k1 (l7.set g8.toNat (List.replicate O.bM.toNat (0:Int))) (wi (g8+1)))else none else none else some l7)
def ou(K:Nat)(rO:Int)(wO:(aT×aT)):(List (List Int))->Option ((List (List Int)))
 | zo=>if bI wO.1.J zo.length then if bI rO (J zo wO.1.J.toNat).length then some (zo.set wO.1.J.toNat ((J zo wO.1.J.toNat).set rO.toNat (Q8 (J (J zo wO.1.J.toNat) rO.toNat) wO.1.state)))else none else none
def ow(K:Nat)(O:aD):Nat->(List (List Int))->Int->Option ((List (List Int)))
 | 0,_,_=>none
 | k2+1,kF,rO=>(if rO<O.bM then eY (eY (qd K O rO) (λqZ=>(eY (u9 (ou K rO) kF qZ) (λzo=>some zo)))) (λyn=>(ow K O k2 yn (wi (rO+1))))else some kF)
def vj(K:Nat)(O:aD):Option ((List (List Int))):=
 if 0<=((O.aq.length:Nat):Int)/\((O.aq.length:Nat):Int)*24<=140737488355328 then eY ((ot K O K (List.replicate O.aq.length ([]:List Int)) 0)) (λl4=>(ow K O K l4 0))else none
theorem Bf(H:vj K O=some r0)(h:jh z (L) w)(cK:bL L 5 cT bt O.aq)(uu:bL L 5 gJ (some ⟨1,0,none⟩) w6) :
 Calls Tryz.prog 124 #[oP #[Z O.aV,Z O.dg,Z O.bM,aY bt O.aq.length bW]] w λe w=>∃y1 y2,e=.returned (aY y1 r0.length y2)/\Fit z (aC (Jq y1 y2 r0::L)) w:=by
 unfold vj at H;refine ke func124 50 rfl λj=>ks<|kN h (#[Z O.aV,Z O.dg,Z O.bM,aY bt O.aq.length bW]) 85 λb1 w h=>bT<|I<|aN [U]<|kL h 3<|qg H λc2 H=>ko [Z ((O.aq.length:Nat):Int)]<|λ_ r=>C5 (own:=jM) (i:=((O.aq.length:Nat):Int)) (bytes:=24) (zc:=#[aY none 0 0]) ([]:List Int) (wn rfl) rfl rfl r rfl aK aK c2 rfl (by simp[Value.oneCell']) eL (E:=28) aK aK rfl (λh=>iH (x:=([]:List Int)) (th:=none) (tj:=0) (h.fX)) h λjs w _ h r=>qq r<|bT<|I<|DV H λo6 H hK5=>λ_ r=>cY (β:=Unit) (λ_ a w=>∃l4:List (List Int),l4=o6/\∃j,kH 50 (lk [(1,u b1 0),(3,aY js (List.replicate O.aq.length ([]:List Int)).length O.aq.length)] j) a/\Fit z (aC (qD b1 O bt bW::sA 28 1 jM (aY js (List.replicate O.aq.length ([]:List Int)).length O.aq.length) l4::L)) w) ?_ ?_
 ·refine qq r<|aN [U,Z (((List.replicate O.aq.length ([]:List Int)).length:Nat):Int),U]<|I<|wb<|λ_ r=>dQ (β:=Nat) id (λm a w=>∃l7:List (List Int),∃g8:Int,(ot K O m l7 g8)=some o6/\∃j,kH 50 (lk [(1,u b1 0),(3,aY js (List.replicate O.aq.length ([]:List Int)).length O.aq.length),(12,Z (((List.replicate O.aq.length ([]:List Int)).length:Nat):Int)),(13,Z g8)] j) a/\Fit z (aC (qD b1 O bt bW::sA 28 1 jM (aY js (List.replicate O.aq.length ([]:List Int)).length O.aq.length) l7::L)) w) K ⟨(List.replicate O.aq.length ([]:List Int)),0,H,r.fj (h.se 2 [1,0])⟩<|?_;clear h r H;rintro k1 a w ⟨l7,g8,H,j,r,h⟩;cases k1 with
  | zero=>exact absurd H (by simp[ot])
  | succ k1 =>
   rw[ot]at H;refine qq r<|aN [cJ (g8<(((List.replicate O.aq.length ([]:List Int)).length:Nat):Int))]<|I<|wq<|ez H (λc9 H=>?_) λc9 H=>?_
   ·refine gD<|wq<|wb<|aN dx<|I<|wl<|ko lR<|kL h 2<|qg H λoh H=>λ_ r=>n3 (i:=O.bM) (bytes:=8) (zc:=#[Z 0]) (0:Int) (wn rfl) rfl rfl r rfl aK aK oh aE (E:=3) aK aK rfl rfl h λaZ w _ h r=>qq r<|qg H λCD H=>kp (mw js g8 1) (FF (k:=.i64) (E:=28) rfl aK aK aK aK (h.pick 2) CD)<|?_;obtain⟨ae3,h⟩:=h.m2.mu (aS CD);obtain⟨iA,sW,Jx,h⟩:=nn (h.m1);subst Jx;refine qh h.m1 λh=>λ_ r=>Cl (wn rfl) rfl r rfl aK aK (v:=aY aZ (List.replicate O.bM.toNat (0:Int)).length O.bM.toNat) rfl rfl aK aK h (i:=g8.toNat) (f:=0) eL λw h=>qq r<|kl<|bn<|tn<|wl<|ko [Z (wi (g8+1)),Z (wi (g8+1))]<|I<|qh h.m2 λh=>?_;replace h:=iH (x:=(List.replicate O.bM.toNat (0:Int))) h;replace h:=(h.m1).yE;exact λ_ r=>⟨_,⟨(l7.set g8.toNat (List.replicate O.bM.toNat (0:Int))),(wi (g8+1)),H,r.fj (h.se 3 [2,0])⟩,gQ _⟩
   refine wx<|te<|te<|bh<|tn<|?_;exact λ_ r=>⟨(),l7,gA H,r.fj h⟩
 clear h r;rintro _ a w ⟨l4,rfl,j,r,h⟩;replace H:=DS hK5;refine qq r<|wq<|aN [U]<|kL h 2<|bT<|I<|wb<|λ_ r=>dQ (β:=Nat) id (λm a w=>∃kF:List (List Int),∃rO:Int,(ow K O m kF rO)=some r0/\∃j,kH 50 (lk [(1,u b1 0),(3,aY js (List.replicate O.aq.length ([]:List Int)).length O.aq.length),(24,Z O.bM),(25,Z rO)] j) a/\Fit z (aC (qD b1 O bt bW::sA 28 1 jM (aY js (List.replicate O.aq.length ([]:List Int)).length O.aq.length) kF::L)) w) K ⟨l4,0,H,r.fj h⟩<|?_;clear h r H;rintro k2 a w ⟨kF,rO,H,j,r,h⟩;cases k2 with
 | zero=>exact absurd H (by simp[ow])
 | succ k2 =>
  rw[ow]at H;refine qq r<|aN [cJ (rO<O.bM)]<|I<|wq<|ez H (λtu H=>?_) λtu H=>?_
  ·refine gD<|DV H λo22 H adf=>λ_ r=>cY (β:=Unit) (λ_ a w=>∃yn:List (List Int),yn=o22/\∃j,kH 50 (lk [(1,u b1 0),(3,aY js (List.replicate O.aq.length ([]:List Int)).length O.aq.length),(24,Z O.bM),(25,Z rO)] j) a/\Fit z (aC (qD b1 O bt bW::sA 28 1 jM (aY js (List.replicate O.aq.length ([]:List Int)).length O.aq.length) yn::L)) w) ?_ ?_
   ·refine qq r<|wb<|aN dx<|I<|ks<|kM h<|gB H λqZ UQ H=>bT<|Zu (BS (bt:=bt) (bW:=bW) (cK:=(bL.up 2 cK)) (uu:=bL.up 2 uu) UQ h :) λaaQ w h=>λ_ r=>RY (kt:=221) (et:=221) (wn rfl) rfl rfl r rfl aK aK h λb26 w _ h r=>qq r<|I<|wb<|gB H λRa Lr H=>λ_ r=>MX qZ (ou K rO) kF (λaaR s_ a w=>∃zo:List (List Int),zo=s_/\∃j,kH 50 (lk [(1,u b1 0),(3,aY js (List.replicate O.aq.length ([]:List Int)).length O.aq.length),(5,Z rO),(24,Z O.bM),(25,Z rO),(31,u b26 0)] j) a/\Fit z (aC (qD b1 O bt bW::sA 28 1 jM (aY js (List.replicate O.aq.length ([]:List Int)).length O.aq.length) zo::Gs b26 aaQ qZ.length aaR::mapOf dR dR aaQ qZ::L)) w) ⟨kF,rfl,r.fj (h.se 4 [2,3,0,1])⟩<|?_;clear h r;rintro aaR _ a w hs_ ⟨zo,rfl,j,r,h⟩;refine qq r<|ks<|qh h.m3.m3 λh=>λ_ r=>UL (wn rfl) rfl rfl r rfl aK rfl h ?_ ?_
    ·clear r;intro aaS a r;have e_:=hs_.done Lr aaS;subst e_;refine qq r<|bT<|I<|wq<|λ_ r=>iT r (b:=false) rfl<|qq r<|wx<|te<|te<|bh<|bn<|tn<|?_;exact λ_ r=>⟨(),zo,gA H,r.fj (h.se 4 [2,3])⟩
    clear r h;intro ae4 wO w a hx_ hi_ h r;obtain⟨s1_,Hs_,hp_⟩:=hs_.push Lr hx_ hi_;clear H;have H:=Hs_;rw[ou]at H;refine qq r<|bT<|I<|wq<|λ_ r=>dX r (b:=true) rfl<|qq r<|gD<|wb<|ks<|λ_ r=>RZ (wn rfl) rfl rfl r rfl aK rfl h hx_<|?_;refine bT<|kN h (#[Z 0,Z 0]) 221 λJy w h=>kA h (OB Jy wO.1) λw h=>I<|qg H λDh H=>?_;obtain⟨ae5,h⟩:=h.m4.mu (aS Dh);obtain⟨Sj,aaT,PZ,h⟩:=nn (h.m1);subst PZ;refine qg H λxz H=>lC [(Jy,0,[Z wO.1.J]),(dA js,wO.1.J.toNat*1,[aY Sj (J zo wO.1.J.toNat).length aaT]),(dA Sj,rO.toNat*1,[Z (J (J zo wO.1.J.toNat) rO.toNat)]),(Jy,1,[Z wO.1.state])] [1,3,6,8] 13 h (λh=>⟨⟨(h.pick 2).cell 0 rfl,bx⟩,⟨(h.pick 1).oO eL (f:=0) rfl,bx⟩,⟨h.bE aE (f:=0) (aS xz) rfl,bx⟩,⟨(h.pick 2).cell 1 rfl,bx⟩,bx⟩) λw h hd =>iy hd 9 [(0,36,aY js (List.replicate O.aq.length ([]:List Int)).length O.aq.length),(1,37,u Jy 0),(5,41,Z rO),(8,44,u Jy 1)]<|fg hd 0 8 2 rfl<|jl hd 7 3 rfl (u (dA js) (wO.1.J.toNat*1)) (λw=>vY (k:=.i64) (E:=28) rfl aK aK aK aK (h.pick 1) Dh)<|fg hd 1 6 4 rfl<|jl hd 5 6 rfl (mw Sj rO 1) (λw=>nN 3 rfl h xz)<|fg hd 2 4 7 rfl<|fg hd 3 3 9 rfl<|jl hd 2 10 rfl (Z (Q8 (J (J zo wO.1.J.toNat) rO.toNat) wO.1.state)) (λw=>ror rfl aK aK)<|jl hd 1 11 rfl (mw Sj rO 1) (λw=>nN 3 rfl h xz)<|λ_ r=>lI 12 rfl<|BM (wn rfl) r aE h rO.toNat 0 (Z (Q8 (J (J zo wO.1.J.toNat) rO.toNat) wO.1.state)) (J (J zo wO.1.J.toNat) rO.toNat) (Q8 (J (J zo wO.1.J.toNat) rO.toNat) wO.1.state) (aS xz) λw h=>qq r<|I<|mJ<|kI<|bn<|tn<|?_;replace h:=h.Om (λq_=>AL 28 1 jM (aY js (List.replicate O.aq.length ([]:List Int)).length O.aq.length) zo wO.1.J.toNat [aY Sj q_ aaT]);replace h:=iH (x:=((J zo wO.1.J.toNat).set rO.toNat (Q8 (J (J zo wO.1.J.toNat) rO.toNat) wO.1.state))) h;replace h:=(h.m1).yE;exact λ_ r=>⟨_,_,hp_,(zo.set wO.1.J.toNat ((J zo wO.1.J.toNat).set rO.toNat (Q8 (J (J zo wO.1.J.toNat) rO.toNat) wO.1.state))),gA H,r.fj (h.se 5 [4,0,2,3])⟩
   clear h r;rintro _ a w ⟨yn,rfl,j,r,h⟩;replace H:=DS adf;refine qq r<|wl<|ko [Z (wi (rO+1)),Z (wi (rO+1))]<|I<|?_;exact λ_ r=>⟨_,⟨yn,(wi (rO+1)),H,r.fj h⟩,gQ _⟩
  refine wx<|te<|te<|bh<|tn<|aN dx<|cB<|λ_ r=>oa (aY js (List.replicate O.aq.length ([]:List Int)).length O.aq.length) rfl r<|qh h.m1 λh=>?_;have Si:(List.replicate O.aq.length ([]:List Int)).length=kF.length:=h.MS;replace h:=Fit.Gk Si (λq_=>sA 28 1 jM (aY js q_ O.aq.length) kF) h;cases H;exact⟨js,O.aq.length,(by first | rfl | simp only[Si]),h.se 2 [0]⟩
def jv(K:Nat)(r2:List (List Int))(g6:Int):Nat->Int->Int->Option (Int)
 | 0,_,_=>none
 | k2+1,nO,BT=>(if BT<(((J r2 g6.toNat).length:Nat):Int)then if bI BT (J r2 g6.toNat).length then(if(iN (J (J r2 g6.toNat) BT.toNat) (2:Int))=0 then(jv K r2 g6 k2 nO (wi (BT+1)))else(jv K r2 g6 k2 56 (wi (BT+1))))else none else some nO)
def lj(K:Nat)(O:Int)(Y:aD)(r2:List (List Int)):Nat->Int->Option ((Unit)⊕mU)
 | 0,_=>none
 | k1+1,g6=>(if g6<((Y.aq.length:Nat):Int)then xp (if bI g6 Y.aq.length then eY ((if(J Y.aq g6.toNat).aL=5 then if bI g6 r2.length then if bI (J Y.aq g6.toNat).A (J r2 g6.toNat).length then(if(iN (J (J r2 g6.toNat) (J Y.aq g6.toNat).A.toNat) (2:Int))=0 then some 0 else some 54)else none else none else(if(J Y.aq g6.toNat).aL=7 then if bI g6 r2.length then if bI (J Y.aq g6.toNat).B (J r2 g6.toNat).length then(if(iN (J (J r2 g6.toNat) (J Y.aq g6.toNat).B.toNat) (3:Int))=0 then some 0 else some 55)else none else none else(if(J Y.aq g6.toNat).aL=9 then if bI g6 r2.length then(jv K r2 g6 K 0 0)else none else some 0)))) (λpe=>(if pe=0 then some (.inl ())else some (.inr (.inr (⟨pe,O,g6⟩:mU)))))else none) ((lj K O Y r2 k1 (wi (g6+1))))else some (.inl ()))
def uI(K:Nat)(O:Int)(Y:aD):Option ((Unit)⊕mU):=
 eY (vj K Y) (λr2=>(lj K O Y r2 K 0))
abbrev u6_:List Value:=[U,U,U,U,U,U]
theorem GF{K:Nat}{O:Int}{Y:aD}{dh:fR}{dr:Nat}(H:uI K O Y=some (.inl ()))(h:jh z (L) w)(eP:bL L 5 cT dh Y.aq)(uu:bL L 5 gJ (some ⟨1,0,none⟩) w6) :
 nV 90 #[Z O,oP #[Z Y.aV,Z Y.dg,Z Y.bM,aY dh Y.aq.length dr]] w z (.tuple #[]) (L):=by
 unfold uI at H;refine ke func90 70 rfl λj=>ks<|kN h (#[Z Y.aV,Z Y.dg,Z Y.bM,aY dh Y.aq.length dr]) 85 λb1 w h=>I<|ks<|kM h<|gB H λr2 e3 H=>Wr (Bf (bt:=dh) (bW:=dr) (cK:=(bL.up 1 eP)) (uu:=bL.up 1 uu) e3 h :) λx4 x5 w h=>bT<|I<|aN [U]<|kL (h.pick 1) 3<|ko [Z ((Y.aq.length:Nat):Int),U]<|I<|wb<|λ_ r=>dQ (β:=Nat) id (λm a w=>∃g6:Int,(lj K O Y r2 m g6)=some (.inl ())/\∃j,kH 70 (lk [(0,Z O),(4,aY x4 r2.length x5),(13,aY dh Y.aq.length dr),(14,Z ((Y.aq.length:Nat):Int)),(15,Z g6)] j) a/\Fit z (aC (Jq x4 x5 r2::L)) w) K ⟨0,H,r.fj (h.se 2 [0])⟩<|?_;clear h r H;rintro k1 a w ⟨g6,H,j,r,h⟩;cases k1 with
 | zero=>exact absurd H (by simp[lj])
 | succ k1 =>
  rw[lj]at H;refine qq r<|aN [cJ (g6<((Y.aq.length:Nat):Int))]<|I<|wq<|ez H (λc7 H=>?_) λc7 H=>?_
  ·refine gD<|?_;obtain⟨o9,H,K9⟩:=CZ H;refine λ_ r=>cY (β:=Unit) (λ_ a w=>.inl ()=o9/\∃j,kH 70 (lk [(0,Z O),(4,aY x4 r2.length x5),(13,aY dh Y.aq.length dr),(14,Z ((Y.aq.length:Nat):Int)),(15,Z g6)] j) a/\Fit z (aC (Jq x4 x5 r2::L)) w) ?_ ?_
   ·refine qq r<|wb<|ks<|qg H λoh H=>bT<|kj 132 dr eP oh<|xx (iO (J Y.aq g6.toNat)) (cs:=gO (J Y.aq g6.toNat)) ⟨eP.cell oh (h.dn 1) 0 rfl,eP.cell oh (h.dn 1) 1 rfl,eP.cell oh (h.dn 1) 2 rfl,eP.cell oh (h.dn 1) 3 rfl,eP.cell oh (h.dn 1) 4 rfl,bx⟩<|?_;refine kN h (La) 132 λM2 w h=>bT<|kA h (wN M2 (J Y.aq g6.toNat)) λw h=>I<|gS<|DV H λo14 H XM=>λ_ r=>cY (β:=Unit) (λ_ a w=>∃pe:Int,pe=o14/\∃j,kH 70 (lk [(0,Z O),(4,aY x4 r2.length x5),(5,Z g6),(7,Z pe),(13,aY dh Y.aq.length dr),(14,Z ((Y.aq.length:Nat):Int)),(15,Z g6)] j) a/\Fit z (aC (Jq x4 x5 r2::L)) w) ?_ ?_
    ·refine qq r<|aN [U]<|kL h 0<|I<|wb<|aN [R ((J Y.aq g6.toNat).aL==5),R ((J Y.aq g6.toNat).aL==5)]<|I<|ez H (λpL H=>?_) λpL H=>?_
     ·refine wq<|qg H λxg H=>?_;obtain⟨aaU,h⟩:=h.m1.mu (aS xg);obtain⟨Eg,Nc,IV,h⟩:=nn (h.m1);subst IV;refine qg H λsj H=>lC [(dA x4,g6.toNat*1,[aY Eg (J r2 g6.toNat).length Nc]),(M2,1,[Z (J Y.aq g6.toNat).A]),(dA Eg,(J Y.aq g6.toNat).A.toNat*1,[Z (J (J r2 g6.toNat) (J Y.aq g6.toNat).A.toNat)])] [2,4,6] 10 h (λh=>⟨⟨(h.pick 1).oO eL (f:=0) rfl,bx⟩,⟨(h.pick 2).cell 1 rfl,bx⟩,⟨h.bE aE (f:=0) (aS sj) rfl,bx⟩,bx⟩) λw h hd =>iy hd 8 [(0,24,aY x4 r2.length x5),(1,25,Z g6)]<|jl hd 7 2 rfl (mw x4 g6 1) (λw=>vY (k:=.i64) (E:=28) rfl aK aK aK aK (h.pick 1) xg)<|iy hd 6 [(4,28,u M2 1)]<|fg hd 0 5 3 rfl<|fg hd 1 4 5 rfl<|jl hd 3 6 rfl (u (dA Eg) ((J Y.aq g6.toNat).A.toNat*1)) (λw=>nN 3 rfl h sj)<|fg hd 2 2 7 rfl<|jl hd 1 8 rfl (Z (iN (J (J r2 g6.toNat) (J Y.aq g6.toNat).A.toNat) (2:Int))) (λw=>rand rfl aK aK)<|iy hd 0 [(9,33,R ((iN (J (J r2 g6.toNat) (J Y.aq g6.toNat).A.toNat) (2:Int)) != 0))]<|kI<|tn<|qB H (λDg H=>?_) λDg H=>?_
      ·refine wk<|bn<|tn<|?_;replace h:=iH (x:=(J r2 g6.toNat)) h;replace h:=(h.m1).iv;exact λ_ r=>⟨(),0,gA H,r.fj (h.se 2 [0])⟩
      refine wl<|bT<|kl<|bn<|tn<|?_;replace h:=iH (x:=(J r2 g6.toNat)) h;replace h:=(h.m1).iv;exact λ_ r=>⟨(),54,gA H,r.fj (h.se 2 [0])⟩
     refine aN [R ((J Y.aq g6.toNat).aL==7),R ((J Y.aq g6.toNat).aL==7)]<|I<|ez H (λAk H=>?_) λAk H=>?_
     ·refine wq<|qg H λxU H=>?_;obtain⟨adg,h⟩:=h.m1.mu (aS xU);obtain⟨yK,BO,P0,h⟩:=nn (h.m1);subst P0;refine qg H λyZ H=>lC [(dA x4,g6.toNat*1,[aY yK (J r2 g6.toNat).length BO]),(M2,2,[Z (J Y.aq g6.toNat).B]),(dA yK,(J Y.aq g6.toNat).B.toNat*1,[Z (J (J r2 g6.toNat) (J Y.aq g6.toNat).B.toNat)])] [2,4,6] 10 h (λh=>⟨⟨(h.pick 1).oO eL (f:=0) rfl,bx⟩,⟨(h.pick 2).cell 2 rfl,bx⟩,⟨h.bE aE (f:=0) (aS yZ) rfl,bx⟩,bx⟩) λw h hd =>iy hd 8 [(0,36,aY x4 r2.length x5),(1,37,Z g6)]<|jl hd 7 2 rfl (mw x4 g6 1) (λw=>vY (k:=.i64) (E:=28) rfl aK aK aK aK (h.pick 1) xU)<|iy hd 6 [(4,40,u M2 2)]<|fg hd 0 5 3 rfl<|fg hd 1 4 5 rfl<|jl hd 3 6 rfl (u (dA yK) ((J Y.aq g6.toNat).B.toNat*1)) (λw=>nN 3 rfl h yZ)<|fg hd 2 2 7 rfl<|jl hd 1 8 rfl (Z (iN (J (J r2 g6.toNat) (J Y.aq g6.toNat).B.toNat) (3:Int))) (λw=>rand rfl aK aK)<|iy hd 0 [(9,45,R ((iN (J (J r2 g6.toNat) (J Y.aq g6.toNat).B.toNat) (3:Int)) != 0))]<|kI<|tn<|qB H (λur H=>?_) λur H=>?_
      ·refine wk<|bn<|tn<|?_;replace h:=iH (x:=(J r2 g6.toNat)) h;replace h:=(h.m1).iv;exact λ_ r=>⟨(),0,gA H,r.fj (h.se 2 [0])⟩
      refine wl<|bT<|kl<|bn<|tn<|?_;replace h:=iH (x:=(J r2 g6.toNat)) h;replace h:=(h.m1).iv;exact λ_ r=>⟨(),55,gA H,r.fj (h.se 2 [0])⟩
     refine aN [R ((J Y.aq g6.toNat).aL==9),R ((J Y.aq g6.toNat).aL==9)]<|I<|ez H (λvx H=>?_) λvx H=>?_
     ·refine ks<|qg H λEV H=>ko dx<|kp (mw x4 g6 1) (FF (k:=.i64) (E:=28) rfl aK aK aK aK (h.pick 1) EV)<|?_;obtain⟨adh,h⟩:=h.m1.mu (aS EV);obtain⟨Fl,Fm,Jv,h⟩:=nn (h.m1);subst Jv;refine yY (aY Fl (J r2 g6.toNat).length Fm) ((h.pick 1).oO eL (f:=0) rfl)<|?_;refine ko [Z (((J r2 g6.toNat).length:Nat):Int),U]<|I<|wb<|λ_ r=>dQ (β:=Nat) id (λm a w=>∃nO:Int,∃BT:Int,(jv K r2 g6 m nO BT)=some o14/\∃j,kH 70 (lk [(0,Z O),(4,aY x4 r2.length x5),(5,Z g6),(7,Z nO),(13,aY dh Y.aq.length dr),(14,Z ((Y.aq.length:Nat):Int)),(15,Z g6),(51,aY Fl (J r2 g6.toNat).length Fm),(52,Z (((J r2 g6.toNat).length:Nat):Int)),(53,Z BT)] j) a/\Fit z (aC (AL 28 1 jM (aY x4 r2.length x5) r2 g6.toNat [aY Fl (J r2 g6.toNat).length Fm]::xq Fl Fm (J r2 g6.toNat)::L)) w) K ⟨0,0,H,r.fj (h.se 3 [1,0])⟩<|?_;clear h r H;rintro k2 a w ⟨nO,BT,H,j,r,h⟩;cases k2 with
      | zero=>exact absurd H (by simp[jv])
      | succ k2 =>
       rw[jv]at H;refine qq r<|aN [cJ (BT<(((J r2 g6.toNat).length:Nat):Int))]<|I<|wq<|ez H (λxz H=>?_) λxz H=>?_
       ·refine gD<|wq<|wb<|ks<|qg H λFo H=>ki (h.pick 1) Fo<|yY (Z (J (J r2 g6.toNat) BT.toNat)) ((h.pick 1).bE aE (f:=0) (aS Fo) rfl)<|?_;refine bT<|I<|aN [U]<|kp (Z (iN (J (J r2 g6.toNat) BT.toNat) (2:Int))) (rand rfl aK aK)<|ko [R ((iN (J (J r2 g6.toNat) BT.toNat) (2:Int)) != 0)]<|I<|qB H (λxb H=>?_) λxb H=>?_
        ·refine wk<|bn<|tn<|wl<|ko [Z (wi (BT+1)),Z (wi (BT+1))]<|I<|?_;exact λ_ r=>⟨_,⟨nO,(wi (BT+1)),H,r.fj h⟩,gQ _⟩
        refine wl<|bT<|kl<|bn<|tn<|wl<|ko [Z (wi (BT+1)),Z (wi (BT+1))]<|I<|?_;exact λ_ r=>⟨_,⟨56,(wi (BT+1)),H,r.fj h⟩,gQ _⟩
       refine wx<|te<|te<|bh<|bn<|tn<|qh h.m1 λh=>?_;replace h:=iH (x:=(J r2 g6.toNat)) h;replace h:=(h.m1).iv;exact λ_ r=>⟨(),nO,gA H,r.fj h⟩
     refine wk<|bn<|tn<|?_;exact λ_ r=>⟨(),0,gA H,r.fj (h.se 2 [1])⟩
    clear h r;rintro _ a w ⟨pe,rfl,j,r,h⟩;replace H:=DS XM;refine qq r<|aN [U,R (pe != 0)]<|I<|qB H (λBe H=>?_) λBe H=>?_
    ·refine wk<|bn<|tn<|?_;exact λ_ r=>⟨(),gA H,r.fj h⟩
    refine wl<|ko u6_<|λ_ r=>D4 (wn rfl) r rfl (T:=171) (afv:=oP #[Z pe,Z O,Z g6]) aK<|s9<|nK<|nK<|s9<|BF r<|?_;replace H:=tg H K9;cases H
   clear h r;rintro _ a w ⟨rfl,j,r,h⟩;replace H:=C0 K9;refine qq r<|wl<|ko [Z (wi (g6+1)),Z (wi (g6+1))]<|I<|?_;exact λ_ r=>⟨_,⟨(wi (g6+1)),H,r.fj h⟩,gQ _⟩
  refine wx<|te<|te<|bh<|?_;cases H;exact Oy (h.se 1 [])
theorem GG{K:Nat}{O:Int}{Y:aD}{dh:fR}{dr:Nat}{rP:mU}(H:uI K O Y=some (.inr rP))(h:jh z (L) w)(eP:bL L 5 cT dh Y.aq)(uu:bL L 5 gJ (some ⟨1,0,none⟩) w6) :
 Calls Tryz.prog 90 #[Z O,oP #[Z Y.aV,Z Y.dg,Z Y.bM,aY dh Y.aq.length dr]] w λe w=>e=.panicked [{v:=if_ 171 (zX rP),recovered:=false}]/\Fit z (aC (L)) w:=by
 unfold uI at H;refine ke func90 70 rfl λj=>ks<|kN h (#[Z Y.aV,Z Y.dg,Z Y.bM,aY dh Y.aq.length dr]) 85 λb1 w h=>I<|ks<|kM h<|gB H λr2 e3 H=>Wr (Bf (bt:=dh) (bW:=dr) (cK:=(bL.up 1 eP)) (uu:=bL.up 1 uu) e3 h :) λx4 x5 w h=>bT<|I<|aN [U]<|kL (h.pick 1) 3<|ko [Z ((Y.aq.length:Nat):Int),U]<|I<|wb<|λ_ r=>dQ (β:=Nat) id (λm a w=>∃g6:Int,(lj K O Y r2 m g6)=some (.inr rP)/\∃j,kH 70 (lk [(0,Z O),(4,aY x4 r2.length x5),(13,aY dh Y.aq.length dr),(14,Z ((Y.aq.length:Nat):Int)),(15,Z g6)] j) a/\Fit z (aC (Jq x4 x5 r2::L)) w) K ⟨0,H,r.fj (h.se 2 [0])⟩<|?_;clear h r H;rintro k1 a w ⟨g6,H,j,r,h⟩;cases k1 with
 | zero=>exact absurd H (by simp[lj])
 | succ k1 =>
  rw[lj]at H;refine qq r<|aN [cJ (g6<((Y.aq.length:Nat):Int))]<|I<|wq<|ez H (λc7 H=>?_) λc7 H=>?_
  ·refine gD<|?_;obtain⟨o9,H,K9⟩:=CZ H;refine λ_ r=>cY (β:=Unit) (λ_ a w=>.inl ()=o9/\∃j,kH 70 (lk [(0,Z O),(4,aY x4 r2.length x5),(13,aY dh Y.aq.length dr),(14,Z ((Y.aq.length:Nat):Int)),(15,Z g6)] j) a/\Fit z (aC (Jq x4 x5 r2::L)) w) ?_ ?_
   ·refine qq r<|wb<|ks<|qg H λoh H=>bT<|kj 132 dr eP oh<|xx (iO (J Y.aq g6.toNat)) (cs:=gO (J Y.aq g6.toNat)) ⟨eP.cell oh (h.dn 1) 0 rfl,eP.cell oh (h.dn 1) 1 rfl,eP.cell oh (h.dn 1) 2 rfl,eP.cell oh (h.dn 1) 3 rfl,eP.cell oh (h.dn 1) 4 rfl,bx⟩<|?_;refine kN h (La) 132 λM2 w h=>bT<|kA h (wN M2 (J Y.aq g6.toNat)) λw h=>I<|gS<|DV H λo14 H XM=>λ_ r=>cY (β:=Unit) (λ_ a w=>∃pe:Int,pe=o14/\∃j,kH 70 (lk [(0,Z O),(4,aY x4 r2.length x5),(5,Z g6),(7,Z pe),(13,aY dh Y.aq.length dr),(14,Z ((Y.aq.length:Nat):Int)),(15,Z g6)] j) a/\Fit z (aC (Jq x4 x5 r2::L)) w) ?_ ?_
    ·refine qq r<|aN [U]<|kL h 0<|I<|wb<|aN [R ((J Y.aq g6.toNat).aL==5),R ((J Y.aq g6.toNat).aL==5)]<|I<|ez H (λpL H=>?_) λpL H=>?_
     ·refine wq<|qg H λxg H=>?_;obtain⟨aaU,h⟩:=h.m1.mu (aS xg);obtain⟨Eg,Nc,IV,h⟩:=nn (h.m1);subst IV;refine qg H λsj H=>lC [(dA x4,g6.toNat*1,[aY Eg (J r2 g6.toNat).length Nc]),(M2,1,[Z (J Y.aq g6.toNat).A]),(dA Eg,(J Y.aq g6.toNat).A.toNat*1,[Z (J (J r2 g6.toNat) (J Y.aq g6.toNat).A.toNat)])] [2,4,6] 10 h (λh=>⟨⟨(h.pick 1).oO eL (f:=0) rfl,bx⟩,⟨(h.pick 2).cell 1 rfl,bx⟩,⟨h.bE aE (f:=0) (aS sj) rfl,bx⟩,bx⟩) λw h hd =>iy hd 8 [(0,24,aY x4 r2.length x5),(1,25,Z g6)]<|jl hd 7 2 rfl (mw x4 g6 1) (λw=>vY (k:=.i64) (E:=28) rfl aK aK aK aK (h.pick 1) xg)<|iy hd 6 [(4,28,u M2 1)]<|fg hd 0 5 3 rfl<|fg hd 1 4 5 rfl<|jl hd 3 6 rfl (u (dA Eg) ((J Y.aq g6.toNat).A.toNat*1)) (λw=>nN 3 rfl h sj)<|fg hd 2 2 7 rfl<|jl hd 1 8 rfl (Z (iN (J (J r2 g6.toNat) (J Y.aq g6.toNat).A.toNat) (2:Int))) (λw=>rand rfl aK aK)<|iy hd 0 [(9,33,R ((iN (J (J r2 g6.toNat) (J Y.aq g6.toNat).A.toNat) (2:Int)) != 0))]<|kI<|tn<|qB H (λDg H=>?_) λDg H=>?_
      ·refine wk<|bn<|tn<|?_;replace h:=iH (x:=(J r2 g6.toNat)) h;replace h:=(h.m1).iv;exact λ_ r=>⟨(),0,gA H,r.fj (h.se 2 [0])⟩
      refine wl<|bT<|kl<|bn<|tn<|?_;replace h:=iH (x:=(J r2 g6.toNat)) h;replace h:=(h.m1).iv;exact λ_ r=>⟨(),54,gA H,r.fj (h.se 2 [0])⟩
     refine aN [R ((J Y.aq g6.toNat).aL==7),R ((J Y.aq g6.toNat).aL==7)]<|I<|ez H (λAk H=>?_) λAk H=>?_
     ·refine wq<|qg H λxU H=>?_;obtain⟨adg,h⟩:=h.m1.mu (aS xU);obtain⟨yK,BO,P0,h⟩:=nn (h.m1);subst P0;refine qg H λyZ H=>lC [(dA x4,g6.toNat*1,[aY yK (J r2 g6.toNat).length BO]),(M2,2,[Z (J Y.aq g6.toNat).B]),(dA yK,(J Y.aq g6.toNat).B.toNat*1,[Z (J (J r2 g6.toNat) (J Y.aq g6.toNat).B.toNat)])] [2,4,6] 10 h (λh=>⟨⟨(h.pick 1).oO eL (f:=0) rfl,bx⟩,⟨(h.pick 2).cell 2 rfl,bx⟩,⟨h.bE aE (f:=0) (aS yZ) rfl,bx⟩,bx⟩) λw h hd =>iy hd 8 [(0,36,aY x4 r2.length x5),(1,37,Z g6)]<|jl hd 7 2 rfl (mw x4 g6 1) (λw=>vY (k:=.i64) (E:=28) rfl aK aK aK aK (h.pick 1) xU)<|iy hd 6 [(4,40,u M2 2)]<|fg hd 0 5 3 rfl<|fg hd 1 4 5 rfl<|jl hd 3 6 rfl (u (dA yK) ((J Y.aq g6.toNat).B.toNat*1)) (λw=>nN 3 rfl h yZ)<|fg hd 2 2 7 rfl<|jl hd 1 8 rfl (Z (iN (J (J r2 g6.toNat) (J Y.aq g6.toNat).B.toNat) (3:Int))) (λw=>rand rfl aK aK)<|iy hd 0 [(9,45,R ((iN (J (J r2 g6.toNat) (J Y.aq g6.toNat).B.toNat) (3:Int)) != 0))]<|kI<|tn<|qB H (λur H=>?_) λur H=>?_
      ·refine wk<|bn<|tn<|?_;replace h:=iH (x:=(J r2 g6.toNat)) h;replace h:=(h.m1).iv;exact λ_ r=>⟨(),0,gA H,r.fj (h.se 2 [0])⟩
      refine wl<|bT<|kl<|bn<|tn<|?_;replace h:=iH (x:=(J r2 g6.toNat)) h;replace h:=(h.m1).iv;exact λ_ r=>⟨(),55,gA H,r.fj (h.se 2 [0])⟩
     refine aN [R ((J Y.aq g6.toNat).aL==9),R ((J Y.aq g6.toNat).aL==9)]<|I<|ez H (λvx H=>?_) λvx H=>?_
     ·refine ks<|qg H λEV H=>ko dx<|kp (mw x4 g6 1) (FF (k:=.i64) (E:=28) rfl aK aK aK aK (h.pick 1) EV)<|?_;obtain⟨adh,h⟩:=h.m1.mu (aS EV);obtain⟨Fl,Fm,Jv,h⟩:=nn (h.m1);subst Jv;refine yY (aY Fl (J r2 g6.toNat).length Fm) ((h.pick 1).oO eL (f:=0) rfl)<|?_;refine ko [Z (((J r2 g6.toNat).length:Nat):Int),U]<|I<|wb<|λ_ r=>dQ (β:=Nat) id (λm a w=>∃nO:Int,∃BT:Int,(jv K r2 g6 m nO BT)=some o14/\∃j,kH 70 (lk [(0,Z O),(4,aY x4 r2.length x5),(5,Z g6),(7,Z nO),(13,aY dh Y.aq.length dr),(14,Z ((Y.aq.length:Nat):Int)),(15,Z g6),(51,aY Fl (J r2 g6.toNat).length Fm),(52,Z (((J r2 g6.toNat).length:Nat):Int)),(53,Z BT)] j) a/\Fit z (aC (AL 28 1 jM (aY x4 r2.length x5) r2 g6.toNat [aY Fl (J r2 g6.toNat).length Fm]::xq Fl Fm (J r2 g6.toNat)::L)) w) K ⟨0,0,H,r.fj (h.se 3 [1,0])⟩<|?_;clear h r H;rintro k2 a w ⟨nO,BT,H,j,r,h⟩;cases k2 with
      | zero=>exact absurd H (by simp[jv])
      | succ k2 =>
       rw[jv]at H;refine qq r<|aN [cJ (BT<(((J r2 g6.toNat).length:Nat):Int))]<|I<|wq<|ez H (λxz H=>?_) λxz H=>?_
       ·refine gD<|wq<|wb<|ks<|qg H λFo H=>ki (h.pick 1) Fo<|yY (Z (J (J r2 g6.toNat) BT.toNat)) ((h.pick 1).bE aE (f:=0) (aS Fo) rfl)<|?_;refine bT<|I<|aN [U]<|kp (Z (iN (J (J r2 g6.toNat) BT.toNat) (2:Int))) (rand rfl aK aK)<|ko [R ((iN (J (J r2 g6.toNat) BT.toNat) (2:Int)) != 0)]<|I<|qB H (λxb H=>?_) λxb H=>?_
        ·refine wk<|bn<|tn<|wl<|ko [Z (wi (BT+1)),Z (wi (BT+1))]<|I<|?_;exact λ_ r=>⟨_,⟨nO,(wi (BT+1)),H,r.fj h⟩,gQ _⟩
        refine wl<|bT<|kl<|bn<|tn<|wl<|ko [Z (wi (BT+1)),Z (wi (BT+1))]<|I<|?_;exact λ_ r=>⟨_,⟨56,(wi (BT+1)),H,r.fj h⟩,gQ _⟩
       refine wx<|te<|te<|bh<|bn<|tn<|qh h.m1 λh=>?_;replace h:=iH (x:=(J r2 g6.toNat)) h;replace h:=(h.m1).iv;exact λ_ r=>⟨(),nO,gA H,r.fj h⟩
     refine wk<|bn<|tn<|?_;exact λ_ r=>⟨(),0,gA H,r.fj (h.se 2 [1])⟩
    clear h r;rintro _ a w ⟨pe,rfl,j,r,h⟩;replace H:=DS XM;refine qq r<|aN [U,R (pe != 0)]<|I<|qB H (λBe H=>?_) λBe H=>?_
    ·refine wk<|bn<|tn<|?_;exact λ_ r=>⟨(),gA H,r.fj h⟩
    refine wl<|ko u6_<|λ_ r=>D4 (wn rfl) r rfl (T:=171) (afv:=oP #[Z pe,Z O,Z g6]) aK<|s9<|nK<|nK<|s9<|BF r<|?_;replace H:=tg H K9;replace H:=ejR H;subst H;exact⟨rfl,h.se 1 []⟩
   clear h r;rintro _ a w ⟨rfl,j,r,h⟩;replace H:=C0 K9;refine qq r<|wl<|ko [Z (wi (g6+1)),Z (wi (g6+1))]<|I<|?_;exact λ_ r=>⟨_,⟨(wi (g6+1)),H,r.fj h⟩,gQ _⟩
  refine wx<|te<|te<|bh<|λ_ r=>p7 rfl r<|?_;cases H
def n4(K:Nat)(O:aM):Nat->Int->Option ((Unit)⊕(eN))
 | 0,_=>none
 | k1+1,g9=>(if g9<((O.ak.length:Nat):Int)then if bI g9 O.ak.length then eY (ua (J O.ak g9.toNat)) (λxA=>(if xA=true then(n4 K O k1 (wi (g9+1)))else some (.inr (⟨51,g9,0⟩:eN))))else none else some (.inl ()))
def n5(K:Nat)(O:aM):Nat->Int->Option ((Unit)⊕(eN))
 | 0,_=>none
 | k2+1,rO=>(if rO<((O.ak.length:Nat):Int)then if bI rO O.ak.length then eY (nB K rO (J O.ak rO.toNat) O.ak) (λNd=>(match Nd with | .inl q24=>(n5 K O k2 (wi (rO+1))) | .inr q25=>some (.inr (⟨q25.D6,q25.CA,q25.Gw⟩:eN))))else none else some (.inl ()))
def pQ(K:Nat)(O:aM):Nat->Int->Option (eN)
 | 0,_=>none
 | k3+1,vk=>(if vk<((O.ak.length:Nat):Int)then if bI vk O.ak.length then eY (uI K vk (J O.ak vk.toNat)) (λAW=>(match AW with | .inl q32=>(pQ K O k3 (wi (vk+1))) | .inr q33=>some (⟨q33.D6,q33.CA,q33.Gw⟩:eN)))else none else some (⟨0,0,0⟩:eN))
def wP(K:Nat)(O:aM):Option (eN):=
 xp ((if((O.ak.length:Nat):Int)<1 then some (.inr (⟨50,0,0⟩:eN))else(if((O.ak.length:Nat):Int)>32 then some (.inr (⟨50,0,0⟩:eN))else some (.inl ())))) (xp ((n4 K O K 0)) (xp ((n5 K O K 0)) ((pQ K O K 0))))
theorem HH(H:wP K O=some r0)(h:jh z (L) w)(be:BN L bB aI O.ak)(uu:bL L 5 gJ (some ⟨1,0,none⟩) w6) :
 nV 55 #[oP #[aY bB O.ak.length cr]] w z (AQ r0) (L):=by
 unfold wP at H;refine Xw func55 rfl 62 rfl rfl [(0,oP #[aY bB O.ak.length cr])] ⟨rfl,bx⟩ λj _ r=>qq r<|ks<|kN h (#[aY bB O.ak.length cr]) 24 λb1 w h=>kN h (#[Z 0,Z 0,Z 0]) 81 λb2 w h=>I<|aN [U]<|λ_ r=>R0 (wn rfl) rfl r (q:={target:=.fn (.func 87) #[u b2 0],args:=#[]}) aK<|?_;refine I<|?_;obtain⟨o4,H,M3⟩:=CZ H;refine λ_ r=>cY (β:=Unit) (λ_ a w=>.inl ()=o4/\∃j,cS [KX b2] 62 (lk [(1,u b1 0),(2,u b2 0)] j) a/\Fit z (aC (gK b1 #[aY bB O.ak.length cr] 24::gK b2 #[Z 0,Z 0,Z 0] 81::L)) w) ?_ ?_
 ·refine qq r<|aN [U]<|kL (h.pick 1) 0<|ko [Z ((O.ak.length:Nat):Int),cJ (((O.ak.length:Nat):Int)<1),cJ (((O.ak.length:Nat):Int)<1)]<|qI H (λc5 H=>?_) λc5 H=>?_
  ·refine bU (dT c5) [15,16,17,18]<|ny (dT c5) (R true)<|I<|λ_ r=>dX r (b:=true) rfl<|qq r<|aN [U]<|kA h (gK b2 #[Z 50,Z 0,Z 0] 81) λw h=>cB<|tr<|λ_ r=>zi r rfl aK h<|?_;replace H:=tg H M3;cases H;exact⟨rfl,h.se 2 []⟩
  refine cR (dF c5) [15] [u b1 0]<|sv (dF c5) (h.pick 1) 0<|cR (dF c5) [17,18] [Z ((O.ak.length:Nat):Int),cJ (((O.ak.length:Nat):Int)>32)]<|nv (dF c5) (cJ (((O.ak.length:Nat):Int)>32))<|I<|ez H (λc6 H=>?_) λc6 H=>?_
  ·refine aN [U]<|kA h (gK b2 #[Z 50,Z 0,Z 0] 81) λw h=>cB<|tr<|λ_ r=>zi r rfl aK h<|?_;replace H:=tg H M3;cases H;exact⟨rfl,h.se 2 []⟩
  refine gD<|?_;exact λ_ r=>⟨(),gA H,r.fj (h.se 2 [1,0])⟩
 clear h r;rintro _ a w ⟨rfl,j,r,h⟩;replace H:=C0 M3;obtain⟨o8,H,Ln⟩:=CZ H;refine cY (β:=Unit) (λ_ a w=>.inl ()=o8/\∃j,cS [KX b2] 62 (lk [(1,u b1 0),(2,u b2 0)] j) a/\Fit z (aC (gK b1 #[aY bB O.ak.length cr] 24::gK b2 #[Z 0,Z 0,Z 0] 81::L)) w) ?_ ?_
 ·refine qq r<|aN [U]<|kL h 0<|ko [Z ((O.ak.length:Nat):Int),U]<|I<|wb<|λ_ r=>dQ (β:=Nat) id (λm a w=>∃g9:Int,(n4 K O m g9)=some o8/\∃j,cS [KX b2] 62 (lk [(1,u b1 0),(2,u b2 0),(22,aY bB O.ak.length cr),(23,Z ((O.ak.length:Nat):Int)),(24,Z g9)] j) a/\Fit z (aC (gK b1 #[aY bB O.ak.length cr] 24::gK b2 #[Z 0,Z 0,Z 0] 81::L)) w) K ⟨0,H,r.fj h⟩<|?_;clear h r H;rintro k1 a w ⟨g9,H,j,r,h⟩;cases k1 with
  | zero=>exact absurd H (by simp[n4])
  | succ k1 =>
   rw[n4]at H;refine qq r<|aN [cJ (g9<((O.ak.length:Nat):Int))]<|I<|wq<|ez H (λoh H=>?_) λoh H=>?_
   ·refine gD<|wq<|wb<|ks<|qg H λuR H=>bT<|kp (u (dA bB) (kg bB+g9.toNat*4)) (D8 85 cr rfl rfl be uR)<|xx (oP #[Z (J O.ak g9.toNat).aV,Z (J O.ak g9.toNat).dg,Z (J O.ak g9.toNat).bM,aY ((aI g9.toNat).1) (J O.ak g9.toNat).aq.length ((aI g9.toNat).2)]) (cs:=[Z (J O.ak g9.toNat).aV,Z (J O.ak g9.toNat).dg,Z (J O.ak g9.toNat).bM,aY ((aI g9.toNat).1) (J O.ak g9.toNat).aq.length ((aI g9.toNat).2)]) ⟨be.cell uR (h.dn 2) 0 rfl,be.cell uR (h.dn 2) 1 rfl,be.cell uR (h.dn 2) 2 rfl,be.cell uR (h.dn 2) 3 rfl,bx⟩<|?_;refine kN h (#[Z 0,Z 0,Z 0,aY none 0 0]) 85 λsX w h=>bT<|kA h (qD sX (J O.ak g9.toNat) ((aI g9.toNat).1) ((aI g9.toNat).2)) λw h=>I<|ks<|kM h<|gB H λxA HI H=>fG (Fh (bt:=((aI g9.toNat).1)) (bW:=((aI g9.toNat).2)) (cK:=(bL.up 3 (be.u7 uR))) HI h :) λw h=>ko [R (!xA)]<|I<|D5 H (λpL H=>?_) λpL H=>?_
    ·refine wk<|bn<|tn<|wl<|ko [Z (wi (g9+1)),Z (wi (g9+1))]<|I<|?_;exact λ_ r=>⟨_,⟨(wi (g9+1)),H,r.fj (h.se 3 [1,2])⟩,gQ _⟩
    refine aN dx<|qh h.m2 λh=>kA h (gK b2 #[Z 51,Z g9,Z 0] 81) λw h=>cB<|br<|tr<|tr<|br<|tr<|λ_ r=>zi r rfl aK h<|?_;replace H:=tg H Ln;cases H;exact⟨rfl,h.se 3 []⟩
   refine wx<|te<|te<|bh<|tn<|?_;exact λ_ r=>⟨(),gA H,r.fj h⟩
 clear h r;rintro _ a w ⟨rfl,j,r,h⟩;replace H:=C0 Ln;obtain⟨T9,H,HJ⟩:=CZ H;refine cY (β:=Unit) (λ_ a w=>.inl ()=T9/\∃j,cS [KX b2] 62 (lk [(1,u b1 0),(2,u b2 0)] j) a/\Fit z (aC (gK b1 #[aY bB O.ak.length cr] 24::gK b2 #[Z 0,Z 0,Z 0] 81::L)) w) ?_ ?_
 ·refine qq r<|aN [U]<|kL h 0<|ko [Z ((O.ak.length:Nat):Int),U]<|I<|wb<|λ_ r=>dQ (β:=Nat) id (λm a w=>∃rO:Int,(n5 K O m rO)=some T9/\∃j,cS [KX b2] 62 (lk [(1,u b1 0),(2,u b2 0),(36,aY bB O.ak.length cr),(37,Z ((O.ak.length:Nat):Int)),(38,Z rO)] j) a/\Fit z (aC (gK b1 #[aY bB O.ak.length cr] 24::gK b2 #[Z 0,Z 0,Z 0] 81::L)) w) K ⟨0,H,r.fj h⟩<|?_;clear h r H;rintro k2 a w ⟨rO,H,j,r,h⟩;cases k2 with
  | zero=>exact absurd H (by simp[n5])
  | succ k2 =>
   rw[n5]at H;refine qq r<|aN [cJ (rO<((O.ak.length:Nat):Int))]<|I<|wq<|ez H (λtu H=>?_) λtu H=>?_
   ·refine gD<|wq<|wb<|ks<|qg H λmG H=>bT<|kp (u (dA bB) (kg bB+rO.toNat*4)) (D8 85 cr rfl rfl be mG)<|xx (oP #[Z (J O.ak rO.toNat).aV,Z (J O.ak rO.toNat).dg,Z (J O.ak rO.toNat).bM,aY ((aI rO.toNat).1) (J O.ak rO.toNat).aq.length ((aI rO.toNat).2)]) (cs:=[Z (J O.ak rO.toNat).aV,Z (J O.ak rO.toNat).dg,Z (J O.ak rO.toNat).bM,aY ((aI rO.toNat).1) (J O.ak rO.toNat).aq.length ((aI rO.toNat).2)]) ⟨be.cell mG (h.dn 2) 0 rfl,be.cell mG (h.dn 2) 1 rfl,be.cell mG (h.dn 2) 2 rfl,be.cell mG (h.dn 2) 3 rfl,bx⟩<|?_;refine kN h (#[Z 0,Z 0,Z 0,aY none 0 0]) 85 λb21 w h=>bT<|kA h (qD b21 (J O.ak rO.toNat) ((aI rO.toNat).1) ((aI rO.toNat).2)) λw h=>I<|wl<|bT<|kM h<|bT<|kL (h.pick 1) 0<|gB H λNd Bg H=>?_;cases Nd with
    | inl q24 =>
     refine fG (Ai (xS:=bB) (yN:=cr) (Fi:=(ym.up 3 be)) (dh:=((aI rO.toNat).1)) (dr:=((aI rO.toNat).2)) (eP:=(bL.up 3 (be.u7 mG))) (uu:=bL.up 3 uu) (T8:=aI) Bg h :) λw h=>kl<|bn<|tn<|wl<|ko [Z (wi (rO+1)),Z (wi (rO+1))]<|I<|?_;exact λ_ r=>⟨_,⟨(wi (rO+1)),H,r.fj (h.se 3 [1,2])⟩,gQ _⟩
    | inr q25 =>
     have hc:=Aj (xS:=bB) (yN:=cr) (Fi:=(ym.up 3 be)) (dh:=((aI rO.toNat).1)) (dr:=((aI rO.toNat).2)) (eP:=(bL.up 3 (be.u7 mG))) (uu:=bL.up 3 uu) (T8:=aI) (H:=Bg) (h:=h);intro _ r;refine KR (wn rfl) r (f:=89) (args:=#[Z rO,oP #[Z (J O.ak rO.toNat).aV,Z (J O.ak rO.toNat).dg,Z (J O.ak rO.toNat).bM,aY ((aI rO.toNat).1) (J O.ak rO.toNat).aq.length ((aI rO.toNat).2)],aY bB O.ak.length cr]) aK hc ?_;clear hc h;rintro _ w ⟨rfl,h⟩;refine⟨_,rfl,?_⟩;refine s9<|nK<|nK<|s9<|nK<|qh h.m2 λh=>Gt r rfl aK h λw h=>?_;replace H:=tg H HJ;cases H;exact⟨rfl,h.se 3 []⟩
   refine wx<|te<|te<|bh<|tn<|?_;exact λ_ r=>⟨(),gA H,r.fj h⟩
 clear h r;rintro _ a w ⟨rfl,j,r,h⟩;replace H:=C0 HJ;refine qq r<|wq<|aN [U]<|kL h 0<|ko [Z ((O.ak.length:Nat):Int),U]<|I<|wb<|λ_ r=>dQ (β:=Nat) id (λm a w=>∃vk:Int,(pQ K O m vk)=some r0/\∃j,cS [KX b2] 62 (lk [(2,u b2 0),(50,aY bB O.ak.length cr),(51,Z ((O.ak.length:Nat):Int)),(52,Z vk)] j) a/\Fit z (aC (gK b2 #[Z 0,Z 0,Z 0] 81::L)) w) K ⟨0,H,r.fj (h.se 2 [1])⟩<|?_;clear h r H;rintro k3 a w ⟨vk,H,j,r,h⟩;cases k3 with
 | zero=>exact absurd H (by simp[pQ])
 | succ k3 =>
  rw[pQ]at H;refine qq r<|aN [cJ (vk<((O.ak.length:Nat):Int))]<|I<|wq<|ez H (λqc H=>?_) λqc H=>?_
  ·refine gD<|wq<|wb<|ks<|qg H λzp H=>bT<|kp (u (dA bB) (kg bB+vk.toNat*4)) (D8 85 cr rfl rfl be zp)<|xx (oP #[Z (J O.ak vk.toNat).aV,Z (J O.ak vk.toNat).dg,Z (J O.ak vk.toNat).bM,aY ((aI vk.toNat).1) (J O.ak vk.toNat).aq.length ((aI vk.toNat).2)]) (cs:=[Z (J O.ak vk.toNat).aV,Z (J O.ak vk.toNat).dg,Z (J O.ak vk.toNat).bM,aY ((aI vk.toNat).1) (J O.ak vk.toNat).aq.length ((aI vk.toNat).2)]) ⟨be.cell zp (h.dn 1) 0 rfl,be.cell zp (h.dn 1) 1 rfl,be.cell zp (h.dn 1) 2 rfl,be.cell zp (h.dn 1) 3 rfl,bx⟩<|?_;refine kN h (#[Z 0,Z 0,Z 0,aY none 0 0]) 85 λb29 w h=>bT<|kA h (qD b29 (J O.ak vk.toNat) ((aI vk.toNat).1) ((aI vk.toNat).2)) λw h=>I<|wl<|bT<|kM h<|gB H λAW T6 H=>?_;cases AW with
   | inl q32 =>
    refine fG (GF (dh:=((aI vk.toNat).1)) (dr:=((aI vk.toNat).2)) (eP:=(bL.up 2 (be.u7 zp))) (uu:=bL.up 2 uu) T6 h :) λw h=>kl<|bn<|tn<|wl<|ko [Z (wi (vk+1)),Z (wi (vk+1))]<|I<|?_;exact λ_ r=>⟨_,⟨(wi (vk+1)),H,r.fj (h.se 2 [1])⟩,gQ _⟩
   | inr q33 =>
    have hc:=GG (dh:=((aI vk.toNat).1)) (dr:=((aI vk.toNat).2)) (eP:=(bL.up 2 (be.u7 zp))) (uu:=bL.up 2 uu) (H:=T6) (h:=h);intro _ r;refine KR (wn rfl) r (f:=90) (args:=#[Z vk,oP #[Z (J O.ak vk.toNat).aV,Z (J O.ak vk.toNat).dg,Z (J O.ak vk.toNat).bM,aY ((aI vk.toNat).1) (J O.ak vk.toNat).aq.length ((aI vk.toNat).2)]]) aK hc ?_;clear hc h;rintro _ w ⟨rfl,h⟩;refine⟨_,rfl,?_⟩;refine s9<|nK<|nK<|s9<|nK<|qh h.m1 λh=>Gt r rfl aK h λw h=>?_;cases H;exact⟨rfl,h.se 2 []⟩
  refine wx<|te<|te<|bh<|tn<|aN [U]<|kA h (gK b2 #[Z 0,Z 0,Z 0] 81) λw h=>cB<|λ_ r=>zi r rfl aK h<|?_;cases H;exact⟨rfl,h.se 1 []⟩
def qf(O:Int):Option (Bool):=
 (if O>=1 then some (decide (O<=64))else some false)
theorem xB(H:qf O=some r0)(h:jh z (L) w) :
 nV 56 #[Z O] w z (R r0) (L):=by
 unfold qf at H;refine ke func56 9 rfl λj=>gS<|aN [U,cJ (O>=1),cJ (O>=1)]<|qI H (λc1 H=>?_) λc1 H=>?_
 ·refine cR (dT c1) [6,7] [Z O,cJ (O<=64)]<|ny (dT c1) (cJ (O<=64))<|ko [cJ (O<=64)]<|cB<|?_;cases H;exact gC h
 refine bU (dF c1) [6,7]<|nv (dF c1) (R false)<|bT<|cB<|?_;cases H;exact gC h
def qk(O:eM):Option (Bool):=
 (if O.cA>=1 then(if O.cA<=4096 then(if(1:Int)<=O.dS then(if O.dS<=O.jL then some (decide (O.jL<=4096))else some false)else some false)else some false)else some false)
theorem xC(H:qk O=some r0)(h:jh z (L) w) :
 nV 57 #[j8 O] w z (R r0) (L):=by
 unfold qk at H;refine ke func57 28 rfl λj=>ks<|kN h (lz O) 27 λb1 w h=>bT<|I<|aN [U]<|kL h 0<|ko [cJ (O.cA>=1),cJ (O.cA>=1)]<|qI H (λc2 H=>?_) λc2 H=>?_
 ·refine cR (dT c2) [7] [u b1 0]<|sv (dT c2) h 0<|cR (dT c2) [9] [cJ (O.cA<=4096)]<|ny (dT c2) (cJ (O.cA<=4096))<|ko [cJ (O.cA<=4096)]<|qI H (λc3 H=>?_) λc3 H=>?_
  ·refine cR (dT c3) [12] [u b1 1]<|sv (dT c3) h 1<|cR (dT c3) [14] [cJ ((1:Int)<=O.dS)]<|ny (dT c3) (cJ ((1:Int)<=O.dS))<|ko [cJ ((1:Int)<=O.dS)]<|qI H (λc4 H=>?_) λc4 H=>?_
   ·refine cR (dT c4) [17] [u b1 1]<|sv (dT c4) h 1<|cR (dT c4) [19] [u b1 2]<|sv (dT c4) h 2<|cR (dT c4) [21] [cJ (O.dS<=O.jL)]<|ny (dT c4) (cJ (O.dS<=O.jL))<|ko [cJ (O.dS<=O.jL)]<|qI H (λc5 H=>?_) λc5 H=>?_
    ·refine cR (dT c5) [24] [u b1 2]<|sv (dT c5) h 2<|cR (dT c5) [26] [cJ (O.jL<=4096)]<|ny (dT c5) (cJ (O.jL<=4096))<|ko [cJ (O.jL<=4096)]<|cB<|?_;cases H;exact gC (h.se 1 [])
    refine bU (dF c5) [24,25,26]<|nv (dF c5) (R false)<|bT<|cB<|?_;cases H;exact gC (h.se 1 [])
   refine bU (dF c4) [17,18,19,20,21]<|nv (dF c4) (R false)<|bT<|bU (rfl:false=false) [24,25,26]<|ko dx<|cB<|?_;cases H;exact gC (h.se 1 [])
  refine bU (dF c3) [12,13,14]<|nv (dF c3) (R false)<|bT<|bU (rfl:false=false) [17,18,19,20,21]<|ko dx<|bU (rfl:false=false) [24,25,26]<|ko dx<|cB<|?_;cases H;exact gC (h.se 1 [])
 refine bU (dF c2) [7,8,9]<|nv (dF c2) (R false)<|bT<|bU (rfl:false=false) [12,13,14]<|ko dx<|bU (rfl:false=false) [17,18,19,20,21]<|ko dx<|bU (rfl:false=false) [24,25,26]<|ko dx<|cB<|?_;cases H;exact gC (h.se 1 [])
def mW(K:Nat)(O:aM)(Y:List Int)(p2:Int)(p3:eM):Option (Int):=
 eY (wP K O) (λr3=>(if r3.OA=0 then if bI (0:Int) O.ak.length then(if((Y.length:Nat):Int)=(J O.ak 0).aV then eY (qf p2) (λr8=>(if r8=true then eY (qk p3) (λvC=>(if vC=true then some 0 else some 111))else some 110))else some 61)else none else some 60))
theorem uJ(H:mW K O Y p2 p3=some r0)(h:jh z (L) w)(be:BN L bB aI O.ak)(Kk:bL L 1 ck Kl Y)(uu:bL L 5 gJ (some ⟨1,0,none⟩) w6) :
 nV 36 #[oP #[aY bB O.ak.length cr],aY Kl Y.length Lj,Z p2,j8 p3] w z (Z r0) (L):=by
 unfold mW at H;refine ke func36 31 rfl λj=>ks<|kN h (#[aY bB O.ak.length cr]) 24 λb1 w h=>kN h (lz p3) 27 λb2 w h=>bT<|I<|wq<|wb<|ks<|xx (oP #[aY bB O.ak.length cr]) (cs:=[aY bB O.ak.length cr]) ⟨(h.pick 1).cell 0 rfl,bx⟩<|?_;refine gB H λr3 e4 H=>fG (HH (bB:=bB) (cr:=cr) (be:=(ym.up 2 be)) (uu:=bL.up 2 uu) (aI:=aI) e4 h :) λw h=>ko [U,R (r3.OA != 0),R (r3.OA != 0)]<|I<|qB H (λc5 H=>?_) λc5 H=>?_
 ·refine aN [U,Z ((Y.length:Nat):Int),U]<|kL (h.pick 1) 0<|qg H λc6 H=>kp (u (dA bB) (kg bB+0*4)) (D8 85 cr rfl rfl be c6)<|bT<|yY (Z (J O.ak 0).aV) (be.cell c6 (h.dn 2) 0 rfl)<|?_;refine ko [R (((Y.length:Nat):Int) != (J O.ak 0).aV),R (((Y.length:Nat):Int) != (J O.ak 0).aV)]<|I<|qB H (λc7 H=>?_) λc7 H=>?_
  ·refine ks<|gB H λr8 e9 H=>bT<|fG (xB e9 h :) λw h=>ko [R (!r8),R (!r8)]<|I<|D5 H (λoh H=>?_) λoh H=>?_
   ·refine ks<|kM h<|gB H λvC D9 H=>fG (xC D9 h :) λw h=>ko [R (!vC),R (!vC)]<|I<|D5 H (λyI H=>?_) λyI H=>?_
    ·refine wk<|bn<|tn<|gS<|wr<|?_;cases H;exact gC (h.se 2 [])
    refine gS<|wr<|br<|tr<|?_;cases H;exact gC (h.se 2 [])
   refine gS<|wr<|br<|tr<|?_;cases H;exact gC (h.se 2 [])
  refine gS<|wr<|br<|tr<|?_;cases H;exact gC (h.se 2 [])
 refine gS<|wr<|br<|tr<|?_;cases H;exact gC (h.se 2 [])
def my(O:af)(Y:Int):Option (Int):=
 (if Y<1 then some 21 else(if Y>(wi (O.mB-O.fl))then some 22 else some 0))
theorem zq(H:my O Y=some r0)(h:jh z (gE B0 O kD kB js lu L) w) :
 nV 211 #[u B0 0,Z Y] w z (Z r0) (gE B0 O kD kB js lu L):=by
 unfold my at H;refine ke func211 22 rfl λj=>gS<|wq<|aN [U,cJ (Y<1)]<|I<|ez H (λc5 H=>?_) λc5 H=>?_
 ·refine gS<|wr<|tr<|?_;cases H;exact gC h
 refine gD<|wq<|wq<|lC [(B0,0,[Z O.mB]),(B0,1,[Z O.fl])] [1,5,6,9,10] 15 h (λh=>⟨⟨h.cell 0 rfl,bx⟩,⟨h.cell 1 rfl,bx⟩,bx⟩) λw h hd =>ju hd 12 7 [([0],u B0 0),([1,2],R false)]<|λ_ r=>fV hd 11 3 rfl (aX r (c:=false) rfl) r (Z Y)<|?_;refine λ_ r=>fV hd 10 4 rfl (aX r (c:=false) rfl) r (u B0 0)<|?_;refine λ_ r=>fV hd 9 5 rfl (aX r (c:=false) rfl) r (u B0 0)<|?_;refine λ_ r=>fV hd 8 6 rfl (aX r (c:=false) rfl) r (u B0 0)<|?_;refine λ_ r=>fV hd 7 8 rfl (aX r (c:=false) rfl) r (u B0 0)<|?_;refine λ_ r=>fV hd 6 9 rfl (aX r (c:=false) rfl) r (u B0 0)<|?_;refine λ_ r=>fV hd 5 10 rfl (aX r (c:=false) rfl) r (u B0 1)<|?_;refine λ_ r=>mT hd 0 4 7 r (aX r (c:=false) rfl) rfl rfl<|?_;refine λ_ r=>mT hd 1 3 11 r (aX r (c:=false) rfl) rfl rfl<|?_;refine λ_ r=>fV hd 2 12 rfl (aX r (c:=false) rfl) r (Z (wi (O.mB-O.fl)))<|?_;refine λ_ r=>fV hd 1 13 rfl (aX r (c:=false) rfl) r (cJ (Y>(wi (O.mB-O.fl))))<|?_;refine iy hd 0 [(14,21,cJ (Y>(wi (O.mB-O.fl))))]<|kI<|tn<|ez H (λc6 H=>?_) λc6 H=>?_
 ·refine gS<|wr<|tr<|?_;cases H;exact gC h
 refine gD<|gS<|wr<|?_;cases H;exact gC h
def pn(O:af)(Y:Int):Option (Int×af):=
 some (O.fl,{O with fl:=wi (O.fl+Y)})
theorem Bh(H:pn O Y=some (r0,q0))(h:jh z (gE B0 O kD kB js lu L) w) :
 w7 212 #[u B0 0,Z Y] w z (Z r0) λx1 x2 x3 x4=>gE B0 q0 x1 x2 x3 x4 L:=by
 unfold pn at H;refine ke func212 19 rfl λj=>gS<|aN lR<|kL h 1<|bT<|I<|aN lR<|kL h 1<|ko [U,Z (wi (O.fl+Y)),U,U]<|kS h 1 (gK B0 #[Z O.mB,Z (wi (O.fl+Y)),aY kD O.cell.length kB,aY js O.log.length lu,Z O.sF,R O.watched] 78) λw h=>I<|aN dx<|cB<|?_;cases H;exact Hr kD kB js lu h
def gb(O:af)(Y:Int)(p2:Int)(p3:Int)(p4:Int)(p5:Bool):Option (af):=
 (if O.watched=true then if(O.log.length+1)*48<=140737488355328 then some ({O with log:=O.log++[(⟨O.sF,Y,p2,p3,p4,p5⟩:aR)]})else none else some O)
abbrev UZ (B:Nat) (S:af) (a2:fR) (c2:Nat) (a3:fR) (c3:Nat) (q:Nat):bj:=pts B (.cells #[Z S.mB,Z S.fl,.slice a2 S.cell.length c2,.slice a3 q c3,Z S.sF,R S.watched] 78)
theorem mz(H:gb O Y p2 p3 p4 p5=some q0)(h:jh z (gE B0 O kD kB js lu L) w) :
 w7 210 #[u B0 0,Z Y,Z p2,Z p3,Z p4,R p5] w z (.tuple #[]) λx1 x2 x3 x4=>gE B0 q0 x1 x2 x3 x4 L:=by
 unfold gb at H;refine ke func210 35 rfl λj=>aN lR<|kL h 5<|I<|FJ H (λc5 H=>?_) λc5 H=>?_
 ·refine qg H λc9 H=>lC [(B0,3,[aY js O.log.length lu]),(B0,4,[Z O.sF])] [2,3,6,7,14] 20 h (λh=>⟨⟨h.cell 3 rfl,bx⟩,⟨h.cell 4 rfl,bx⟩,bx⟩) λw h hd =>ju hd 8 16 [([0,1,2,5,6],u B0 0),([3],u B0 3),([7],u B0 4),([9],Z Y),([10],Z p2),([11],Z p3),([12],Z p4),([13],R p5)]<|fg hd 0 7 4 rfl<|fg hd 1 6 8 rfl<|iy hd 5 [(14,30,oP #[Z O.sF,Z Y,Z p2,Z p3,Z p4,R p5])]<|lQ 15 rfl<|kV h (#[Z O.sF,Z Y,Z p2,Z p3,Z p4,R p5]) 269 λb6 w h=>I<|λ_ r=>xE<|lI 16 rfl<|qh h.m3 λh=>kY (n0:=O.log.length) (c:=1) (bytes:=48) (wn rfl) rfl rfl r rfl aK aK sI (E:=269) (xs:=O.log) aK aK h (news:=[(⟨O.sF,Y,p2,p3,p4,p5⟩:aR)]) (m:=1) rfl ((h.pick 1).news rfl) c9 rfl λkQ lD w _ h r=>qq r<|I<|mJ<|iS 2 17 rfl (u B0 0)<|iS 1 18 rfl (u B0 3)<|lQ 19 rfl<|qh h.m2 λh=>kS h 3 (UZ B0 O kD kB kQ lD ((O.log++[(⟨O.sF,Y,p2,p3,p4,p5⟩:aR)]).length)) λw h=>I<|mJ<|kI<|?_;cases H;exact xv4 kD kB kQ lD (h.se 4 [0,3,1])
 refine wk<|?_;cases H;exact xv4 kD kB js lu h
def fO(O:af)(Y:Int):Option (Int×Int×af):=
 MR (some ()) (eY (my O Y) (λr7=>(if r7=0 then sR (pn O Y) (λAX Bi=>if 0<=Y/\(Bi.cell.length+Y.toNat)*8<=140737488355328 then eY (gb ({Bi with cell:=Bi.cell++List.replicate Y.toNat (0:Int)}) 4 AX Y 0 true) (λgz=>some (AX,0,gz))else none)else some (0,r7,O))))
abbrev FM (B:Nat) (S:af) (a2:fR) (c2:Nat) (a3:fR) (c3:Nat) (q:Nat):bj:=pts B (.cells #[Z S.mB,Z S.fl,.slice a2 q c2,.slice a3 S.log.length c3,Z S.sF,R S.watched] 78)
theorem mh(H:fO O Y=some (r0,r1,q0))(h:jh z (gE B0 O kD kB js lu L) w) :
 w7 207 #[u B0 0,Z Y] w z (.tuple #[Z r0,Z r1]) λx1 x2 x3 x4=>gE B0 q0 x1 x2 x3 x4 L:=by
 unfold fO at H;refine ke func207 37 rfl λj=>aN dx<|I<|gS<|qd0 H λo6 H hK5=>λ_ r=>cY (β:=Unit) (λ_ a w=>()=o6/\∃j,kH 37 (lk [(0,u B0 0),(1,Z Y),(6,u B0 0)] j) a/\Fit z (aC (gE B0 O kD kB js lu L)) w) ?_ ?_
 ·refine qq r<|aN dx<|I<|λ_ r=>dX r (b:=true) rfl<|qq r<|wl<|ko wA<|I<|?_;exact λ_ r=>⟨(),gA H,r.fj h⟩
 clear h r;rintro _ a w ⟨rfl,j,r,h⟩;replace H:=kk0 hK5;refine qq r<|wq<|ks<|gB H λr7 e8 H=>ko dx<|fG (zq e8 h :) λw h=>bT<|I<|aN [U,R (r7 != 0)]<|I<|qB H (λc9 H=>?_) λc9 H=>?_
 ·refine gD<|ks<|wo H λAX Bi D9 H=>ko dx<|kX (Bh D9 h :) λvy yp Dm BU w h=>bT<|I<|aN wA<|kL h 2<|bT<|qh h.m1 λh=>qg H λtu H=>λ_ r=>PM (kx:=.i64) (n0:=Bi.cell.length) (i:=Y) (m:=Y.toNat) (bytes:=8) (zc:=#[Z 0]) (0:Int) (wn rfl) rfl rfl r rfl aK aK (Int.toNat_of_nonneg tu.1).symm aE (E:=2) (xs:=Bi.cell) aK aK aK rfl h tu.2 rfl λEg Nc w _ h r=>qq r<|ko dx<|qh h.m1 λh=>kS h 2 (FM B0 Bi Eg Nc Dm BU ((Bi.cell++List.replicate Y.toNat (0:Int)).length)) λw h=>I<|ks<|gB H λgz Lp H=>ko lR<|kX (mz Lp h :) λmX uv BV Ef w h=>I<|aN lR<|cB<|?_;cases H;exact Ay mX uv BV Ef h
 refine aN lR<|cB<|tr<|?_;cases H;exact Ay kD kB js lu h
def q8(O:Int):Option (Int):=
 (if O<1 then some 0 else(if O>4096 then some 0 else some (wi ((1:Int)+(wi (O*10))))))
theorem vE(H:q8 O=some r0)(h:jh z (L) w) :
 nV 81 #[Z O] w z (Z r0) (L):=by
 unfold q8 at H;refine ke func81 12 rfl λj=>gS<|wq<|aN [U,cJ (O<1),cJ (O<1)]<|qI H (λc1 H=>?_) λc1 H=>?_
 ·refine bU (dT c1) [6,7]<|ny (dT c1) (R true)<|I<|λ_ r=>dX r (b:=true) rfl<|qq r<|gS<|wr<|tr<|?_;cases H;exact gC h
 refine cR (dF c1) [6,7] [Z O,cJ (O>4096)]<|nv (dF c1) (cJ (O>4096))<|I<|ez H (λc2 H=>?_) λc2 H=>?_
 ·refine gS<|wr<|tr<|?_;cases H;exact gC h
 refine gD<|aN [U,Z (wi (O*10)),Z (wi ((1:Int)+(wi (O*10)))),Z (wi ((1:Int)+(wi (O*10))))]<|cB<|?_;cases H;exact gC h
def gL(O:bg)(Y:Int):Option (Int):=
 some (wi ((wi (O.kE+1))+(wi (Y*10))))
theorem kZ(H:gL O Y=some r0)(h:jh z (L) w) :
 nV 91 #[fI O,Z Y] w z (Z r0) (L):=by
 unfold gL at H;refine ke func91 11 rfl λj=>ks<|kN h (hH O) 90 λb1 w h=>bT<|I<|aN [U]<|kL h 0<|ko [Z (wi (O.kE+1)),U,Z (wi (Y*10)),Z (wi ((wi (O.kE+1))+(wi (Y*10)))),Z (wi ((wi (O.kE+1))+(wi (Y*10))))]<|cB<|?_;cases H;exact gC (h.se 1 [])
def ql(O:af)(Y:Int):Option (Bool):=
 (if Y>=0 then some (decide (Y<O.fl))else some false)
theorem BW(H:ql O Y=some r0)(h:jh z (gE B0 O kD kB js lu L) w) :
 nV 213 #[u B0 0,Z Y] w z (R r0) (gE B0 O kD kB js lu L):=by
 unfold ql at H;refine ke func213 15 rfl λj=>gS<|aN [U,cJ (Y>=0),cJ (Y>=0)]<|qI H (λc5 H=>?_) λc5 H=>?_
 ·refine cR (dT c5) [8,9,10,11] [Z Y,u B0 0,u B0 0,u B0 1]<|sv (dT c5) h 1<|cR (dT c5) [13] [cJ (Y<O.fl)]<|ny (dT c5) (cJ (Y<O.fl))<|ko [cJ (Y<O.fl)]<|cB<|?_;cases H;exact gC h
 refine bU (dF c5) [8,9,10,11,12,13]<|nv (dF c5) (R false)<|bT<|cB<|?_;cases H;exact gC h
def ic(O:af)(Y:Int):Option (Bool):=
 eY (ql O Y) (λr5=>some (!r5))
theorem nW(H:ic O Y=some r0)(h:jh z (gE B0 O kD kB js lu L) w) :
 nV 209 #[u B0 0,Z Y] w z (R r0) (gE B0 O kD kB js lu L):=by
 unfold ic at H;refine ke func209 15 rfl λj=>gS<|ks<|gB H λr5 e6 H=>ko lR<|cR (rfl:false=false) [8,9,10,11] [u B0 0,u B0 0,u B0 0,Z Y]<|Zt (rfl:false=false) (BW e6 h :) λw h=>cR (rfl:false=false) [13] [R (!r5)]<|ko [R (!r5),R (!r5)]<|cB<|?_;cases H;exact gC h
def dY(O:af)(Y:Int)(p2:Int):Option (Int×af):=
 eY (ic O Y) (λr5=>(if r5=true then some (20,O)else if bI Y O.cell.length then eY (gb ({O with cell:=O.cell.set Y.toNat p2}) 1 Y p2 0 true) (λMF=>some (0,MF))else none))
theorem _root_.Go.Proofs.YtaiffafelihaaaaGreatDoor.SL.Fit.GH{α:Type}{e sz cc n:Nat}{enc:α->List Value}{ca:fR}{l:List α}{z w:World}{X:List bj}{B:Nat}{S:af}{a2:fR}{c2:Nat}{a3:fR}{c3:Nat}(h:Fit z (aC (rowOf e sz enc (.slice ca n cc) l::FM B S a2 c2 a3 c3 n::X)) w):Fit z (aC (rowOf e sz enc (.slice ca l.length cc) l::FM B S a2 c2 a3 c3 l.length::X)) w:=h.Om (FM B S a2 c2 a3 c3)
theorem fy(H:dY O Y p2=some (r0,q0))(h:jh z (gE B0 O kD kB js lu L) w) :
 w7 208 #[u B0 0,Z Y,Z p2] w z (Z r0) λx1 x2 x3 x4=>gE B0 q0 x1 x2 x3 x4 L:=by
 unfold dY at H;refine ke func208 21 rfl λj=>gS<|wq<|ks<|gB H λr5 e6 H=>ko dx<|fG (nW e6 h :) λw h=>I<|FJ H (λc7 H=>?_) λc7 H=>?_
 ·refine gS<|wr<|tr<|?_;cases H;exact Hr kD kB js lu h
 refine gD<|aN lR<|kL h 2<|qg H λc8 H=>ko dx<|ki (h.pick 1) c8<|qh h.m1 λh=>λ_ r=>BM (wn rfl) r aE h Y.toNat 0 (Z p2) (J O.cell Y.toNat) p2 (aS c8) λw h=>qq r<|I<|aN lR<|?_;replace h:=h.GH;refine gB H λMF UR H=>qh h.m2.m1.m2 λh=>kX (mz UR h :) λzu vy yp Dm w h=>I<|gS<|wr<|?_;cases H;exact Hr zu vy yp Dm h
def jC(K:Nat)(Y:Int)(vC:Int):Nat->af->Int->Option (bg×Int×af)
 | 0,_,_=>none
 | k1+1,Dn,vk=>(if vk<Y then eY (gL (⟨vC,Y⟩:bg) vk) (λyL=>sR (dY Dn yL 1) (λAW OJ=>(if AW=0 then(jC K Y vC k1 OJ (wi (vk+1)))else some ((⟨0,0⟩:bg),AW,OJ))))else some ((⟨vC,Y⟩:bg),0,Dn))
def oc(K:Nat)(O:af)(Y:Int):Option (bg×Int×af):=
 eY (q8 Y) (λr6=>(if r6=0 then some ((⟨0,0⟩:bg),3,O)else eY (q8 Y) (λr9=>pM (fO O r9) (λvC w8 Ht=>(if w8=0 then(jC K Y vC K Ht 0)else some ((⟨0,0⟩:bg),w8,Ht))))))
theorem BX(H:oc K O Y=some (r0,r1,q0))(h:jh z (gE B0 O kD kB js lu L) w) :
 w7 58 #[if_ 33 (u B0 0),Z Y] w z (.tuple #[fI r0,Z r1]) λx1 x2 x3 x4=>gE B0 q0 x1 x2 x3 x4 L:=by
 unfold oc at H;refine ke func58 53 rfl λj=>ks<|kN h (#[Z 0,Z 0]) 90 λb5 w h=>bT<|I<|wq<|aN dx<|I<|λ_ r=>iT r (b:=false) rfl<|qq r<|gD<|wq<|ks<|gB H λr6 e7 H=>bT<|fG (vE e7 h :) λw h=>ko [R (r6==0)]<|I<|ez H (λc8 H=>?_) λc8 H=>?_
 ·refine aN [U]<|kA h (gK b5 #[Z 0,Z 0] 90) λw h=>bT<|cB<|tr<|λ_ r=>pX [Z 0,Z 0] (Z 3) rfl r (h.held 0 rfl)<|?_;cases H;exact⟨kD,kB,js,lu,rfl,h.se 4 [1,2,3]⟩
 refine gD<|wq<|gB H λr9 HK H=>tH H λvC w8 Ht HI H=>lC [] [] 12 h (λ_=>trivial) λw h hd =>ju hd 7 19 [([0],if_ 33 (u B0 0)),([1],Z Y),([3,4],.func (.method "Reserve") #[if_ 33 (u B0 0)] #[]),([5],if_ 33 (u B0 0))]<|lQ 2 rfl<|fG (vE HK h :) λw h=>I<|λ_ r=>xE<|lI 6 rfl<|qh h.m3.m3.m3 λh=>qq r<|kX (mh HI h :) λDm BU Jz GI w h=>I<|mJ<|iS 4 7 rfl (.tuple #[Z vC,Z w8])<|iS 3 8 rfl (Z vC)<|iS 2 9 rfl (Z w8)<|iS 1 10 rfl (Z vC)<|iS 0 11 rfl (Z w8)<|kI<|tn<|wq<|aN [U,R (w8 != 0)]<|I<|qB H (λtu H=>?_) λtu H=>?_
 ·refine gD<|aN lR<|kN h (#[Z 0,Z 0]) 90 λNf w h=>kA h (gK Nf #[Z vC,Z Y] 90) λw h=>I<|wq<|aN dx<|I<|wb<|λ_ r=>dQ (β:=Nat) id (λm a w=>∃Lb:fR,∃Lc:Nat,∃XN:fR,∃XO:Nat,∃Dn:af,∃vk:Int,(jC K Y vC m Dn vk)=some (r0,r1,q0)/\∃j,kH 53 (lk [(0,if_ 33 (u B0 0)),(4,u b5 0),(8,u Nf 0),(35,Z Y),(36,Z vk)] j) a/\Fit z (aC (gE B0 Dn Lb Lc XN XO (gK b5 #[Z 0,Z 0] 90::gK Nf #[Z vC,Z Y] 90::L))) w) K ⟨Dm,BU,Jz,GI,Ht,0,H,r.fj (h.se 5 [1,2,3,4,0])⟩<|?_;clear h r H;rintro k1 a w ⟨Lb,Lc,XN,XO,Dn,vk,H,j,r,h⟩;cases k1 with
  | zero=>exact absurd H (by simp[jC])
  | succ k1 =>
   rw[jC]at H;refine qq r<|aN [cJ (vk<Y)]<|I<|wq<|ez H (λqc H=>?_) λqc H=>?_
   ·refine gD<|wq<|wb<|aN dx<|I<|wq<|gB H λyL T7 H=>wo H λAW OJ M5 H=>lC [(Nf,0,[Z vC,Z Y])] [3,4,5] 9 h (λh=>⟨((h.pick 4).held 0 rfl),bx⟩) λw h hd =>ju hd 4 39 [([0],if_ 33 (u B0 0)),([2],Z vk),([4,5],.func (.method "Store") #[if_ 33 (u B0 0)] #[]),([6],if_ 33 (u B0 0))]<|wL hd 0 3 1 rfl rfl<|lQ 3 rfl<|fG (kZ T7 h :) λw h=>I<|uH ⟨((h.pick 4).held 0 rfl),bx⟩ λhd =>lQ 7 rfl<|kX (fy M5 h :) λZw Zx x35 FN w h=>I<|mJ<|iS 0 8 rfl (Z AW)<|kI<|tn<|aN [U,R (AW != 0)]<|I<|qB H (λvQ H=>?_) λvQ H=>?_
    ·refine wk<|bn<|tn<|wl<|ko [Z (wi (vk+1)),Z (wi (vk+1))]<|I<|?_;exact λ_ r=>⟨_,⟨Zw,Zx,x35,FN,OJ,(wi (vk+1)),H,r.fj h⟩,gQ _⟩
    refine aN dx<|qh h.m3 λh=>kA h (gK b5 #[Z 0,Z 0] 90) λw h=>bT<|cB<|br<|tr<|tr<|br<|tr<|λ_ r=>pX [Z 0,Z 0] (Z AW) rfl r (h.held 0 rfl)<|?_;cases H;exact⟨Zw,Zx,x35,FN,rfl,h.se 5 [1,2,3]⟩
   refine wx<|te<|te<|bh<|tn<|ks<|kM (h.pick 4)<|qh h.m3 λh=>kA h (gK b5 #[Z vC,Z Y] 90) λw h=>bT<|cB<|λ_ r=>pX [Z vC,Z Y] (Z 0) rfl r (h.held 0 rfl)<|?_;cases H;exact⟨Lb,Lc,XN,XO,rfl,h.se 5 [1,2,3]⟩
 refine aN dx<|qh h.m3 λh=>kA h (gK b5 #[Z 0,Z 0] 90) λw h=>bT<|cB<|tr<|λ_ r=>pX [Z 0,Z 0] (Z w8) rfl r (h.held 0 rfl)<|?_;cases H;exact⟨Dm,BU,Jz,GI,rfl,h.se 4 [1,2,3]⟩
def mP(O:Int):Option (Int):=
 (if O<1 then some 0 else(if O>64 then some 0 else some (wi ((2:Int)+O))))
theorem sY(H:mP O=some r0)(h:jh z (L) w) :
 nV 82 #[Z O] w z (Z r0) (L):=by
 unfold mP at H;refine ke func82 11 rfl λj=>gS<|wq<|aN [U,cJ (O<1),cJ (O<1)]<|qI H (λc1 H=>?_) λc1 H=>?_
 ·refine bU (dT c1) [6,7]<|ny (dT c1) (R true)<|I<|λ_ r=>dX r (b:=true) rfl<|qq r<|gS<|wr<|tr<|?_;cases H;exact gC h
 refine cR (dF c1) [6,7] [Z O,cJ (O>64)]<|nv (dF c1) (cJ (O>64))<|I<|ez H (λc2 H=>?_) λc2 H=>?_
 ·refine gS<|wr<|tr<|?_;cases H;exact gC h
 refine gD<|aN [U,Z (wi ((2:Int)+O)),Z (wi ((2:Int)+O))]<|cB<|?_;cases H;exact gC h
def qm(O:af)(Y:Int):Option (fe×Int×af):=
 eY (mP Y) (λr6=>(if r6=0 then some ((⟨0,0⟩:fe),3,O)else eY (mP Y) (λr9=>pM (fO O r9) (λvC w8 Ht=>(if w8=0 then some ((⟨vC,Y⟩:fe),0,Ht)else some ((⟨0,0⟩:fe),w8,Ht))))))
theorem Dp(H:qm O Y=some (r0,r1,q0))(h:jh z (gE B0 O kD kB js lu L) w) :
 w7 59 #[if_ 33 (u B0 0),Z Y] w z (.tuple #[pO r0,Z r1]) λx1 x2 x3 x4=>gE B0 q0 x1 x2 x3 x4 L:=by
 unfold qm at H;refine ke func59 32 rfl λj=>ks<|kN h (#[Z 0,Z 0]) 92 λb5 w h=>bT<|I<|wq<|aN dx<|I<|λ_ r=>iT r (b:=false) rfl<|qq r<|gD<|wq<|ks<|gB H λr6 e7 H=>bT<|fG (sY e7 h :) λw h=>ko [R (r6==0)]<|I<|ez H (λc8 H=>?_) λc8 H=>?_
 ·refine aN [U]<|kA h (gK b5 #[Z 0,Z 0] 92) λw h=>bT<|cB<|tr<|λ_ r=>pX [Z 0,Z 0] (Z 3) rfl r (h.held 0 rfl)<|?_;cases H;exact⟨kD,kB,js,lu,rfl,h.se 4 [1,2,3]⟩
 refine gD<|wq<|gB H λr9 HK H=>tH H λvC w8 Ht HI H=>lC [] [] 12 h (λ_=>trivial) λw h hd =>ju hd 7 16 [([0],if_ 33 (u B0 0)),([1],Z Y),([3,4],.func (.method "Reserve") #[if_ 33 (u B0 0)] #[]),([5],if_ 33 (u B0 0))]<|lQ 2 rfl<|fG (sY HK h :) λw h=>I<|λ_ r=>xE<|lI 6 rfl<|qh h.m3.m3.m3 λh=>qq r<|kX (mh HI h :) λDm BU Jz GI w h=>I<|mJ<|iS 4 7 rfl (.tuple #[Z vC,Z w8])<|iS 3 8 rfl (Z vC)<|iS 2 9 rfl (Z w8)<|iS 1 10 rfl (Z vC)<|iS 0 11 rfl (Z w8)<|kI<|tn<|wq<|aN [U,R (w8 != 0)]<|I<|qB H (λtu H=>?_) λtu H=>?_
 ·refine gD<|aN lR<|qh h.m3 λh=>kA h (gK b5 #[Z vC,Z Y] 92) λw h=>bT<|cB<|λ_ r=>pX [Z vC,Z Y] (Z 0) rfl r (h.held 0 rfl)<|?_;cases H;exact⟨Dm,BU,Jz,GI,rfl,h.se 4 [1,2,3]⟩
 refine aN dx<|qh h.m3 λh=>kA h (gK b5 #[Z 0,Z 0] 92) λw h=>bT<|cB<|tr<|λ_ r=>pX [Z 0,Z 0] (Z w8) rfl r (h.held 0 rfl)<|?_;cases H;exact⟨Dm,BU,Jz,GI,rfl,h.se 4 [1,2,3]⟩
def sC(O:Int)(Y:Int):Option (Bool):=
 (if(1:Int)<=O then(if O<=Y then some (decide (Y<=4096))else some false)else some false)
theorem z7(H:sC O Y=some r0)(h:jh z (L) w) :
 nV 92 #[Z O,Z Y] w z (R r0) (L):=by
 unfold sC at H;refine ke func92 16 rfl λj=>gS<|aN [U,cJ ((1:Int)<=O),cJ ((1:Int)<=O)]<|qI H (λc1 H=>?_) λc1 H=>?_
 ·refine cR (dT c1) [8,9,10] [Z O,Z Y,cJ (O<=Y)]<|ny (dT c1) (cJ (O<=Y))<|ko [cJ (O<=Y)]<|qI H (λc2 H=>?_) λc2 H=>?_
  ·refine cR (dT c2) [13,14] [Z Y,cJ (Y<=4096)]<|ny (dT c2) (cJ (Y<=4096))<|ko [cJ (Y<=4096)]<|cB<|?_;cases H;exact gC h
  refine bU (dF c2) [13,14]<|nv (dF c2) (R false)<|bT<|cB<|?_;cases H;exact gC h
 refine bU (dF c1) [8,9,10]<|nv (dF c1) (R false)<|bT<|bU (rfl:false=false) [13,14]<|ko dx<|cB<|?_;cases H;exact gC h
def oQ(O:af)(Y:Int)(p2:Int):Option (cz×Int×af):=
 eY (sC Y p2) (λr6=>(if r6=true then pM (fO O (wi ((4:Int)+Y))) (λr9 AX Bi=>(if AX=0 then sR (dY Bi (wi (r9+2)) (wi (r9+3))) (λme tL=>(if me=0 then sR (dY tL (wi (r9+3)) Y) (λCF OL=>(if CF=0 then some ((⟨r9,p2⟩:cz),0,OL)else some ((⟨0,0⟩:cz),CF,OL)))else some ((⟨0,0⟩:cz),me,tL)))else some ((⟨0,0⟩:cz),AX,Bi)))else some ((⟨0,0⟩:cz),30,O)))
end
open Go SL GX
section
variable {K:Nat}
theorem CG{i:Nat}(h:i<4611686018427387904):wi ((i:Int)+1)=((i+1:Nat):Int):=by rw[eF aB];omega
theorem xD{α:Type}[Inhabited α]{n i:Nat}{x:α}(h:i<n):J (List.replicate n x) i=x:=by
 unfold J;rw[List.getD_eq_getElem?_getD,List.getElem?_replicate,aW h];rfl
theorem ud{α:Type}[Inhabited α]{l:List α}{i:Nat}(h:i<l.length):J l i∈l:=by
 unfold J;rw[List.getD_eq_getElem?_getD,List.getElem?_eq_getElem h];exact List.getElem_mem h
theorem JA{α β:Type}[Inhabited α][Inhabited β](f:α->β){l:List α}{i:Nat}(h:i<l.length):J (l.map f) i=f (J l i):=by
 unfold J;rw[List.getD_eq_getElem?_getD,List.getD_eq_getElem?_getD,List.getElem?_map,List.getElem?_eq_getElem h];rfl
abbrev Pt:=Int×Int
def nx(f:aD)(a:Int):List Int:=
 if (J f.aq a.toNat).aL=3 then [(J f.aq a.toNat).A]else if(J f.aq a.toNat).aL=9 then []else if(J f.aq a.toNat).aL=4 then [a+1,(J f.aq a.toNat).B]else [a+1]
def P2(f:aD)(sl a st:Int):Int:=
 if (J f.aq a.toNat).aL=5/\(J f.aq a.toNat).A=sl then 2 else if(J f.aq a.toNat).aL=6/\st=2 then 4 else st
def nw(V:List Pt)(s:Int):List Int->List Pt
 | []=>[]
 | n::ns=>if(n,s)∈V then nw V s ns else(n,s)::nw (V++[(n,s)]) s ns
def OM(f:aD)(sl:Int):Nat->List Pt->Nat->List Pt
 | 0,V,_=>V
 | d+1,V,k=>if k<V.length then OM f sl d (V++nw V (P2 f sl (J V k).1 (J V k).2) (nx f (J V k).1)) (k+1)else V
structure Ng(f:aD):Prop where
 lo:1<=f.aq.length
 hi:f.aq.length<=512
 nx:∀a:Int,0<=a->a<f.aq.length->∀n∈nx f a,0<=n/\n<f.aq.length
 kind:∀a:Int,0<=a->a<f.aq.length->0<=(J f.aq a.toNat).aL/\(J f.aq a.toNat).aL<10
def P3(s:Int):Prop:=s=1∨s=2∨s=4
structure Lt(f:aD)(V:List Pt):Prop where
 Ua:∀x∈V,0<=x.1/\x.1<f.aq.length/\P3 x.2
 nd:V.Nodup
theorem GJ:∀(n:Nat) (l:List Nat),l.Nodup->(∀x∈l,x<n)->l.length<=n
 | 0,l,_,h=>by cases l with | nil=>simp | cons a l=>exact absurd (h a (by simp)) aB
 | n+1,l,hd,h=>by
  by_cases e:n∈l
  ·have:=GJ n (l.erase n) (hd.erase n) (λx hx=>by
    have h1:=h x (List.mem_of_mem_erase hx);have:x≠n:=λe=>by subst e;exact(List.Nodup.not_mem_erase hd) hx
    omega)
   rw[List.length_erase_of_mem e]at this;omega
  ·have:=GJ n l hd (λx hx=>by
    have h1:=h x hx;have:x≠n:=λe'=>by subst e';exact e hx
    omega)
   omega
def cd(x:Pt):Nat:=x.1.toNat*3+(if x.2=1 then 0 else if x.2=2 then 1 else 2)
theorem Lt.len{f:aD}{V:List Pt}(h:Lt f V):V.length<=3*f.aq.length:=by
 have:=GJ (3*f.aq.length) (V.map cd) (by
  refine List.pairwise_map.2 (h.nd.imp_of_mem λ{x y} hx hy hxy e=>hxy ?_);obtain⟨a1,a2,a3⟩:=h.Ua x hx;obtain⟨b1,b2,b3⟩:=h.Ua y hy;obtain⟨x1,x2⟩:=x;obtain⟨y1,y2⟩:=y;unfold cd at e;simp only at *;rcases a3 with rfl | rfl | rfl<;>rcases b3 with rfl | rfl | rfl<;>simp at e<;>first | omega | (obtain rfl:x1=y1:=aB);rfl) (λn hn=>by
  obtain⟨x,hx,rfl⟩:=List.mem_map.1 hn;obtain⟨a1,a2,a3⟩:=h.Ua x hx;unfold cd;rcases a3 with h | h | h<;>simp only[h]<;>simp<;>omega)
 simpa using this
theorem JB{f:aD}{s:Int}(hs:P3 s):∀(ns:List Int) (V:List Pt),Lt f V->(∀n∈ns,0<=n/\n<f.aq.length)->Lt f (V++nw V s ns)/\∀n∈ns,(n,s)∈V++nw V s ns
 | [],V,h,_=>by simp[nw];exact h
 | n::ns,V,h,hn=>by
  unfold nw;split
  ·rename_i e;obtain⟨a,b⟩:=JB hs ns V h (λm hm=>hn m (Ku _ hm));refine⟨a,λm hm => ?_⟩;rcases List.mem_cons.1 hm with rfl | hm
   ·exact List.mem_append_left _ e
   ·exact b m hm
  ·rename_i e;have h':Lt f (V++[(n,s)]):=⟨λx hx=>by
    rcases List.mem_append.1 hx with hx | hx
    ·exact h.Ua x hx
    ·rw[List.mem_singleton.1 hx];exact⟨(hn n (by simp)).1,(hn n (by simp)).2,hs⟩,List.nodup_append.2 ⟨h.nd,by simp,λx hx y hy e'=>by rw[List.mem_singleton.1 hy]at e';subst e';exact e hx⟩⟩
   obtain⟨a,b⟩:=JB hs ns (V++[(n,s)]) h' (λm hm=>hn m (Ku _ hm));rw[pS,Iz]at a b;refine⟨a,λm hm => ?_⟩;rcases List.mem_cons.1 hm with rfl | hm
   ·simp
   ·exact b m hm
def CH(f:aD)(sl:Int)(V:List Pt)(k:Nat):Prop:=∀j,j<k->j<V.length->∀n∈nx f (J V j).1,(n,P2 f sl (J V j).1 (J V j).2)∈V
theorem XP{f:aD}{sl a s:Int}(h:P3 s):P3 (P2 f sl a s):=by
 unfold P2;split
 ·exact .inr (.inl rfl)
 ·split
  ·exact .inr (.inr rfl)
  ·exact h
theorem Eh{f:aD}(hf:Ng f){sl:Int}{V:List Pt}{k:Nat}(h:Lt f V)(hk:k<V.length)(hc:CH f sl V k) :
 Lt f (V++nw V (P2 f sl (J V k).1 (J V k).2) (nx f (J V k).1))/\CH f sl (V++nw V (P2 f sl (J V k).1 (J V k).2) (nx f (J V k).1)) (k+1):=by
 obtain⟨a1,a2,a3⟩:=h.Ua _ (ud hk);obtain⟨a,b⟩:=JB (XP (f:=f) (sl:=sl) (a:=(J V k).1) a3) (nx f (J V k).1) V h (hf.nx _ a1 a2);refine⟨a,λj hj hl n hn => ?_⟩;have hjV:j<V.length:=by omega
 rw[rZ hjV]at hn⊢;by_cases e:j=k
 ·subst e;exact b n hn
 ·exact List.mem_append_left _ (hc j aB hjV n hn)
theorem Sk{f:aD}(hf:Ng f){sl:Int}:∀(d k:Nat) (V:List Pt),k+d=3*f.aq.length->Lt f V->CH f sl V k->k<=V.length->
 Lt f (OM f sl d V k)/\CH f sl (OM f sl d V k) (OM f sl d V k).length/\(∀x∈V,x∈OM f sl d V k)
 | 0,k,V,hd,h,hc,hk=>by
  unfold OM;have:=h.len;obtain rfl:k=V.length:=by omega
  exact⟨h,hc,λ_ h=>h⟩
 | d+1,k,V,hd,h,hc,hk=>by
  unfold OM;split
  ·rename_i e;obtain⟨a,b⟩:=Eh hf h e hc;obtain⟨r1,r2,r3⟩:=Sk hf d (k+1) _ aB a b (by rw[jP];omega);exact⟨r1,r2,λx hx=>r3 x (List.mem_append_left _ hx)⟩
  ·rename_i e;obtain rfl:k=V.length:=by omega
   exact⟨h,hc,λ_ h=>h⟩
def wt(V:List Pt)(a:Int):Int:=(if(a,1)∈V then 1 else 0)+(if(a,2)∈V then 2 else 0)+(if(a,4)∈V then 4 else 0)
structure Ww(f:aD)(V:List Pt)(met:List Int):Prop where
 len:met.length=f.aq.length
 val:∀a,a<f.aq.length->J met a=wt V a
theorem aaV:∀(a b c:Bool) (s:Int),P3 s->((iN ((if a then 1 else 0)+(if b then 2 else 0)+(if c then 4 else 0)) s=0)↔(s=1/\a=false)∨(s=2/\b=false)∨(s=4/\c=false)):=by
 intro a b c s hs;rcases hs with rfl | rfl | rfl<;>cases a<;>cases b<;>cases c<;>decide
theorem FO{V:List Pt}{a s:Int}(hs:P3 s):iN (wt V a) s=0↔(a,s)∉V:=by
 have:=aaV (decide ((a,1)∈V)) (decide ((a,2)∈V)) (decide ((a,4)∈V)) s hs;simp only[AE,decide_eq_false_iff_not]at this;unfold wt;rw[this];rcases hs with rfl | rfl | rfl<;>simp
theorem XQ{V:List Pt}{a:Int}:0<=wt V a/\wt V a<=7:=by
 unfold wt;split<;>split<;>split<;>omega
theorem XR{V:List Pt}{n s:Int}(hs:P3 s)(hn:(n,s)∉V)(a:Int):wt (V++[(n,s)]) a=if a=n then wt V a+s else wt V a:=by
 unfold wt;by_cases e:a=n
 ·subst e;rw[aW rfl];rcases hs with rfl | rfl | rfl<;>simp[hn]<;>omega
 ·rw[cF e];simp[e]
theorem Ww.add{f:aD}{V:List Pt}{met:List Int}{n s:Int}(h:Ww f V met)(hs:P3 s)(hn:(n,s)∉V)(h0:0<=n)(h1:n<f.aq.length) :
 Ww f (V++[(n,s)]) (met.set n.toNat (wi (J met n.toNat+s))):=by
 refine⟨by rw[hU];exact h.len,λa ha => ?_⟩;rw[XR hs hn];by_cases e:n.toNat=a
 ·subst e;rw[tC (by rw[h.len];omega),oU,h.val _ ha];have:=XQ (V:=V) (a:=((n.toNat:Nat):Int));rw[eF];rcases hs with rfl | rfl | rfl<;>omega
 ·rw[yA e,eG,h.val a ha]
theorem Nh{f:aD}{s:Int}(hs:P3 s){ns:List Int}(PR:∀n∈ns,0<=n/\n<f.aq.length)(hlen:f.aq.length<=512)(hnl:ns.length<=2):∀(d k i:Nat) (V:List Pt) (met:List Int),i+d=ns.length->d<k->Lt f V->Ww f V met->
 ∃met',gM K s ns k met (V.map (·.1)) (V.map (·.2)) (i:Int)=some (met',(V++nw V s (ns.drop i)).map (·.1),(V++nw V s (ns.drop i)).map (·.2))/\Ww f (V++nw V s (ns.drop i)) met'
 | d,k,i,V,met,hd,hk,hV,hm=>by
  obtain⟨k,rfl⟩ :∃m,k=m+1:=⟨k-1,aB⟩;rw[gM];have hL:=hV.len;by_cases hi:i<ns.length
  ·obtain⟨d,rfl⟩ :∃m,d=m+1:=⟨d-1,aB⟩;have hdr:ns.drop i=J ns i::ns.drop (i+1):=by
    rw[Ob hi];unfold J;rw[List.getD_eq_getElem?_getD,List.getElem?_eq_getElem hi];rfl
   obtain⟨n0,n1⟩:=PR _ (ud hi);rw[oU,aW ⟨aB,aB⟩,dc,aW ⟨n0,by rw[hm.len];exact n1⟩,hm.val _ aB,show(((J ns i).toNat:Nat):Int)=J ns i by omega,CG aB,hdr];rw[nw];by_cases e:(J ns i,s)∈V
   ·rw[cF (λh=>(FO hs).1 h e),aW e];exact Nh hs PR hlen hnl d k (i+1) V met aB aB hV hm
   ·rw[aW ((FO hs).2 e),cF e,aW (by rw[Ce];omega),aW (by rw[Ce];omega)];have hV':Lt f (V++[(J ns i,s)]):=⟨λx hx=>by
     rcases List.mem_append.1 hx with hx | hx
     ·exact hV.Ua x hx
     ·rw[List.mem_singleton.1 hx];exact⟨n0,n1,hs⟩,List.nodup_append.2 ⟨hV.nd,by simp,λx hx y hy e'=>by rw[List.mem_singleton.1 hy]at e';subst e';exact e hx⟩⟩
    have hm':=hm.add hs e n0 n1;rw[hm.val _ aB,show(((J ns i).toNat:Nat):Int)=J ns i by omega]at hm';obtain⟨met',r1,r2⟩:=Nh hs PR hlen hnl d k (i+1) _ _ aB aB hV' hm';refine⟨met',?_,?_⟩
    ·rw[FZ,FZ,pS,Iz]at r1;exact r1
    ·rw[pS,Iz]at r2;exact r2
  ·rw[eG,yt aB];simp only[nw,zU];exact⟨met,rfl,hm⟩
theorem Lu{f:aD}{sl a s:Int}:oX (J f.aq a.toNat) sl s=some (P2 f sl a s)/\vh (J f.aq a.toNat) sl s=some (P2 f sl a s):=by
 unfold oX vh P2;by_cases h1:(J f.aq a.toNat).aL=5
 ·by_cases h2:(J f.aq a.toNat).A=sl
  ·simp[h1,h2]
  ·simp[h1,h2]
 ·by_cases h2:(J f.aq a.toNat).aL=6
  ·by_cases h3:s=2<;>simp[h1,h2,h3]
  ·simp[h1,h2]
theorem Sl{f:aD}(hlen:f.aq.length<=512){a:Int}(h0:0<=a)(h1:a<f.aq.length):oY f a=some (nx f a):=by
 unfold oY nx;rw[aW ⟨h0,h1⟩,eF (x:=a+1) aB];split
 ·rfl
 ·split
  ·rfl
  ·split<;>rfl
theorem JC{f:aD}{a:Int}:(nx f a).length<=2:=by
 unfold nx;split
 ·simp
 split
 ·simp
 split<;>simp
theorem Sm{f:aD}(hf:Ng f){sl:Int}(hK:3000<K):∀(d j k:Nat) (V:List Pt) (met:List Int),j+d=3*f.aq.length->d<k->j<=V.length->Lt f V->CH f sl V j->Ww f V met->
 ∃met',iq K f sl k met (V.map (·.1)) (V.map (·.2)) (j:Int)=some met'/\Ww f (OM f sl d V j) met'
 | d,j,k,V,met,hd,hk,hj,hV,hc,hm=>by
  obtain⟨k,rfl⟩ :∃m,k=m+1:=⟨k-1,aB⟩;rw[iq];have hL:=hV.len;have JD:=hf.hi;by_cases hi:j<V.length
  ·obtain⟨d,rfl⟩ :∃m,d=m+1:=⟨d-1,aB⟩;obtain⟨a1,a2,a3⟩:=hV.Ua _ (ud hi);rw[aW (by rw[Ce];omega),aW ⟨aB,by rw[Ce];omega⟩,dc,JA _ hi,JA _ hi,aW ⟨a1,a2⟩,aW ⟨aB,by rw[Ce];omega⟩,Lu.1,ay,Sl JD a1 a2,ay,CG aB];obtain⟨met',r1,r2⟩:=Nh (K:=K) (f:=f) (s:=P2 f sl (J V j).1 (J V j).2) (XP a3) (ns:=nx f (J V j).1) (hf.nx _ a1 a2) JD JC (nx f (J V j).1).length K 0 V met aB (by have:=JC (f:=f) (a:=(J V j).1);omega) hV hm;rw[pT]at r1;rw[r1,dz,OM,aW hi];obtain⟨b1,b2⟩:=Eh hf hV hi hc;exact Sm hf hK d (j+1) k _ _ aB aB (by rw[jP];omega) b1 b2 r2
  ·rw[cF (by rw[Ce];omega)];refine⟨met,rfl,?_⟩;cases d with
   | zero=>exact hm
   | succ d=>rw[OM,cF hi];exact hm
def reach(f:aD)(sl:Int):List Pt:=OM f sl (3*f.aq.length) [(0,1)] 0
theorem XS{f:aD}(hf:Ng f):Lt f [(0,1)]:=⟨λx hx=>by rw[List.mem_singleton.1 hx];exact⟨eL,by have:=hf.lo;omega,.inl rfl⟩,by simp⟩
theorem Sn{f:aD}(hf:Ng f)(sl:Int):Lt f (reach f sl)/\CH f sl (reach f sl) (reach f sl).length/\(0,1)∈reach f sl:=by
 obtain⟨a,b,c⟩:=Sk hf (sl:=sl) (3*f.aq.length) 0 [(0,1)] aB (XS hf) (λj hj=>aB) (by simp);exact⟨a,b,c _ (by simp)⟩
theorem Ni{f:aD}(hf:Ng f)(sl:Int)(hK:3000<K) :∃met,mg K f sl=some met/\Ww f (reach f sl) met:=by
 unfold mg;have h1:=hf.lo;have h2:=hf.hi;rw[aW ⟨aB,aB⟩,aW ⟨eL,by rw[lY];omega⟩];exact Sm hf hK (3*f.aq.length) 0 K [(0,1)] _ aB aB (by simp) (XS hf) (λj hj=>aB) ⟨by simp,λa ha=>by
  by_cases e:a=0
  ·subst e;rw[tC (by simpa using ha)];simp[wt]
  ·rw[yA aB,xD ha];unfold wt;rw[cF (by simp;omega),cF (by simp),cF (by simp)];rfl⟩
end
section
variable {K:Nat}
abbrev pt(x:Pt):aT:=⟨x.1,x.2⟩
theorem XT{x y:Pt}(h:pt x=pt y):x=y:=by
 obtain⟨a,b⟩:=x;obtain⟨c,d⟩:=y;simp only[pt,aT.mk.injEq]at h;rw[h.1,h.2]
theorem Lv{β:Type}:∀(l:List (aT×β)) (k:aT),(xd l k).isSome=true↔k∈l.map (·.1)
 | [],k=>by simp[xd]
 | (a,b)::l,k=>by
  unfold xd;by_cases e:k=a
  ·simp[e]
  ·rw[cF e,Lv l k];simp[e]
theorem mem_keys{V:List Pt}{m:List (aT×aT)}(h:m.map (·.1)=V.map pt)(x:Pt):(xd m (pt x)).isSome=true↔x∈V:=by
 rw[Lv,h,List.mem_map];exact⟨λ⟨y,hy,e⟩=>XT e▸ hy,λhx=>⟨x,hx,rfl⟩⟩
theorem JE{f:aD}{s:Int}(hs:P3 s){ns:List Int}(l8:List aT)(PR:∀n∈ns,0<=n/\n<f.aq.length)(hlen:f.aq.length<=512)(hnl:ns.length<=2):∀(d k i:Nat) (V:List Pt) (m:List (aT×aT)) (W:List aT),i+d=ns.length->d<k->Lt f V->m.map (·.1)=V.map pt->W.length<=V.length->
 ∃m',jB K l8 s ns k m W (i:Int)=some (m',W++(nw V s (ns.drop i)).map pt)/\m'.map (·.1)=(V++nw V s (ns.drop i)).map pt
 | d,k,i,V,m,W,hd,hk,hV,hm,hW=>by
  obtain⟨k,rfl⟩ :∃m,k=m+1:=⟨k-1,aB⟩;rw[jB];have hL:=hV.len;by_cases hi:i<ns.length
  ·obtain⟨d,rfl⟩ :∃m,d=m+1:=⟨d-1,aB⟩;have hdr:ns.drop i=J ns i::ns.drop (i+1):=by
    rw[Ob hi];unfold J;rw[List.getD_eq_getElem?_getD,List.getElem?_eq_getElem hi];rfl
   obtain⟨n0,n1⟩:=PR _ (ud hi);rw[oU,aW ⟨aB,aB⟩,dc,CG aB,hdr,nw];by_cases e:(J ns i,s)∈V
   ·rw[aW ((mem_keys hm (J ns i,s)).2 e),aW e];exact JE hs l8 PR hlen hnl d k (i+1) V m W aB aB hV hm hW
   ·have e0:¬(xd m (⟨J ns i,s⟩:aT)).isSome=true:=λh=>e ((mem_keys hm (J ns i,s)).1 h);have e1:xd m (⟨J ns i,s⟩:aT)=none:=by
     cases h:xd m (⟨J ns i,s⟩:aT)with
     | none=>rfl
     | some x=>rw[h]at e0;exact absurd rfl e0
    rw[cF e0,cF e,aW e1,oU];have hV':Lt f (V++[(J ns i,s)]):=⟨λx hx=>by
     rcases List.mem_append.1 hx with hx | hx
     ·exact hV.Ua x hx
     ·rw[List.mem_singleton.1 hx];exact⟨n0,n1,hs⟩,List.nodup_append.2 ⟨hV.nd,by simp,λx hx y hy e'=>by rw[List.mem_singleton.1 hy]at e';subst e';exact e hx⟩⟩
    obtain⟨m',r1,r2⟩:=JE hs l8 PR hlen hnl d k (i+1) (V++[(J ns i,s)]) (m++[((⟨J ns i,s⟩:aT),J l8 0)]) (W++[(⟨J ns i,s⟩:aT)]) aB aB hV' (by rw[FZ,FZ,hm];rfl) (by simp;omega);refine⟨m',?_,?_⟩
    ·rw[pS,Iz]at r1;exact r1
    ·rw[pS,Iz]at r2;exact r2
  ·rw[eG,yt aB];simp only[nw,zU,AD];exact⟨m,rfl,hm⟩
theorem adi{k:Int}(h0:0<=k)(h1:k<10):(J w6 k.toNat).next = !(decide (k=3)||decide (k=9)):=by
 rcases(by omega:k=0∨k=1∨k=2∨k=3∨k=4∨k=5∨k=6∨k=7∨k=8∨k=9)with rfl | rfl | rfl | rfl | rfl | rfl | rfl | rfl | rfl | rfl<;>rfl
theorem P4{f:aD}(hf:Ng f){a:Int}(h0:0<=a)(h1:a<f.aq.length):vi f a=some (nx f a):=by
 have JD:=hf.hi;obtain⟨k0,k1⟩:=hf.kind a h0 h1;have hn:=hf.nx a h0 h1;unfold vi;rw[aW ⟨h0,h1⟩,aW ⟨k0,by exact k1⟩,adi k0 k1,eF (x:=a+1) aB];unfold nx at hn⊢;by_cases e3:(J f.aq a.toNat).aL=3
 ·simp[e3]
 ·by_cases e9:(J f.aq a.toNat).aL=9
  ·simp[e9]
  ·by_cases e4:(J f.aq a.toNat).aL=4
   ·have:a+1<f.aq.length:=by rw[cF e3,cF e9,aW e4]at hn;exact(hn (a+1) (by simp)).2
    simp[e4,this]
   ·have:a+1<f.aq.length:=by rw[cF e3,cF e9,cF e4]at hn;exact(hn (a+1) (by simp)).2
    simp[e3,e4,e9,this]
theorem ON{f:aD}(hf:Ng f){sl:Int}(hK:3000<K):∀(d j k:Nat) (V:List Pt) (m:List (aT×aT)),j+d=3*f.aq.length->d<k->j<=V.length->Lt f V->CH f sl V j->m.map (·.1)=V.map pt->
 ∃m',kP K f sl k m ((V.drop j).map pt)=some m'/\m'.map (·.1)=(OM f sl d V j).map pt
 | d,j,k,V,m,hd,hk,hj,hV,hc,hm=>by
  obtain⟨k,rfl⟩ :∃m,k=m+1:=⟨k-1,aB⟩;rw[kP];have hL:=hV.len;have JD:=hf.hi;by_cases hi:j<V.length
  ·obtain⟨d,rfl⟩ :∃m,d=m+1:=⟨d-1,aB⟩;obtain⟨a1,a2,a3⟩:=hV.Ua _ (ud hi);have hl:((V.drop j).map pt).length=V.length-j:=by simp
   have h0:J ((V.drop j).map pt) 0=pt (J V j):=by
    rw[JA _ (by simp;omega)];congr 1;unfold J;simp[List.getD_eq_getElem?_getD]
   have h1:((V.drop j).map pt).drop 1=(V.drop (j+1)).map pt:=by rw[<-List.map_drop,List.drop_drop]
   rw[aW (by rw[hl];omega),aW ⟨eL,by rw[hl];omega⟩,aW ⟨eL,by rw[hl];omega⟩,aW (by rw[hl];omega),h0,h1,uS,ay,cF eL,aW ⟨a1,a2⟩,Lu.2,ay,P4 hf a1 a2,ay];obtain⟨m',r1,r2⟩:=JE (K:=K) (f:=f) (s:=P2 f sl (J V j).1 (J V j).2) (XP a3) (ns:=nx f (J V j).1) ((V.drop j).map pt) (hf.nx _ a1 a2) JD JC (nx f (J V j).1).length K 0 V m ((V.drop (j+1)).map pt) aB (by have:=JC (f:=f) (a:=(J V j).1);omega) hV hm (by simp);rw[pT]at r1;rw[r1,fh,OM,aW hi,ni];rw[ni]at r2;obtain⟨b1,b2⟩:=Eh hf hV hi hc;rw[show(V.drop (j+1)).map pt++(nw V (P2 f sl (J V j).1 (J V j).2) (nx f (J V j).1)).map pt=((V++nw V (P2 f sl (J V j).1 (J V j).2) (nx f (J V j).1)).drop (j+1)).map pt by rw[Is aB,FZ]];exact ON hf hK d (j+1) k _ m' aB aB (by rw[jP];omega) b1 b2 r2
  ·have:(V.drop j).map pt=[]:=by rw[yt aB];rfl
   rw[this,cF (by simp)];refine⟨m,rfl,?_⟩;cases d with
   | zero=>exact hm
   | succ d=>rw[OM,cF hi];exact hm
theorem U0{f:aD}(hf:Ng f)(sl:Int)(hK:3000<K) :∃m,qd K f sl=some m/\m.map (·.1)=(reach f sl).map pt:=by
 unfold qd;have h2:=hf.hi;exact ON hf hK (3*f.aq.length) 0 K [(0,1)] _ aB aB (by simp) (XS hf) (λj hj=>aB) rfl
structure OO(f:aD)(afw:List (List Int))(n:Nat):Prop where
 len:afw.length=f.aq.length
 wid:∀a,a<f.aq.length->(J afw a).length=f.bM.toNat
 val:∀a,a<f.aq.length->∀c,c<n->c<f.bM.toNat->J (J afw a) c=wt (reach f c) a
 zero:∀a,a<f.aq.length->∀c,n<=c->c<f.bM.toNat->J (J afw a) c=0
theorem So{f:aD}{afw Q:List (List Int)}{n:Nat}(h:OO f afw n)(k:OO f Q n):afw=Q:=by
 have ext:∀{α:Type} [Inhabited α] (x y:List α),x.length=y.length->(∀i,i<x.length->J x i=J y i)->x=y:=by
  intro α _ x y hl he;refine Kt hl λi h1 h2 => ?_;have:=he i h1;unfold J at this;rw[List.getD_eq_getElem?_getD,List.getD_eq_getElem?_getD,List.getElem?_eq_getElem h1,List.getElem?_eq_getElem h2]at this;exact this
 refine ext afw Q (by rw[h.len,k.len]) λi hi => ?_;rw[h.len]at hi;exact ext _ _ (by rw[h.wid i hi,k.wid i hi]) λc hc=>by
  rw[h.wid i hi]at hc;by_cases e:c<n
  ·rw[h.val i hi c e hc,k.val i hi c e hc]
  ·rw[h.zero i hi c aB hc,k.zero i hi c aB hc]
end
section
variable {K:Nat}
theorem pU{α:Type}[Inhabited α]{l:List α}{i k:Nat}{x:α}(h:i<l.length):J (l.set i x) k=if k=i then x else J l k:=by
 by_cases e:k=i
 ·subst e;rw[tC h,aW rfl]
 ·rw[yA (λe'=>e e'.symm),cF e]
def Zero(f:aD)(afw:List (List Int))(i:Nat):Prop:=afw.length=f.aq.length/\∀a,a<i->J afw a=List.replicate f.bM.toNat 0
theorem OP{f:aD}(hf:Ng f)(h0:0<=f.bM)(h8:f.bM<=8):∀(d k i:Nat) (afw:List (List Int)),i+d=f.aq.length->d<k->Zero f afw i->
 ∃R',kJ K f k afw (i:Int)=some R'/\ot K f k afw (i:Int)=some R'/\Zero f R' f.aq.length
 | d,k,i,afw,hd,hk,hz=>by
  obtain⟨k,rfl⟩ :∃m,k=m+1:=⟨k-1,aB⟩;rw[kJ,ot];have h2:=hf.hi;by_cases hi:i<f.aq.length
  ·obtain⟨d,rfl⟩ :∃m,d=m+1:=⟨d-1,aB⟩;rw[aW (by rw[lY];omega),aW ⟨h0,aB⟩,aW ⟨aB,by rw[hz.1];omega⟩,aW (by rw[lY];omega),aW ⟨h0,aB⟩,aW ⟨aB,by rw[hz.1];omega⟩,dc,CG aB];exact OP hf h0 h8 d k (i+1) _ aB aB ⟨by rw[hU];exact hz.1,λa ha=>by
    rw[pU (by rw[hz.1];exact hi)];split
    ·rfl
    ·exact hz.2 a aB⟩
  ·rw[cF (by rw[lY];omega),cF (by rw[lY];omega)];obtain rfl:i=f.aq.length:=by omega
   exact⟨afw,rfl,rfl,hz⟩
structure Sp(f:aD)(afw R':List (List Int))(c:Nat)(i:Nat)(v:Nat->Int):Prop where
 len:R'.length=f.aq.length
 wid:∀a,a<f.aq.length->(J R' a).length=f.bM.toNat
 lo:∀a,a<i->a<f.aq.length->J (J R' a) c=v a
 hi:∀a,i<=a->a<f.aq.length->J (J R' a) c=J (J afw a) c
 Ub:∀a,a<f.aq.length->∀b,b≠c->J (J R' a) b=J (J afw a) b
theorem Sp.tab{f:aD}{afw R':List (List Int)}{c:Nat}(h:OO f afw c)(k:Sp f afw R' c f.aq.length (λa=>wt (reach f c) a)):OO f R' (c+1):=by
 refine⟨k.len,k.wid,λa ha b hb hs => ?_,λa ha b hb hs => ?_⟩
 ·by_cases e:b=c
  ·subst e;exact k.lo a ha ha
  ·rw[k.Ub a ha b e];exact h.val a ha b aB hs
 ·rw[k.Ub a ha b aB];exact h.zero a ha b aB hs
theorem OQ{f:aD}(hf:Ng f){c:Nat}(hc:c<f.bM.toNat){met:List Int}(hm:met.length=f.aq.length){afw:List (List Int)}:∀(d k i:Nat) (Q:List (List Int)),i+d=f.aq.length->d<k->Sp f afw Q c i (λa=>J met a)->
 ∃R',kK K f (c:Int) met k Q (i:Int)=some R'/\Sp f afw R' c f.aq.length (λa=>J met a)
 | d,k,i,Q,hd,hk,hz=>by
  obtain⟨k,rfl⟩ :∃m,k=m+1:=⟨k-1,aB⟩;rw[kK];have h2:=hf.hi;by_cases hi:i<f.aq.length
  ·obtain⟨d,rfl⟩ :∃m,d=m+1:=⟨d-1,aB⟩;have hl:=hz.len;have hw:=hz.wid i hi;rw[aW (by rw[lY];omega),aW ⟨aB,aB⟩,aW ⟨aB,aB⟩,dc,aW ⟨aB,by rw[hw];omega⟩,dc,CG aB];refine OQ hf hc hm d k (i+1) _ aB aB ⟨by rw[hU];exact hl,λa ha => ?_,λa ha hb => ?_,λa ha hb => ?_,λa ha b hb => ?_⟩
   ·rw[pU aB];split
    ·rw[hU];exact hw
    ·exact hz.wid a ha
   ·rw[pU aB];split
    ·rename_i e;subst e;rw[tC aB]
    ·exact hz.lo a aB hb
   ·rw[pU aB,eG];exact hz.hi a aB hb
   ·rw[pU aB];split
    ·rename_i e;subst e;rw[yA (λe=>hb e.symm)];exact hz.Ub a ha b hb
    ·exact hz.Ub a ha b hb
  ·rw[cF (by rw[lY];omega)];obtain rfl:i=f.aq.length:=by omega
   exact⟨Q,rfl,hz⟩
theorem Sp.zero{f:aD}{afw:List (List Int)}{c n:Nat}(h:OO f afw n)(v:Nat->Int):Sp f afw afw c 0 v:=⟨h.len,h.wid,λa ha=>aB,λ_ _ _=>rfl,λ_ _ _ _=>rfl⟩
theorem OR{f:aD}(hf:Ng f)(h0:0<=f.bM)(h8:f.bM<=8)(hK:3000<K):∀(d k i:Nat) (afw:List (List Int)),i+d=f.bM.toNat->d<k->OO f afw i->
 ∃R',kO K f k afw (i:Int)=some R'/\OO f R' f.bM.toNat
 | d,k,i,afw,hd,hk,hz=>by
  obtain⟨k,rfl⟩ :∃m,k=m+1:=⟨k-1,aB⟩;rw[kO];have h2:=hf.hi;by_cases hi:i<f.bM.toNat
  ·obtain⟨d,rfl⟩ :∃m,d=m+1:=⟨d-1,aB⟩;obtain⟨met,e1,e2⟩:=Ni (K:=K) hf (i:Int) hK;obtain⟨R',r1,r2⟩:=OQ (K:=K) hf hi e2.len f.aq.length K 0 afw aB aB (Sp.zero hz _);rw[oU,e1,ay,pT]at *;rw[r1,ay,CG aB];refine OR hf h0 h8 hK d k (i+1) R' aB aB (Sp.tab hz ⟨r2.len,r2.wid,λa ha hb => ?_,r2.hi,r2.Ub⟩);rw[r2.lo a ha hb];exact e2.val a hb
  ·rw[eG];obtain rfl:i=f.bM.toNat:=by omega
   exact⟨afw,rfl,hz⟩
theorem XU:∀(a b c:Bool) (s:Int),P3 s->(Q8 ((if a then 1 else 0)+(if b then 2 else 0)+(if c then 4 else 0)) s)=(if a||decide (s=1)then 1 else 0)+(if b||decide (s=2)then 2 else 0)+(if c||decide (s=4)then 4 else 0):=by
 intro a b c s hs;rcases hs with rfl | rfl | rfl<;>cases a<;>cases b<;>cases c<;>decide
theorem aaW{V:List Pt}{a s:Int}(hs:P3 s):Q8 (wt V a) s=wt (V++[(a,s)]) a:=by
 have:=XU (decide ((a,1)∈V)) (decide ((a,2)∈V)) (decide ((a,4)∈V)) s hs;simp only[AE]at this;unfold wt;rw[this];simp only[List.mem_append,List.mem_singleton,Prod.mk.injEq,true_and];rcases hs with rfl | rfl | rfl<;>simp
theorem aaX{V:List Pt}{a b s:Int}(h:a≠b):wt (V++[(b,s)]) a=wt V a:=by unfold wt;simp[h]
theorem XV{V W:List Pt}(h:∀x,x∈V↔x∈W)(a:Int):wt V a=wt W a:=by unfold wt;simp only[h]
theorem OS{f:aD}(hf:Ng f){c:Nat}(hc:c<f.bM.toNat){afw:List (List Int)}:∀(l:List (aT×aT)) (U:List Pt) (Q:List (List Int)),(∀x∈l,0<=x.1.J/\x.1.J<f.aq.length/\P3 x.1.state)->Sp f afw Q c f.aq.length (λa=>wt U a)->
 ∃R',l.foldlM (λs x=>ou K (c:Int) x s) Q=some R'/\Sp f afw R' c f.aq.length (λa=>wt (U++l.map (λx=>(x.1.J,x.1.state))) a)
 | [],U,Q,_,hz=>⟨Q,rfl,by simpa using hz⟩
 | x::l,U,Q,hl,hz=>by
  obtain⟨a1,a2,a3⟩:=hl x (by simp);have hL:=hz.len;have hw:=hz.wid x.1.J.toNat aB;rw[List.foldlM_cons,ou,aW ⟨a1,aB⟩,aW ⟨aB,by rw[hw];omega⟩,dc];have hv:J (J Q x.1.J.toNat) c=wt U ((x.1.J.toNat:Nat):Int):=hz.lo x.1.J.toNat aB aB;rw[hv,aaW a3,show((x.1.J.toNat:Nat):Int)=x.1.J by omega];obtain⟨R',r1,r2⟩:=OS hf hc (afw:=afw) l (U++[(x.1.J,x.1.state)]) (Q.set x.1.J.toNat ((J Q x.1.J.toNat).set c (wt (U++[(x.1.J,x.1.state)]) x.1.J))) (λy hy=>hl y (Ku _ hy)) (by
   refine⟨by rw[hU];exact hL,λa ha => ?_,λa ha hb => ?_,λa ha hb=>aB,λa ha b hb => ?_⟩
   ·rw[pU aB];split
    ·rw[hU];exact hw
    ·exact hz.wid a ha
   ·rw[pU aB];split
    ·rename_i e;subst e;rw[tC aB,show((x.1.J.toNat:Nat):Int)=x.1.J by omega]
    ·rename_i e;rw[hz.lo a ha hb,aaX aB]
   ·rw[pU aB];split
    ·rename_i e;subst e;rw[yA (λe=>hb e.symm)];exact hz.Ub _ ha b hb
    ·exact hz.Ub a ha b hb)
  refine⟨R',r1,?_⟩;rw[pS,Iz]at r2;exact r2
theorem IX{f:aD}(hf:Ng f)(h0:0<=f.bM)(h8:f.bM<=8)(hK:3000<K):∀(d k i:Nat) (afw:List (List Int)),i+d=f.bM.toNat->d<k->OO f afw i->
 ∃R',ow K f k afw (i:Int)=some R'/\OO f R' f.bM.toNat
 | d,k,i,afw,hd,hk,hz=>by
  obtain⟨k,rfl⟩ :∃m,k=m+1:=⟨k-1,aB⟩;rw[ow];by_cases hi:i<f.bM.toNat
  ·obtain⟨d,rfl⟩ :∃m,d=m+1:=⟨d-1,aB⟩;obtain⟨m,e1,e2⟩:=U0 (K:=K) hf (i:Int) hK;obtain⟨v1,v2,v3⟩:=Sn hf (i:Int);have key:∀l':List (aT×aT),l'.Perm m->∃R',l'.foldlM (λs x=>ou K (i:Int) x s) afw=some R'/\OO f R' (i+1):=by
    intro l' hp;have hr:∀x∈l',(x.1.J,x.1.state)∈reach f (i:Int):=λx hx=>by
     have:x.1∈m.map (·.1):=List.mem_map.2 ⟨x,hp.mem_iff.1 hx,rfl⟩;rw[e2]at this;obtain⟨y,hy,e⟩:=List.mem_map.1 this;rw[<-e];exact hy
    obtain⟨R',r1,r2⟩:=OS (K:=K) hf hi (afw:=afw) l' [] afw (λx hx=>v1.Ua _ (hr x hx)) ⟨hz.len,hz.wid,λa _ ha=>by rw[hz.zero a ha i (j9 _) hi];rfl,λa _ _=>rfl,λ_ _ _ _=>rfl⟩;refine⟨R',r1,Sp.tab hz ⟨r2.len,r2.wid,λa ha hb => ?_,r2.hi,r2.Ub⟩⟩;rw[r2.lo a ha hb];refine XV (λx => ?_) a;rw[zb,List.mem_map];refine⟨λ⟨y,hy,e⟩=>e▸ hr y hy,λhx => ?_⟩;have:pt x∈m.map (·.1):=by rw[e2];exact List.mem_map.2 ⟨x,hx,rfl⟩
    obtain⟨y,hy,e⟩:=List.mem_map.1 this;exact⟨y,hp.mem_iff.2 hy,by rw[e]⟩
   obtain⟨R',r1,r2⟩:=key m (List.Perm.refl _);have aaY:u9 (ou K (i:Int)) afw m=some R':=KU λl' hp=>by
    obtain⟨R2,q1,q2⟩:=key l' hp;rw[q1,So q2 r2]
   rw[oU,e1,ay,aaY,ay,ay,CG aB];exact IX hf h0 h8 hK d k (i+1) R' aB aB r2
  ·rw[eG];obtain rfl:i=f.bM.toNat:=by omega
   exact⟨afw,rfl,hz⟩
end
section
variable {K:Nat}
def Nj(x:Int):Prop:=-9223372036854775808<=x/\x<=9223372036854775807
structure P64(p:aM):Prop where
 f:∀f∈p.ak,Nj f.aV/\Nj f.dg/\Nj f.bM
 c:∀f∈p.ak,∀c∈f.aq,Nj c.A/\Nj c.B/\Nj c.C/\Nj c.K
def uT(x n:Int):Bool:=decide (0<=x)&&decide (x<n)
theorem v5{x n:Int}:uT x n=true↔0<=x/\x<n:=by simp[uT]
structure Km(f:aD):Prop where
 O:0<=f.aV
 p8:f.aV<=8
 r1:1<=f.dg
 rp:f.aV<=f.dg
 r16:f.dg<=16
 s0:0<=f.bM
 s8:f.bM<=8
 c1:1<=f.aq.length
 JF:f.aq.length<=512
theorem Lw(f:aD) :∃b,jX f=some b/\ua f=some b/\(b=true->Km f):=by
 have e:ua f=jX f:=rfl;rw[e];unfold jX;by_cases h1:f.aV<0
 ·rw[aW h1];exact⟨false,rfl,rfl,λh=>Bool.noConfusion h⟩
 rw[cF h1];by_cases h2:f.aV>8
 ·rw[aW h2];exact⟨false,rfl,rfl,λh=>Bool.noConfusion h⟩
 rw[cF h2];by_cases h3:f.dg<1
 ·rw[aW h3];exact⟨false,rfl,rfl,λh=>Bool.noConfusion h⟩
 rw[cF h3];by_cases h4:f.dg<f.aV
 ·rw[aW h4];exact⟨false,rfl,rfl,λh=>Bool.noConfusion h⟩
 rw[cF h4];by_cases h5:f.dg>16
 ·rw[aW h5];exact⟨false,rfl,rfl,λh=>Bool.noConfusion h⟩
 rw[cF h5,eT];by_cases h6:f.bM>=0
 ·rw[aW h6];by_cases h7:f.bM<=8
  ·rw[aW h7];by_cases h8:((f.aq.length:Nat):Int)>=1
   ·rw[aW h8];exact⟨_,rfl,rfl,λh=>⟨aB,aB,aB,aB,aB,h6,h7,aB,by have:=of_decide_eq_true h;omega⟩⟩
   ·rw[cF h8];exact⟨false,rfl,rfl,λh=>Bool.noConfusion h⟩
  ·rw[cF h7];exact⟨false,rfl,rfl,λh=>Bool.noConfusion h⟩
 ·rw[cF h6];exact⟨false,rfl,rfl,λh=>Bool.noConfusion h⟩
def q9(f:aD)(c:cx):Bool:=
 if c.aL=0∨c.aL=8∨c.aL=9 then uT c.A f.dg
 else if c.aL=1 then uT c.A f.dg&&uT c.B f.dg
 else if c.aL=2 then uT c.A f.dg&&uT c.B f.dg&&uT c.C f.dg&&uT c.K 16
 else if c.aL=3 then uT c.A f.aq.length
 else if c.aL=4 then uT c.A f.dg&&uT c.B f.aq.length
 else if c.aL=5 then uT c.A f.bM
 else if c.aL=6 then true
 else if c.aL=7 then uT c.A f.dg&&uT c.B f.bM
 else false
def xF(p:aM)(f:aD)(c:cx):Bool:=
 if c.aL=5 then uT c.B p.ak.length&&(decide ((J p.ak c.B.toNat).aV=0)||(decide (0<=c.C)&&decide (c.C<=f.dg-(J p.ak c.B.toNat).aV)))else true
theorem GK(x n:Int):gH x n=some (uT x n):=by
 unfold gH uT;by_cases h:0<=x
 ·rw[aW h];simp[h]
 ·rw[cF h];simp[h]
theorem uU(x n:Int):(if x>=0 then some (decide (x<n))else some false)=some (uT x n):=by
 unfold uT;by_cases h:0<=x
 ·rw[aW h];simp[h]
 ·rw[cF h];simp[h]
theorem Lx(f:aD)(c:cx):nA f c=some (q9 f c):=by
 unfold nA q9;simp only[GK,ay];by_cases h0:c.aL=0
 ·simp[h0]
 by_cases h8:c.aL=8
 ·simp[h8]
 by_cases h9:c.aL=9
 ·simp[h9]
 simp only[h0,h8,h9,if_false,ay,false_or];have:((c.aL==9)=true)=False:=by simp[h9]
 simp only[this,if_false];by_cases h1:c.aL=1
 ·simp only[h1,if_true];cases uT c.A f.dg<;>simp
 by_cases h2:c.aL=2
 ·simp only[h2,if_true,cF (show ¬(2:Int)=1 by decide)];cases uT c.A f.dg<;>cases uT c.B f.dg<;>cases uT c.C f.dg<;>simp[uT];by_cases h:0<=c.K<;>simp[h]
 by_cases h3:c.aL=3
 ·simp[h3]
 by_cases h4:c.aL=4
 ·simp only[h4,if_true,cF (show ¬(4:Int)=1 by decide),cF (show ¬(4:Int)=2 by decide),cF (show ¬(4:Int)=3 by decide)];cases uT c.A f.dg<;>simp
 by_cases h5:c.aL=5
 ·simp[h5]
 by_cases h6:c.aL=6
 ·simp[h6]
 by_cases h7:c.aL=7
 ·simp only[h7,if_true,cF (show ¬(7:Int)=1 by decide),cF (show ¬(7:Int)=2 by decide),cF (show ¬(7:Int)=3 by decide),cF (show ¬(7:Int)=4 by decide),cF (show ¬(7:Int)=5 by decide),cF (show ¬(7:Int)=6 by decide)];cases uT c.A f.dg<;>simp
 simp[h1,h2,h3,h4,h5,h6,h7]
theorem P5{p:aM}{f:aD}{c:cx}(hs:∀g∈p.ak,Km g)(hf:Km f):oq p f c=some (xF p f c):=by
 unfold oq xF;by_cases h5:c.aL=5
 ·rw[aW h5,aW h5,GK,ay];cases hb:uT c.B p.ak.length
  ·simp
  ·have hb':=v5.1 hb;have hg:=hs _ (ud (l:=p.ak) (i:=c.B.toNat) aB);rw[aW rfl,aW hb'];by_cases hn:(J p.ak c.B.toNat).aV=0
   ·rw[aW hn];simp[hn]
   ·rw[cF hn,GK,ay];have:=hg.O;have:=hg.p8;have:=hf.r16;cases hc:uT c.C f.dg
    ·have:¬(0<=c.C/\c.C<=f.dg-(J p.ak c.B.toNat).aV):=λh=>by
      have:uT c.C f.dg=true:=v5.2 ⟨h.1,aB⟩;rw[hc]at this;exact Bool.noConfusion this
     simp[hn];intro h;omega
    ·have hc':=v5.1 hc;rw[aW rfl,eF (x:=f.dg-c.C) aB];simp[hn,hc'.1];omega
 ·rw[cF h5,cF h5]
theorem Sq{p:aM}{f:aD}{c:cx}(hs:∀g∈p.ak,Km g)(hf:Km f)(hp:0<p.ak.length):uc c f p.ak=some (q9 f c&&xF p f c):=by
 unfold uc q9 xF;by_cases XW:c.aL<0
 ·rw[aW XW];simp only[Jj];rw[eG,eG,eG,eG,eG,eG,eG,eG];rfl
 by_cases hk1:c.aL>=10
 ·rw[cF XW,aW hk1];simp only[Jj];rw[eG,eG,eG,eG,eG,eG,eG,eG];rfl
 rw[cF XW,cF hk1,eT,aW ⟨aB,show c.aL<10 by omega⟩,aW hp,jm];have hl:¬((p.ak.length:Nat):Int)<0:=by omega
 have hK:(if c.K<0 then(some (.inr false):Option (Unit⊕Bool))else(if c.K>=16 then some (.inr false)else some (.inl ())))=if uT c.K 16=true then some (.inl ())else some (.inr false):=by
  unfold uT;by_cases h:c.K<0
  ·rw[aW h];simp;omega
  ·rw[cF h];by_cases h':c.K>=16
   ·rw[aW h'];simp;omega
   ·rw[cF h'];simp;omega
 unfold wB;rcases(by omega:c.aL=0∨c.aL=1∨c.aL=2∨c.aL=3∨c.aL=4∨c.aL=5∨c.aL=6∨c.aL=7∨c.aL=8∨c.aL=9)with h | h | h | h | h | h | h | h | h | h
 ·simp only[h,show(J w6 (0:Int).toNat)=⟨1,0,0,0,true⟩from rfl];simp[uU];cases uT c.A f.dg<;>simp[eY,xp]
 ·simp only[h,show(J w6 (1:Int).toNat)=⟨1,1,0,0,true⟩from rfl];simp[uU];cases uT c.A f.dg<;>cases uT c.B f.dg<;>simp[eY,xp]
 ·simp only[h,show(J w6 (2:Int).toNat)=⟨1,1,1,5,true⟩from rfl];simp[uU];cases uT c.A f.dg<;>cases uT c.B f.dg<;>cases uT c.C f.dg<;>simp[eY,xp,hK];cases uT c.K 16<;>simp
 ·simp only[h,show(J w6 (3:Int).toNat)=⟨3,0,0,0,false⟩from rfl];simp[uU];cases uT c.A f.aq.length<;>simp[eY,xp]
 ·simp only[h,show(J w6 (4:Int).toNat)=⟨1,3,0,0,true⟩from rfl];simp[uU];cases uT c.A f.dg<;>cases uT c.B f.aq.length<;>simp[eY,xp]
 ·simp only[h,show(J w6 (5:Int).toNat)=⟨2,4,0,0,true⟩from rfl];simp[uU,hl,hp];cases hA:uT c.A f.bM
  ·simp[eY,xp]
  ·cases hB:uT c.B p.ak.length
   ·simp[eY,xp]
   ·have hb':=v5.1 hB;have hg:=hs _ (ud (l:=p.ak) (i:=c.B.toNat) aB);have:=hg.O;have:=hg.p8;have:=hf.r16;have:=hf.r1;rw[eF (x:=f.dg-(J p.ak c.B.toNat).aV) aB];have hir:bI c.B p.ak.length:=⟨hb'.1,hb'.2⟩;simp[eY,xp];by_cases hn:(J p.ak c.B.toNat).aV=0
    ·simp[hn];exact hir
    ·simp[hn];by_cases hc:0<=c.C<;>simp[hc]<;>exact hir
 ·simp only[h,show(J w6 (6:Int).toNat)=⟨0,0,0,0,true⟩from rfl];simp[uU,eY,xp]
 ·simp only[h,show(J w6 (7:Int).toNat)=⟨1,2,0,0,true⟩from rfl];simp[uU];cases uT c.A f.dg<;>cases uT c.B f.bM<;>simp[eY,xp]
 ·simp only[h,show(J w6 (8:Int).toNat)=⟨1,0,0,0,true⟩from rfl];simp[uU];cases uT c.A f.dg<;>simp[eY,xp]
 ·simp only[h,show(J w6 (9:Int).toNat)=⟨1,0,0,0,false⟩from rfl];simp[uU];cases uT c.A f.dg<;>simp[eY,xp]
end
section
variable {K:Nat}
def Nk(f:aD):Bool:=(decide ((J f.aq (f.aq.length-1)).aL=3)||decide ((J f.aq (f.aq.length-1)).aL=9))
theorem JG{f:aD}(hf:Km f):mO f=some (Nk f)/\vg f=some (Nk f):=by
 have e:vg f=mO f:=rfl;rw[e,and_self];unfold mO Nk;have h1:=hf.c1;have h2:=hf.JF;rw[eF aB,aW ⟨aB,aB⟩,show(((f.aq.length:Nat):Int)-1).toNat=f.aq.length-1 by omega];split
 ·rename_i h;simp[h]
 ·rename_i h;simp[h];rfl
def OT(p:aM)(f:aD)(c:cx):Prop:=q9 f c=true/\xF p f c=true
structure Code(p:aM)(f:aD):Prop where
 ins:∀a,a<f.aq.length->OT p f (J f.aq a)
 fin:Nk f=true
theorem Code.snd{p:aM}{f:aD}(hs:Km f)(h:Code p f):Ng f:=by
 have h1:=hs.c1;have h2:=hs.JF;have kd:∀a:Nat,a<f.aq.length->0<=(J f.aq a).aL/\(J f.aq a).aL<10:=λa ha=>by
  have:=(h.ins a ha).1;unfold q9 at this;by_cases e:0<=(J f.aq a).aL/\(J f.aq a).aL<10
  ·exact e
  ·rw[eG,eG,eG,eG,eG,eG,eG,eG]at this;exact Bool.noConfusion this
 have en:=h.fin;unfold Nk at en;simp only[yw,AE]at en;refine⟨h1,h2,λa h0 h1 n hn => ?_,λa h0 h1=>kd _ aB⟩;have hi:=(h.ins a.toNat aB).1;unfold q9 at hi;have last:¬(J f.aq a.toNat).aL=3->¬(J f.aq a.toNat).aL=9->a+1<f.aq.length:=λe3 e9=>by
  by_cases e:a.toNat=f.aq.length-1
  ·rw[<-e]at en;rcases en with en | en
   ·exact absurd en e3
   ·exact absurd en e9
  ·omega
 unfold Mo.nx at hn;split at hn
 ·rename_i e;rw[eG,eG,eG,aW e]at hi;rw[List.mem_singleton.1 hn];exact v5.1 hi
 ·rename_i e3;split at hn
  ·exact absurd hn (by simp)
  ·rename_i e9;have:=last e3 e9;split at hn
   ·rename_i e4;rw[eG,eG,eG,eG,aW e4,lV]at hi;have:=v5.1 hi.2;rcases List.mem_cons.1 hn with rfl | hn
    ·omega
    ·rw[List.mem_singleton.1 hn];exact this
   ·rw[List.mem_singleton.1 hn];omega
theorem Wx{p:aM}(hn:p.ak.length<=32):∀(d k i:Nat),i+d=p.ak.length->d<k->(∀a,a<i->Km (J p.ak a))->
 (∃x:eN,ja K p k (i:Int)=some (.inr x)/\n4 K p k (i:Int)=some (.inr x)/\x.OA≠0)∨
 (ja K p k (i:Int)=some (.inl ())/\n4 K p k (i:Int)=some (.inl ())/\∀a,a<p.ak.length->Km (J p.ak a))
 | d,k,i,hd,hk,h=>by
  obtain⟨k,rfl⟩ :∃m,k=m+1:=⟨k-1,aB⟩;rw[ja,n4];by_cases hi:i<p.ak.length
  ·obtain⟨d,rfl⟩ :∃m,d=m+1:=⟨d-1,aB⟩;obtain⟨b,e1,e2,e3⟩:=Lw (J p.ak i);rw[oU,aW ⟨aB,aB⟩,oU,aW ⟨aB,aB⟩,dc,e1,ay,e2,ay,CG aB];cases b
   ·left;exact⟨⟨51,i,0⟩,rfl,rfl,by show(51:Int)≠0;decide⟩
   ·exact Wx hn d k (i+1) aB aB (λa ha=>by
     by_cases e:a=i
     ·subst e;exact e3 rfl
     ·exact h a aB)
  ·rw[eG,eG]
   right;exact⟨rfl,rfl,λa ha=>h a aB⟩
theorem Wy{p:aM}{n:Nat}(hs:∀g∈p.ak,Km g)(hn:n<p.ak.length):∀(d k i:Nat),i+d=(J p.ak n).aq.length->d<k->(∀a,a<i->OT p (J p.ak n) (J (J p.ak n).aq a))->
 (∃j:Int,jb K p (n:Int) k (i:Int)=some (.inr (.inr (.inr ⟨52,n,j⟩)))/\gy K (n:Int) (J p.ak n) p.ak k (i:Int)=some (.inr (.inr ⟨52,n,j⟩)))∨
 (jb K p (n:Int) k (i:Int)=some (.inl ())/\gy K (n:Int) (J p.ak n) p.ak k (i:Int)=some (.inl ())/\∀a,a<(J p.ak n).aq.length->OT p (J p.ak n) (J (J p.ak n).aq a))
 | d,k,i,hd,hk,h=>by
  obtain⟨k,rfl⟩ :∃m,k=m+1:=⟨k-1,aB⟩;have hf:=hs _ (ud hn);have JD:=hf.JF;rw[jb,gy];by_cases hi:i<(J p.ak n).aq.length
  ·obtain⟨d,rfl⟩ :∃m,d=m+1:=⟨d-1,aB⟩;rw[dc,oU,aW ⟨aB,aB⟩,oU,aW ⟨aB,aB⟩,dc,Lx,ay,Sq hs hf aB,ay,CG aB];cases e1:q9 (J p.ak n) (J (J p.ak n).aq i)
   ·left;exact⟨i,rfl,rfl⟩
   ·rw[aW rfl,P5 hs hf,ay];cases e2:xF p (J p.ak n) (J (J p.ak n).aq i)
    ·left;exact⟨i,rfl,rfl⟩
    ·rw[aW rfl,Bool.true_and,aW rfl];exact Wy hs hn d k (i+1) aB aB (λa ha=>by
      by_cases e:a=i
      ·subst e;exact⟨e1,e2⟩
      ·exact h a aB)
  ·rw[dc,eG,eG]
   right;exact⟨rfl,rfl,λa ha=>h a aB⟩
theorem Wz{p:aM}(hn:p.ak.length<=32)(hs:∀g∈p.ak,Km g)(hK:3000<K):∀(d k i:Nat),i+d=p.ak.length->d<k->(∀a,a<i->Code p (J p.ak a))->
 (∃x:eN,jc K p k (i:Int)=some (.inr x)/\n5 K p k (i:Int)=some (.inr x)/\x.OA≠0)∨
 (jc K p k (i:Int)=some (.inl ())/\n5 K p k (i:Int)=some (.inl ())/\∀a,a<p.ak.length->Code p (J p.ak a))
 | d,k,i,hd,hk,h=>by
  obtain⟨k,rfl⟩ :∃m,k=m+1:=⟨k-1,aB⟩;rw[jc,n5];by_cases hi:i<p.ak.length
  ·obtain⟨d,rfl⟩ :∃m,d=m+1:=⟨d-1,aB⟩;have hf:=hs _ (ud hi);have JD:=hf.JF;rw[oU,aW ⟨aB,aB⟩,oU,aW ⟨aB,aB⟩,dc];unfold nB;rcases Wy (K:=K) hs hi (J p.ak i).aq.length K 0 aB aB (λa ha=>aB)with ⟨j,e1,e2⟩ | ⟨e1,e2,e3⟩
   ·rw[pT]at e1 e2;rw[e1,e2];left;exact⟨⟨52,i,j⟩,rfl,rfl,by show(52:Int)≠0;decide⟩
   ·rw[pT]at e1 e2;rw[e1,e2,eT,eT,(JG hf).1,(JG hf).2,ay,ay];cases e4:Nk (J p.ak i)
    ·left;exact⟨⟨53,i,wi (((J p.ak i).aq.length:Int)-1)⟩,rfl,rfl,by show(53:Int)≠0;decide⟩
    ·rw[aW rfl,aW rfl,eT,ay,CG aB];exact Wz hn hs hK d k (i+1) aB aB (λa ha=>by
      by_cases e:a=i
      ·subst e;exact⟨e3,e4⟩
      ·exact h a aB)
  ·rw[eG,eG]
   right;exact⟨rfl,rfl,λa ha=>h a aB⟩
def Ei(f:aD)(a:Nat):Prop:=
 ((J f.aq a).aL=5->((a:Int),2)∉reach f (J f.aq a).A)/\
 ((J f.aq a).aL=7->((a:Int),1)∉reach f (J f.aq a).B/\((a:Int),2)∉reach f (J f.aq a).B)/\
 ((J f.aq a).aL=9->∀c:Nat,c<f.bM.toNat->((a:Int),2)∉reach f c)
theorem aaZ:∀(a b c:Bool),((iN ((if a then 1 else 0)+(if b then 2 else 0)+(if c then 4 else 0)) 3=0)↔a=false/\b=false):=by
 intro a b c;cases a<;>cases b<;>cases c<;>decide
theorem Sr{V:List Pt}{a:Int}:iN (wt V a) 3=0↔(a,1)∉V/\(a,2)∉V:=by
 have:=aaZ (decide ((a,1)∈V)) (decide ((a,2)∈V)) (decide ((a,4)∈V));simp only[AE,decide_eq_false_iff_not]at this;unfold wt;rw[this]
theorem U1{p:aM}{f:aD}(hs:Km f)(hc:Code p f)(hK:3000<K) :∃afw,qb K f=some afw/\vj K f=some afw/\OO f afw f.bM.toNat:=by
 have hf:=hc.snd hs;have h1:=hs.c1;have h2:=hs.JF;have hsd:∀(d k i:Nat),i+d=f.aq.length->d<k->iZ K f k (i:Int)=some true:=by
  intro d
  induction d with
  | zero =>
   intro k i hd hk;obtain⟨k,rfl⟩ :∃m,k=m+1:=⟨k-1,aB⟩;rw[iZ,eG,(JG hs).1,ay,hc.fin]
  | succ d ih =>
   intro k i hd hk;obtain⟨k,rfl⟩ :∃m,k=m+1:=⟨k-1,aB⟩;rw[iZ,oU,aW ⟨aB,aB⟩,Lx,ay,dc,(hc.ins i aB).1,aW rfl,CG aB];exact ih k (i+1) aB aB
 obtain⟨b,e1,e2,e3⟩:=Lw f;have hb:b=true:=by
  cases b
  ·exfalso
   unfold jX at e1;have:=hs.O;have:=hs.p8;have:=hs.r1;have:=hs.rp;have:=hs.r16;have:=hs.s0;have:=hs.s8;rw[eG,eG,eG,eG,eG,eT,oU,oU,oU,tR aB]at e1;exact Bool.noConfusion (Option.some.inj e1)
  ·rfl
 unfold qb rU vj;have aa0:=hsd f.aq.length K 0 aB aB;rw[pT]at aa0;rw[e1,ay,hb,aW rfl,aa0,ay,aW rfl,aW ⟨aB,aB⟩,aW ⟨aB,aB⟩];obtain⟨afw,r1,r2,r3⟩:=OP (K:=K) hf hs.s0 hs.s8 f.aq.length K 0 (List.replicate f.aq.length []) aB aB ⟨by simp,λa ha=>aB⟩;rw[pT]at r1 r2;rw[r1,r2,ay,ay];have hs8:=hs.s8;have ht:OO f afw 0:=⟨r3.1,λa ha=>by rw[r3.2 a ha];simp,λa ha c hc=>aB,λa ha c _ hc=>by rw[r3.2 a ha,xD hc]⟩;obtain⟨R1,a1,a2⟩:=OR (K:=K) hf hs.s0 hs.s8 hK f.bM.toNat K 0 afw aB aB ht;obtain⟨R2,b1,b2⟩:=IX (K:=K) hf hs.s0 hs.s8 hK f.bM.toNat K 0 afw aB aB ht;rw[pT]at a1 b1;have:=So a2 b2;subst this;exact⟨R1,a1,b1,a2⟩
theorem Ss{f:aD}{afw:List (List Int)}(ht:OO f afw f.bM.toNat)(h8:f.bM<=8){a:Nat}(ha:a<f.aq.length):∀(d k i:Nat),i+d=f.bM.toNat->d<k->
 ((∃c,i<=c/\c<f.bM.toNat/\((a:Int),2)∈reach f c)->gW K (J afw a) k (i:Int)=some 56/\∀g,jv K afw a k g (i:Int)=some 56)/\
 ((∀c,i<=c->c<f.bM.toNat->((a:Int),2)∉reach f c)->gW K (J afw a) k (i:Int)=some 0/\∀g,jv K afw a k g (i:Int)=some g)
 | d,k,i,hd,hk=>by
  obtain⟨k,rfl⟩ :∃m,k=m+1:=⟨k-1,aB⟩;have hw:=ht.wid a ha;simp only[gW,jv,dc];by_cases hi:i<f.bM.toNat
  ·obtain⟨d,rfl⟩ :∃m,d=m+1:=⟨d-1,aB⟩;obtain⟨XB,XC⟩:=Ss ht h8 ha d k (i+1) aB aB;have key:iN (J (J afw a) i) 2=0↔((a:Int),(2:Int))∉reach f i:=by rw[ht.val a ha i hi hi];exact FO (.inr (.inl rfl))
   rw[oU,aW ⟨aB,aB⟩,CG aB];by_cases e:((a:Int),(2:Int))∈reach f i
   ·rw[cF (λh=>key.1 h e)];refine⟨λ_=>⟨rfl,λg => ?_⟩,λh=>absurd e (h i (j9 _) hi)⟩;rw[oU,aW ⟨aB,aB⟩,cF (λh=>key.1 h e)];by_cases e2 :∃c,i+1<=c/\c<f.bM.toNat/\((a:Int),(2:Int))∈reach f c
    ·exact(XB e2).2 56
    ·exact(XC (λc h1 h2 h3=>e2 ⟨c,h1,h2,h3⟩)).2 56
   ·have hb:=key.2 e;rw[aW hb];refine⟨λ⟨c,h1,h2,h3⟩ => ?_,λh => ?_⟩
    ·have:c≠i:=λe'=>by subst e';exact e h3
     obtain⟨x,y⟩:=XB ⟨c,aB,h2,h3⟩;refine⟨x,λg => ?_⟩;rw[oU,aW ⟨aB,aB⟩,aW hb];exact y g
    ·obtain⟨x,y⟩:=XC (λc h1 h2=>h c aB h2);refine⟨x,λg => ?_⟩;rw[oU,aW ⟨aB,aB⟩,aW hb];exact y g
  ·rw[eG];refine⟨λ⟨c,h1,h2,_⟩=>aB,λ_=>⟨rfl,λg => ?_⟩⟩;rw[eG]
theorem OU{p:aM}{n:Nat}(hn:n<p.ak.length)(hs:Km (J p.ak n))(hc:Code p (J p.ak n))(hK:3000<K){afw:List (List Int)}(ht:OO (J p.ak n) afw (J p.ak n).bM.toNat):∀(d k i:Nat),i+d=(J p.ak n).aq.length->d<k->(∀a,a<i->Ei (J p.ak n) a)->
 (∃e j:Int,e≠0/\jd K p (n:Int) afw k (i:Int)=some (.inr ⟨e,n,j⟩)/\lj K (n:Int) (J p.ak n) afw k (i:Int)=some (.inr ⟨e,n,j⟩))∨
 (jd K p (n:Int) afw k (i:Int)=some (.inl ())/\lj K (n:Int) (J p.ak n) afw k (i:Int)=some (.inl ())/\∀a,a<(J p.ak n).aq.length->Ei (J p.ak n) a)
 | d,k,i,hd,hk,h=>by
  obtain⟨k,rfl⟩ :∃m,k=m+1:=⟨k-1,aB⟩;have JD:=hs.JF;have h8:=hs.s8;rw[jd,lj];by_cases hi:i<(J p.ak n).aq.length
  ·obtain⟨d,rfl⟩ :∃m,d=m+1:=⟨d-1,aB⟩;have hl:=ht.len;have hw:=ht.wid i hi;rw[dc,oU,aW ⟨aB,aB⟩,aW ⟨aB,aB⟩,oU,aW ⟨aB,aB⟩,dc,CG aB];have key :∃e:Int,mK K (J (J p.ak n).aq i) (J afw i)=some e/\
    (if(J (J p.ak n).aq i).aL=5 then if bI (i:Int) afw.length then if bI (J (J p.ak n).aq i).A (J afw i).length then(if(iN (J (J afw i) (J (J p.ak n).aq i).A.toNat) (2:Int))=0 then some 0 else some 54)else none else none else(if(J (J p.ak n).aq i).aL=7 then if bI (i:Int) afw.length then if bI (J (J p.ak n).aq i).B (J afw i).length then(if(iN (J (J afw i) (J (J p.ak n).aq i).B.toNat) (3:Int))=0 then some 0 else some 55)else none else none else(if(J (J p.ak n).aq i).aL=9 then if bI (i:Int) afw.length then(jv K afw i K 0 0)else none else some 0)))=some e/\(e=0->Ei (J p.ak n) i):=by
    have Su:=(hc.ins i hi).1;unfold q9 at Su;unfold mK;by_cases k5:(J (J p.ak n).aq i).aL=5
    ·rw[eG,eG,eG,eG,eG,aW k5]at Su;have hA:=v5.1 Su;have key:iN (J (J afw i) (J (J p.ak n).aq i).A.toNat) 2=0↔((i:Int),(2:Int))∉reach (J p.ak n) (J (J p.ak n).aq i).A:=by
      rw[ht.val i hi _ aB aB,show(((J (J p.ak n).aq i).A.toNat:Nat):Int)=(J (J p.ak n).aq i).A by omega];exact FO (.inr (.inl rfl))
     by_cases e:((i:Int),(2:Int))∈reach (J p.ak n) (J (J p.ak n).aq i).A
     ·rw[aW k5,aW k5,aW ⟨hA.1,aB⟩,cF (λh=>key.1 h e),aW ⟨aB,aB⟩];exact⟨54,rfl,rfl,λh=>absurd h eL⟩
     ·rw[aW k5,aW k5,aW ⟨hA.1,aB⟩,aW (key.2 e),aW ⟨aB,aB⟩];exact⟨0,rfl,rfl,λ_=>⟨λ_=>e,λh=>aB,λh=>aB⟩⟩
    rw[cF k5,cF k5];by_cases k7:(J (J p.ak n).aq i).aL=7
    ·rw[eG,eG,eG,eG,eG,eG,eG,aW k7,lV]at Su;have hB:=v5.1 Su.2;have key:iN (J (J afw i) (J (J p.ak n).aq i).B.toNat) 3=0↔((i:Int),(1:Int))∉reach (J p.ak n) (J (J p.ak n).aq i).B/\((i:Int),(2:Int))∉reach (J p.ak n) (J (J p.ak n).aq i).B:=by
      rw[ht.val i hi _ aB aB,show(((J (J p.ak n).aq i).B.toNat:Nat):Int)=(J (J p.ak n).aq i).B by omega];exact Sr
     by_cases e:iN (J (J afw i) (J (J p.ak n).aq i).B.toNat) 3=0
     ·rw[aW k7,aW k7,aW ⟨hB.1,aB⟩,aW e,aW ⟨aB,aB⟩];exact⟨0,rfl,rfl,λ_=>⟨λh=>aB,λ_=>key.1 e,λh=>aB⟩⟩
     ·rw[aW k7,aW k7,aW ⟨hB.1,aB⟩,cF e,aW ⟨aB,aB⟩];exact⟨55,rfl,rfl,λh=>absurd h eL⟩
    rw[cF k7,cF k7];by_cases k9:(J (J p.ak n).aq i).aL=9
    ·rw[aW k9,aW k9,aW ⟨aB,aB⟩];obtain⟨o1,o2⟩:=Ss (K:=K) ht h8 hi (J p.ak n).bM.toNat K 0 aB aB;rw[pT]at o1 o2;by_cases e :∃c,0<=c/\c<(J p.ak n).bM.toNat/\((i:Int),(2:Int))∈reach (J p.ak n) c
     ·exact⟨56,(o1 e).1,(o1 e).2 0,λh=>absurd h eL⟩
     ·have e':∀c,0<=c->c<(J p.ak n).bM.toNat->((i:Int),(2:Int))∉reach (J p.ak n) c:=λc h1 h2 h3=>e ⟨c,h1,h2,h3⟩;exact⟨0,(o2 e').1,(o2 e').2 0,λ_=>⟨λh=>aB,λh=>aB,λ_ c hc=>e' c (Cf _) hc⟩⟩
    ·rw[cF k9,cF k9];exact⟨0,rfl,rfl,λ_=>⟨λh=>absurd h k5,λh=>absurd h k7,λh=>absurd h k9⟩⟩
   obtain⟨e,e1,e2,e3⟩:=key;rw[e1,e2,ay,ay];by_cases e0:e=0
   ·rw[aW e0,aW e0,eT];exact OU hn hs hc hK ht d k (i+1) aB aB (λa ha=>by
     by_cases e:a=i
     ·subst e;exact e3 e0
     ·exact h a aB)
   ·rw[cF e0,cF e0];left;exact⟨e,i,e0,rfl,rfl⟩
  ·rw[dc,eG,eG]
   right;exact⟨rfl,rfl,λa ha=>h a aB⟩
theorem WA{p:aM}(hn:p.ak.length<=32)(hs:∀g∈p.ak,Km g)(hc:∀a,a<p.ak.length->Code p (J p.ak a))(hK:3000<K):∀(d k i:Nat),i+d=p.ak.length->d<k->(∀a,a<i->∀b,b<(J p.ak a).aq.length->Ei (J p.ak a) b)->
 ∃x:eN,jY K p k (i:Int)=some x/\pQ K p k (i:Int)=some x/\(x.OA=0->∀a,a<p.ak.length->∀b,b<(J p.ak a).aq.length->Ei (J p.ak a) b)
 | d,k,i,hd,hk,h=>by
  obtain⟨k,rfl⟩ :∃m,k=m+1:=⟨k-1,aB⟩;rw[jY,pQ];by_cases hi:i<p.ak.length
  ·obtain⟨d,rfl⟩ :∃m,d=m+1:=⟨d-1,aB⟩;have hf:=hs _ (ud hi);have JD:=hf.JF;rw[oU,aW ⟨aB,aB⟩,oU,aW ⟨aB,aB⟩,dc];unfold uI;obtain⟨afw,r1,r2,r3⟩:=U1 (K:=K) hf (hc i hi) hK;rw[r1,r2,ay,ay];rcases OU (K:=K) hi hf (hc i hi) hK r3 (J p.ak i).aq.length K 0 aB aB (λa ha=>aB)with ⟨e,j,e0,e1,e2⟩ | ⟨e1,e2,e3⟩
   ·rw[pT]at e1 e2;rw[e1,e2];exact⟨⟨e,i,j⟩,rfl,rfl,λh=>absurd h e0⟩
   ·rw[pT]at e1 e2;rw[e1,e2,eT,ay,CG aB];exact WA hn hs hc hK d k (i+1) aB aB (λa ha=>by
     by_cases e:a=i
     ·subst e;exact e3
     ·exact h a aB)
  ·rw[eG,eG];exact⟨⟨0,0,0⟩,rfl,rfl,λ_ a ha=>h a aB⟩
structure Valid(p:aM):Prop where
 n1:1<=p.ak.length
 n32:p.ak.length<=32
 MG:∀a,a<p.ak.length->Km (J p.ak a)
 code:∀a,a<p.ak.length->Code p (J p.ak a)
 slot:∀a,a<p.ak.length->∀b,b<(J p.ak a).aq.length->Ei (J p.ak a) b
theorem Sv(p:aM)(hK:3000<K) :∃x:eN,oZ K p=some x/\wP K p=some x/\(x.OA=0->Valid p):=by
 unfold oZ wP;by_cases h1:((p.ak.length:Nat):Int)<1
 ·rw[aW h1];exact⟨_,rfl,rfl,λh=>absurd h eL⟩
 rw[cF h1];by_cases h2:((p.ak.length:Nat):Int)>32
 ·rw[aW h2];exact⟨_,rfl,rfl,λh=>absurd h eL⟩
 rw[cF h2,eT,eT];rcases Wx (K:=K) (p:=p) aB p.ak.length K 0 aB aB (λa ha=>aB)with ⟨x,e1,e2,e3⟩ | ⟨e1,e2,e3⟩
 ·rw[pT]at e1 e2;rw[e1,e2];exact⟨x,rfl,rfl,λh=>absurd h e3⟩
 rw[pT]at e1 e2;have hs:∀g∈p.ak,Km g:=λg hg=>by
  obtain⟨i,hi,e⟩:=List.getElem_of_mem hg;have:=e3 i hi;unfold J at this;rw[List.getD_eq_getElem?_getD,List.getElem?_eq_getElem hi]at this;rw[<-e];exact this
 rw[e1,e2,eT,eT];rcases Wz (K:=K) (p:=p) aB hs hK p.ak.length K 0 aB aB (λa ha=>aB)with ⟨x,a1,a2,a3⟩ | ⟨a1,a2,a3⟩
 ·rw[pT]at a1 a2;rw[a1,a2];exact⟨x,rfl,rfl,λh=>absurd h a3⟩
 rw[pT]at a1 a2;rw[a1,a2,eT,eT];obtain⟨x,b1,b2,b3⟩:=WA (K:=K) (p:=p) aB hs a3 hK p.ak.length K 0 aB aB (λa ha=>aB);rw[pT]at b1 b2;exact⟨x,b1,b2,λh=>⟨aB,aB,e3,a3,b3 h⟩⟩
end
end Mo
end
end Go.Proofs.YtaiffafelihaaaaGreatDoor

/- plunderlaw11.WorkerSerial answers true for every input of the bulk that the statement names, and leaves its input alone. Conditions: none. -/
import Derived.Test.YtpikpffbcjpmcaaGreatDoorU0
set_option linter.unusedVariables false
set_option linter.unusedSimpArgs false
set_option linter.unusedSectionVars false
set_option maxRecDepth 100000
set_option maxHeartbeats 4000000
set_option autoImplicit true
set_option relaxedAutoImplicit true
namespace Go.Proofs.YtpikpffbcjpmcaaGreatDoor
open Proofs.Tryz
section
namespace GX
open Go Go.RowKit SL
def Im:Value->Value->Bool
 | .int k _,.int k' _=>k==k'
 | .bool _,.bool _=>true
 | _,_=>false
def Cg:List Value->List Value->Bool
 | [],[]=>true
 | u::us,v::vs=>Im u v&&Cg us vs
 | _,_=>false
def Ur:List Value->List Value->Bool
 | .int a _::_,.int b _::_=>a==b
 | _,_=>false
def Us:List Value->List Value->Bool
 | .bool _::_,.bool _::_=>true
 | _,_=>false
theorem M5{us vs:List Value}(h:Ur us vs=true) :∃k x y us' vs',us= .int k x::us'/\vs= .int k y::vs':=by
 unfold Ur at h;split at h
 ·simp only[zT]at h;subst h;exact⟨_,_,_,_,_,rfl,rfl⟩
 ·cases h
theorem M6{us vs:List Value}(h:Us us vs=true) :∃x y us' vs',us= .bool x::us'/\vs= .bool y::vs':=by
 unfold Us at h;split at h
 ·exact⟨_,_,_,_,rfl,rfl⟩
 ·cases h
theorem RS{u v:Value}(h:Im u v=true):(∃k x y,u= .int k x/\v= .int k y)∨∃x y,u= .bool x/\v= .bool y:=by
 unfold Im at h;split at h
 ·simp only[zT]at h;subst h;exact .inl ⟨_,_,_,rfl,rfl⟩
 ·exact .inr ⟨_,_,rfl,rfl⟩
 ·cases h
def Ab(P:Program):Nat->Nat->List Field->List Value->List Value->Bool
 | 0,_,_,_,_=>false
 | k+1,i,fs,us,vs=>match fs with
  | []=>us.isEmpty&&vs.isEmpty
  | f::fs=>(f.name != "_")&&f.offset==i&&(match P.underlying f.type with
   | some (.int _)=>Ur us vs&&Ab P k (i+1) fs us.tail vs.tail
   | some .bool=>Us us vs&&Ab P k (i+1) fs us.tail vs.tail
   | some (.struct _)=>(P.info? f.type).isSome && !(P.stoodInHeld f.type)&&Nat.ble (P.cellsOf f.type) us.length&&Nat.ble (P.cellsOf f.type) vs.length
    && Ab P k 0 (P.fieldsOf f.type).toList (us.take (P.cellsOf f.type)) (vs.take (P.cellsOf f.type))&&Ab P k (i+P.cellsOf f.type) fs (us.drop (P.cellsOf f.type)) (vs.drop (P.cellsOf f.type))
   | _=>false)
theorem Kq:∀{a c b d:List Value},Cg a c=true->Cg b d=true->Cg (a++b) (c++d)=true
 | [],[],_,_,_,h=>h
 | u::a,v::c,_,_,h1,h=>by
  simp only[Cg,mR]at h1;simp only[uq,Cg,mR];exact⟨h1.1,Kq h1.2 h⟩
theorem M7:∀{a c b d:List Value},Cg a c=true->vm (a++b) (c++d)=(vm a c&&vm b d)
 | [],[],_,_,_=>by simp[vm]
 | u::a,v::c,b,d,h=>by
  simp only[Cg,mR]at h;have ih:=M7 (b:=b) (d:=d) h.2;rcases RS h.1 with ⟨k,x,y,rfl,rfl⟩ | ⟨x,y,rfl,rfl⟩
  ·simp[vm,ih,Bool.and_assoc]
  ·simp[vm,ih,Bool.and_assoc]
section
variable {P:Program}{w:World}{o:Oper}{e:Nat->Value}
theorem yu:∀(k i:Nat) (fs:List Field) (us vs:List Value),Ab P k i fs us vs=true->Cg us vs=true
 | 0,_,_,_,_,h=>by simp[Ab]at h
 | k+1,_,[],us,vs,h=>by
  simp only[Ab,mR,List.isEmpty_iff]at h;obtain⟨rfl,rfl⟩:=h
  rfl
 | k+1,i,f::fs,us,vs,h=>by
  simp only[Ab,mR]at h;obtain⟨_,h⟩:=h;split at h
  ·simp only[mR]at h;obtain⟨kk,x,y,us',vs',rfl,rfl⟩:=M5 h.1;simp only[Cg,Im,beq_self_eq_true,Bool.true_and];exact yu k _ _ _ _ h.2
  ·simp only[mR]at h;obtain⟨x,y,us',vs',rfl,rfl⟩:=M6 h.1;simp only[Cg,Im,Bool.true_and];exact yu k _ _ _ _ h.2
  ·simp only[mR]at h;have a:=yu k _ _ _ _ h.1.2;have b:=yu k _ _ _ _ h.2;have:=Kq a b
   rwa [HJ,HJ]at this
  ·cases h
theorem M8{t:TypeId}{gs:Array Field}(h:P.underlying t=some (.struct gs)):P.fieldsOf t=gs:=by
 unfold Program.fieldsOf;rw[h]
theorem Kr{t:TypeId}{gs:Array Field}{cs:Array Value}{i:Nat}(h:P.underlying t=some (.struct gs))(hi:(P.info? t).isSome=true):(part t cs i).run P w= .ok (.agg (cs.extract i (i+P.cellsOf t))) w:=by
 obtain⟨q,hq⟩:=Option.isSome_iff_exists.1 hi;unfold part isAgg;simp only[n5,run_underlying h,n6,uo,if_true,run_sizeOf w hq]
theorem EH:∀(k D i:Nat) (fs:List Field) (us vs:List Value) (xs ys:Array Value),Ab P k i fs us vs=true->k<=D->(∀j,us[j]? = xs[i+j]?∨us.length<=j)->(∀j,vs[j]? = ys[i+j]?∨vs.length<=j)->
 (Op.eqFields (D+1) xs ys fs).run P w= .ok (vm us vs) w
 | 0,_,_,_,_,_,_,_,h,_,_,_=>by simp[Ab]at h
 | k+1,_,_,[],us,vs,_,_,h,_,_,_=>by
  simp only[Ab,mR,List.isEmpty_iff]at h;obtain⟨rfl,rfl⟩:=h;simp[Op.eqFields,vm]
 | k+1,D,i,f::fs,us,vs,xs,ys,h,hD,hx,hy=>by
  simp only[Ab,mR,bne_iff_ne,ne_eq,zT]at h;obtain⟨⟨hn,ho⟩,h⟩:=h;have aJ:∀(n:Nat) (zs:List Value) (cs:Array Value),(∀j,zs[j]? = cs[i+j]?∨zs.length<=j)->∀j,(zs.drop n)[j]? = cs[i+n+j]?∨(zs.drop n).length<=j:=λn zs cs hz j=>by
   rcases hz (n+j)with h | h
   ·left;rw[List.getElem?_drop,h,Nat.add_assoc]
   ·right;rw[BZ];omega
  split at h
  ·rename_i kk hty;simp only[mR]at h;obtain⟨a,x,y,us',vs',rfl,rfl⟩:=M5 h.1;have hx0:xs[i]? = some (.int a x):=by rcases hx 0 with h | h;simpa using h.symm;simp at h
   have hy0:ys[i]? = some (.int a y):=by rcases hy 0 with h | h;simpa using h.symm;simp at h
   have ih:=EH k D (i+1) fs us' vs' xs ys h.2 I (by simpa using aJ 1 _ xs hx) (by simpa using aJ 1 _ ys hy);have pa:=sZ (P:=P) (w:=w) (t:=f.type) (cs:=xs) (i:=f.offset) (v:=.int a x) (by rw[hty]) (by rw[ho];exact hx0);have pb:=sZ (P:=P) (w:=w) (t:=f.type) (cs:=ys) (i:=f.offset) (v:=.int a y) (by rw[hty]) (by rw[ho];exact hy0);rw[Op.eqFields];simp only[aP hn,n5,pa,pb,run_equalIn_int w D f.type a kk x y hty,n6];cases hab:(x==y)
   ·simp[vm,hab]
   ·simp[vm,hab,ih]
  ·rename_i hty;simp only[mR]at h;obtain⟨x,y,us',vs',rfl,rfl⟩:=M6 h.1;have hx0:xs[i]? = some (.bool x):=by rcases hx 0 with h | h;simpa using h.symm;simp at h
   have hy0:ys[i]? = some (.bool y):=by rcases hy 0 with h | h;simpa using h.symm;simp at h
   have ih:=EH k D (i+1) fs us' vs' xs ys h.2 I (by simpa using aJ 1 _ xs hx) (by simpa using aJ 1 _ ys hy);have pa:=sZ (P:=P) (w:=w) (t:=f.type) (cs:=xs) (i:=f.offset) (v:=.bool x) (by rw[hty]) (by rw[ho];exact hx0);have pb:=sZ (P:=P) (w:=w) (t:=f.type) (cs:=ys) (i:=f.offset) (v:=.bool y) (by rw[hty]) (by rw[ho];exact hy0);rw[Op.eqFields];simp only[aP hn,n5,pa,pb,run_equalIn_bool' w D f.type x y hty,n6];cases hab:(x==y)
   ·simp[vm,hab]
   ·simp[vm,hab,ih]
  ·rename_i gs hty;simp only[mR,Bool.not_eq_true',Nat.ble_eq]at h;obtain⟨⟨⟨⟨⟨hi,hp⟩,hu⟩,hv⟩,h1⟩,h2⟩:=h;obtain⟨D,rfl⟩ :∃m,D=m+1:=⟨D-1,I⟩;have cut:∀(zs:List Value) (cs:Array Value),P.cellsOf f.type<=zs.length->(∀j,zs[j]? = cs[i+j]?∨zs.length<=j)->∀j,(zs.take (P.cellsOf f.type))[j]? = (cs.extract i (i+P.cellsOf f.type))[0+j]?∨(zs.take (P.cellsOf f.type)).length<=j:=λzs cs hl hz j=>by
    by_cases hj:j<P.cellsOf f.type
    ·left
     rcases hz j with h | h
     ·rw[List.getElem?_take,aP hj,h,BX,Array.getElem?_extract];split
      ·rfl
      ·rename_i hc;refine Array.getElem?_eq_none ?_;omega
     ·omega
    ·right;rw[vk];omega
   have Wr:=EH k D 0 _ _ _ _ _ h1 I (cut us xs hu hx) (cut vs ys hv hy);have ZY:=EH k (D+1) (i+P.cellsOf f.type) fs _ _ xs ys h2 I (aJ _ _ xs hx) (aJ _ _ ys hy);have pa:=Kr (P:=P) (w:=w) (cs:=xs) (i:=f.offset) hty hi;have pb:=Kr (P:=P) (w:=w) (cs:=ys) (i:=f.offset) hty hi;have heq:=run_equalIn_struct (P:=P) w (D+1) f.type (xs.extract i (i+P.cellsOf f.type)) (ys.extract i (i+P.cellsOf f.type)) (by rw[M8 hty];exact hty) hp;rw[Wr]at heq;have hs:=M7 (b:=us.drop (P.cellsOf f.type)) (d:=vs.drop (P.cellsOf f.type)) (yu _ _ _ _ _ h1);rw[HJ,HJ]at hs;rw[Op.eqFields,hs];rw[ho]at pa pb;simp only[aP hn,n5,ho,pa,pb,heq,n6];cases hab:vm (us.take (P.cellsOf f.type)) (vs.take (P.cellsOf f.type))
   ·simp
   ·simp[ZY]
  ·cases h
theorem ZZ{x y:Operand}{us vs:List Value}{T T':TypeId}(ho:o.op= .binOp .eql T x y T')(hx:eZ e x= .agg us.toArray)(hy:eZ e y= .agg vs.toArray)(hm:P.eqGuardType P.depth T=false)(hp:P.stoodInHeld T=false)
 (hu:P.underlying T=some (.struct (P.fieldsOf T))) (hf:Ab P 64 0 (P.fieldsOf T).toList us vs=true):(execOp (eZ e) o).run P w= .ok (.value (.bool (vm us vs))) w:=by
 unfold execOp;have h1:=run_equalIn_struct (P:=P) w 9999 T us.toArray vs.toArray hu hp;rw[EH (P:=P) (w:=w) 64 9998 0 (P.fieldsOf T).toList us vs us.toArray vs.toArray hf eC (λj=>by left;simp) (λj=>by left;simp)]at h1;simp[ho,hx,hy,run_eqGuard_agg (P:=P) w .eql T x y us.toArray vs.toArray hm,run_eql_struct,h1]
end
end GX
end
section
namespace Md
open Go Go.RowKit SL GX
noncomputable section
variable {z w:World}{L:List bj}
abbrev y9(a:fP)(c:Nat)(l:List Int):bj:=rowOf 3 1 aH (.slice a l.length c) l
end
noncomputable section
variable {z w:World}{L:List bj}
def vt(O:Int)(Y:List Int)(p2:Bool):Option (Int×Int):=
 ei ((if O=((Y.length:Nat):Int)then(if p2=true then some 0 else some O)else some O)) (λg3=>(if g3=((Y.length:Nat):Int)then some (0,g3)else if bI (wi ((wi (g3+1))-1)) Y.length then some ((J Y (wi ((wi (g3+1))-1)).toNat),wi (g3+1))else none))
theorem EI{O r0 q0:Int}{Y:List Int}{p2:Bool}{B0 B1 jB B2:Nat}{jx:fP}(H:vt O Y p2=some (r0,q0))(h:Fit z (aC (pts B0 (.cells #[Z O] 3)::pts B1 (.cells #[.slice jx Y.length jB] 28)::y9 jx jB Y::pts B2 (.cells #[vB p2] 4)::L)) w) :
 Calls Tryz.prog 84 #[pA B0 0,pA B1 0,pA B2 0] w λe w=>e=.returned (Z r0)/\Fit z (aC (pts B0 (.cells #[Z q0] 3)::pts B1 (.cells #[.slice jx Y.length jB] 28)::y9 jx jB Y::pts B2 (.cells #[vB p2] 4)::L)) w:=by
 unfold vt at H;refine ke func84 22 rfl λj=>ks<|ko [U]<|G<|El H λo5 H hK4=>λ_ r=>dh (β:=Unit) (λ_ a w=>∃g3:Int,g3=o5/\∃j,kX 22 (lk [(0,pA B0 0),(1,pA B1 0)] j) a/\Fit z (aC (pts B0 (.cells #[Z g3] 3)::pts B1 (.cells #[.slice jx Y.length jB] 28)::y9 jx jB Y::pts B2 (.cells #[vB p2] 4)::L)) w) ?_ ?_
 ·refine qq r<|ks<|kL h 0<|kL (h.pick 1) 0<|ko [Z ((Y.length:Nat):Int),vB (O==((Y.length:Nat):Int)),vB (O==((Y.length:Nat):Int))]<|qI H (λc6 H=>?_) λc6 H=>?_
  ·refine λ_ r=>ld (mB r (beq_iff_eq.mpr c6)) r (vB p2) ((h.pick 3).cell 0 rfl)<|?_;refine oN (beq_iff_eq.mpr c6) (vB p2)<|G<|Em H (λc7 H=>?_) λc7 H=>?_
   ·refine wl<|kS h 0 (pts B0 (.cells #[Z 0] 3)) λw h=>G<|?_;exact λ_ r=>⟨(),0,gE H,r.fj h⟩
   refine wk<|tn<|?_;exact λ_ r=>⟨(),O,gE H,r.fj h⟩
  refine cx (bN c6) [9]<|oC (bN c6) (vB false)<|G<|λ_ r=>jy r (b:=false) rfl<|qq r<|wk<|tn<|?_;exact λ_ r=>⟨(),O,gE H,r.fj h⟩
 clear h r;rintro _ a w ⟨g3,rfl,j,r,h⟩;replace H:=Ek hK4;refine qq r<|wq<|ks<|kL h 0<|kL (h.pick 1) 0<|ko [Z ((Y.length:Nat):Int),vB (g3==((Y.length:Nat):Int))]<|G<|dW H (λc8 H=>?_) λc8 H=>?_
 ·refine ks<|ko [U]<|G<|wr<|tr<|?_;cases H;exact gj h
 refine wk<|tn<|ks<|kL h 0<|ko [Z (wi (g3+1))]<|kS h 0 (pts B0 (.cells #[Z (wi (g3+1))] 3)) λw h=>G<|ks<|kL (h.pick 1) 0<|kL h 0<|qg H λc9 H=>ko [Z (wi ((wi (g3+1))-1))]<|ki (h.pick 2) c9<|λ_ r=>ld (wn rfl) r (Z (J Y (wi ((wi (g3+1))-1)).toNat)) ((h.pick 2).cG aG (f:=0) (bl c9) rfl)<|?_;refine ko [Z (J Y (wi ((wi (g3+1))-1)).toNat)]<|G<|wr<|?_;cases H;exact gj h
end
end Md
end
section
namespace Mo
open Go Go.RowKit SL GX
structure aT where
 rest:List Int
deriving Inhabited,DecidableEq
def DZ(x:aT):Int:=x.rest.headD 0
def Js(x:aT):aT:=⟨x.rest.tail⟩
def xe(b:Nat)(x:aT):bj:=exs λk:Nat=>exs λpa:Nat=>exs λpl:Nat=>exs λpg:Nat=>exs λca:fP=>exs λcc:Nat=>exs λl:List Int =>
 aC [RD (k<=l.length/\l.length*8<=140737488355328/\x.rest=l.drop k),pts b (.cells #[.func (.func 84) #[] #[pA pa 0,pA pl 0,pA pg 0]] 181),pts pa (.cells #[Z k] 3),pts pl (.cells #[.slice ca l.length cc] 28),rowOf 3 1 aH (.slice ca l.length cc) l,pts pg (.cells #[vB false] 4)]
theorem Ut{l:List Int}{k:Nat}(hk:k<=l.length)(hb:l.length*8<=140737488355328):Md.vt (k:Int) l false=some (if k=l.length then(0,(k:Int))else(J l k,((k+1:Nat):Int))):=by
 have e1:wi ((k:Int)+1)=((k+1:Nat):Int):=by rw[eO I];omega
 have e2:wi (((k+1:Nat):Int)-1)=(k:Int):=by rw[eO I];omega
 unfold Md.vt;by_cases c:k=l.length
 ·subst c;simp[ei]
 ·have c':¬(k:Int)=((l.length:Nat):Int):=by omega
  have hi:bI (k:Int) l.length:=by unfold bI;omega
  simp only[cu c',cu c,ei,e1,e2,aP hi,cQ]
theorem Uu{l:List Int}{k:Nat}{x:aT}(hk:k<=l.length)(hx:x.rest=l.drop k):(if k=l.length then(0,(k:Int))else(J l k,((k+1:Nat):Int)))=(DZ x,(((if k=l.length then k else k+1):Nat):Int))/\(if k=l.length then k else k+1)<=l.length/\(Js x).rest=l.drop (if k=l.length then k else k+1):=by
 unfold DZ Js;rw[hx];by_cases c:k=l.length
 ·subst c;simp
 ·have hlt:k<l.length:=by omega
  simp only[cu c];refine⟨?_,I,by rw[List.tail_drop]⟩;rw[T8 hlt,Qc hlt];rfl
theorem RT{z w:World}{L:List bj}{α:Type}{b:Nat}{E:TypeId}{sz:Nat}{enc:α->List Value}(h:Fit z (aC (pts b (.cells #[] E)::L)) w):Fit z (aC (rowOf E sz enc (.slice (some ⟨b,0,none⟩) 0 0) ([]:List α)::L)) w:=
 h.head λy hy=>.inr ⟨b,0,#[],rfl,jU _,by simp[maxLen],by simp,by simp,hy⟩
theorem Uv{z w:World}{L:List bj}{va:fP}{vc:Nat}{l:List Int}(hv:bJ L 1 aH va l)(h:Fit z (aC L) w)(hb:l.length*8<=140737488355328) :
 Calls Tryz.prog 83 #[.slice va l.length vc] w λe w =>∃ca cc,e= .returned (.slice ca l.length cc)/\Fit z (aC (rowOf 3 1 aH (.slice ca l.length cc) l::L)) w:=by
 refine ke func83 8 rfl λj=>ks<|ko [U]<|G<|wq <| ?_
 cases va with
 | none =>
  have hl:l=[]:=by
   cases l with
   | nil=>rfl
   | cons x xs=>exact absurd (hv.ne (by simp)) (by simp)
  subst hl;refine ks<|ko [U,vB true]<|G<|λ_ r=>gQ r (b:=true) rfl<|qq r<|ks<|ko [U]<|G<|wr<|tr <| ?_
  exact xy2 none 0 h.fM
 | some ad =>
  refine ks<|ko [U,vB false]<|G<|λ_ r=>jy r (b:=false) rfl<|qq r<|wk<|tn<|ks<|λ_ r=>ZQ (wn rfl) r h (λb=>.slice (some ⟨b,0,none⟩) 0 0) #[] 3 λb w _ h r => ?_;refine qq r<|ko [U]<|λ_ r=>AJ (m0:=0) (n0:=0) (ca:=some ⟨b,0,none⟩) (cc:=0) (c:=vc) (va:=some ad) (bytes:=8) (wn rfl) rfl rfl r rfl aZ (news:=l) aZ aG (E:=3) (xs:=([]:List Int)) aZ aZ (RT h) hv (by simpa using hb) rfl λca cc w _ h r => ?_;rw[AD]at h r;refine qq r<|ko [U]<|G<|wr <| ?_
  exact xy2 ca cc h
theorem Io{z w:World}{L:List bj}{b:Nat}{x:aT}(h:Fit z (aC (xe b x::L)) w) :
 Calls Tryz.prog 264 #[pA b 0] w λe w=>e= .returned (Z (DZ x))/\Fit z (aC (xe b (Js x)::L)) w:=by
 obtain⟨k,h⟩:=h.n8;obtain⟨pa,h⟩:=h.n8;obtain⟨pl,h⟩:=h.n8;obtain⟨pg,h⟩:=h.n8;obtain⟨ca,h⟩:=h.n8;obtain⟨cc,h⟩:=h.n8;obtain⟨l,h⟩:=h.n8;have h:=h.tM;obtain⟨⟨hk,hb,hx⟩,h⟩:=h.zU;obtain⟨e1,e2,e3⟩:=Uu hk hx;have H:=Ut hk hb;rw[e1]at H;generalize hm:(if k=l.length then k else k+1)=m at *;refine ke func264 17 rfl λj=>ks<|ko [U]<|G<|wq<|ks<|ko [U,vB false,vB false]<|dg (rfl:false=false) [6,7,8] [pA b 0,pA b 0,pA b 0]<|vM (rfl:false=false) h 0<|dg (rfl:false=false) [10] [vB false]<|oC (rfl:false=false) (vB false)<|G<|λ_ r=>jy r (b:=false) rfl<|qq r<|wk<|tn<|ks<|ko [U,U,U]<|kL h 0<|qh h.m4.m4.m4.m4 λh=>fh (Md.EI (H:=H) (h:=h) :) λw h=>ko [U]<|G<|wr <| ?_;exact gj (Fit.jZ m<|Fit.jZ pa<|Fit.jZ pl<|Fit.jZ pg<|Fit.jZ ca<|Fit.jZ cc<|Fit.jZ l<|Fit.sY _ L<|Fit.ym ⟨e2,hb,e3⟩ h.m4)
theorem Uw{z w:World}{L:List bj}{va:fP}{vc:Nat}{l:List Int}(hv:bJ L 1 aH va l)(h:Fit z (aC L) w)(hb:l.length*8<=140737488355328) :
 Calls Tryz.prog 53 #[.slice va l.length vc,vB false] w λe w =>∃b,e= .returned (pA b 0)/\Fit z (aC (xe b ⟨l⟩::L)) w:=by
 refine ke func53 12 rfl λj=>ks<|kN h #[vB false] 4 λpg w h=>ko [U]<|G<|ks<|ko [U]<|Up (Uv (va:=va) (vc:=vc) (bJ.up (L':=pts pg (.cells #[vB false] 4)::L) 1 hv) h hb :) λca cc w h=>kN h #[.slice none 0 0] 28 λpl w h=>kS h 0 (pts pl (.cells #[.slice ca l.length cc] 28)) λw h=>G<|ks<|kN h #[Z 0] 3 λpa w h=>kS h 0 (pts pa (.cells #[Z 0] 3)) λw h=>G<|ks<|ko [U,U]<|kN h #[.func (.func 84) #[] #[pA pa 0,pA pl 0,pA pg 0]] 181 λb w h=>ko [U]<|G<|wr <| ?_
 exact xy1 b (Fit.jZ 0<|Fit.jZ pa<|Fit.jZ pl<|Fit.jZ pg<|Fit.jZ ca<|Fit.jZ cc<|Fit.jZ l<|Fit.sY _ L<|Fit.ym ⟨Et _,hb,rfl⟩ h)
theorem Ch{z w:World}{L:List bj}{va:fP}{c:Nat}{l:List Int}(h:Fit z (aC L) w)(hv:bJ L 1 aH va l)(hb:l.length*8<=140737488355328) :
 Calls Tryz.prog 18 #[.slice va l.length c] w λe w =>∃b,e= .returned (pA b 0)/\Fit z (aC (xe b ⟨l⟩::L)) w:=by
 refine ke func18 5 rfl λj=>ks<|ko [U]<|G<|ks<|ko [U]<|xc1 (Uw (vc:=c) hv h hb :) λb w h=>ko [U]<|G<|wr <| ?_
 exact xy1 b h
end Mo
end
section
namespace GX
open Go Go.RowKit SL
def Ac{α:Type}[Inhabited α](l:List α)(lo m:Nat):List α:=(List.range m).map λj=>J l (lo+j)
theorem EJ{α:Type}[Inhabited α](l:List α)(lo m:Nat):(Ac l lo m).length=m:=by simp[Ac]
theorem YR{α:Type}{enc:α->List Value}(he:tZ enc 1):∀(m:List α) (k:Nat),(m.drop k).flatMap enc=(m.flatMap enc).drop k
 | [],k=>by simp
 | x::m,0=>by simp
 | x::m,k+1=>by
  obtain⟨u,hu⟩:=List.length_eq_one_iff.1 (he.len x);rw[rY,YR he m k,Oy,hu];rfl
theorem Ux{α:Type}{enc:α->List Value}(he:tZ enc 1):∀(m:List α) (k:Nat),(m.take k).flatMap enc=(m.flatMap enc).take k
 | [],k=>by simp
 | x::m,0=>by simp
 | x::m,k+1=>by
  obtain⟨u,hu⟩:=List.length_eq_one_iff.1 (he.len x);rw[qb,Oy,Ux he m k,Oy,hu];rfl
theorem Z0{α:Type}[Inhabited α]{A:List Value}{N f lo m:Nat}{enc:α->List Value}{l:List α}(he:tZ enc 1)(hA:A.length=f)(hm:lo+m<=N):((A++eH N enc l).drop (f+lo)).take m=(Ac l lo m).flatMap enc:=by
 subst hA;rw[List.drop_append,Qa I,AD,Nat.add_sub_cancel_left,CT,<-YR he,<-Ux he]
 congr 1
 apply Ms
 ·simp[Ac];omega
 ·intro i h1 h2;simp[Ac]
section
variable {P:Program}{ops:Array Oper}{Q:Exit->Act->World->Prop}{a:Act}{w w0 w1:World}{rest:List Oper}{o:Oper}{n d t T T2:Nat}{v:Value}{l:List (Nat×Value)}{j e:Nat->Value}{L:List bj}{Df:List Deferred}
theorem acj{x y y':Operand}{k k':IntKind}{lo hi:Int}{B off N:Nat}{E:TypeId}{w':World}(ho:o.op= .slice t x (some y) (some y') none)(hx:eZ e x= .pointer (some ⟨B,off,none⟩))(hy:eZ e y= .int k lo)(hy':eZ e y'= .int k' hi)
 (ht:P.underlying t=some (.array N E)) (hs:(P.info? E).map (·.size)=some 1) (hg:0<=lo/\lo<=hi/\hi<=N/\lo<N):(execOp (eZ e) o).run P w'= .ok (.value (.slice (some ⟨B,off+lo.toNat,none⟩) (hi.toNat-lo.toNat) (N-lo.toNat))) w':=by
 obtain⟨h0,h1,h2,h3⟩:=hg;obtain⟨p,rfl⟩:=Int.eq_ofNat_of_zero_le h0;obtain⟨q,rfl⟩:=Int.eq_ofNat_of_zero_le (Int.le_trans h0 h1);have g1:p<=q:=by omega
 have g2:q<=N:=by omega
 have g6:¬N=p:=by omega
 unfold execOp;cases hq:P.info? E with
 | none=>simp[hq]at hs
 | some z =>
  simp[hq]at hs;simp[ho,hx,hy,hy',Instr.sliceAt,Instr.slice,Instr.sliceBounds,Instr.sliceBound,run_underlying ht,asIntOf,asAddr,g1,g2,g6,sizeOf,typeInfo,hq,hs,wH,Instr.sureAddr]
theorem OQ{s x:Operand}{α β:Type}{sz n0 cc i f N cv i2 f2 lo m:Nat}{enc:α->List Value}{jm:β->List Value}{xs:List α}{ca:fP}{ys:List β}{E ag3:TypeId}{p q p2:α}(hw:vg o ops a)(hd:o.dst=some d)(hn:Nat.blt d n=true)(hr:cX Df n (lk l j) a)
 (ho:o.op= .call {callee:=.builtin .copy,args:=#[s,x],argTypes:=#[t,t]}) (hs:eZ (lk l j) s= .slice (some ⟨dQ ca,i*sz+f,none⟩) N N) (hx:eZ (lk l j) x= .slice (some ⟨dQ ca,i2*sz+f2+lo,none⟩) m cv)
 (he:tZ enc sz) (hi:tZ jm 1) (hty:P.underlying t=some (.slice ag3)) (hsz:(P.info? ag3).map (·.size)=some 1) (hm:ys.length=m) (hlen:m<=N)
 (hF:Fit w0 (aC (rowOf E sz enc (.slice ca n0 cc) xs::L)) w) (hp2:xs[i2]? = some p2) (hcs:((enc p2).drop (f2+lo)).take m=ys.flatMap jm) (hp:xs[i]? = some p) (hfit:f+m<=sz) (hq:enc q=(enc p).take f++ys.flatMap jm++(enc p).drop (f+m))
 (k:∀w1 a,Fit w0 (aC (rowOf E sz enc (.slice ca n0 cc) (xs.set i q)::L)) w1->cX Df n (lk ((d,.int .i64 ((m:Nat):Int))::l) j) a->wpList P ops Q rest a w1):wpList P ops Q (o::rest) a w:=by
 subst hm;have YS:=hF.Ig he (f:=f2+lo) (xs:=ys.flatMap jm) hp2 (by rw[show(ys.flatMap jm).length=ys.length by rw[hi.flat ys,Nat.mul_one]];exact hcs);rw[<-Nat.add_assoc]at YS;have GJ:i<xs.length:=(List.getElem?_eq_some_iff.1 hp).1;have hn':=hF.rA;obtain⟨hca,Dz⟩:=hF.tD I;obtain⟨Gy,Fy⟩:=Dz.yZ;obtain⟨cur,WT,ME,hP⟩:=Dz.ql;have hle:i*sz+sz<=xs.length*sz:=by
  have:(i+1)*sz<=xs.length*sz:=sH _ GJ;rw[vj]at this;omega
 have ZF:xs.length*sz<=cc*sz:=sH _ Gy;have hfl:(ys.flatMap jm).length=ys.length:=by rw[hi.flat ys,Nat.mul_one]
 have hmin:Nat.min ys.length N=ys.length:=yW hlen;have hcells:(Builtin.firstCells 1 ys.length (.slice (some ⟨dQ ca,i2*sz+f2+lo,none⟩) ys.length cv)).run P w= .ok (ys.flatMap jm).toArray w:=
  run_firstCells_some (P:=P) w 1 ys.length _ _ _ (ys.flatMap jm) (by rw[hfl,Nat.mul_one]) (v5 YS)
 have hst:=run_storeCells_at P (dQ ca) (i*sz+f) E (ys.flatMap jm) 0 cur w hP.block (by rw[hfl];omega) (hi.zV ys);simp only[Gs]at hst;refine sw (w1:=w.setRow (dQ ca) (cur.toList.take (i*sz+f)++ys.flatMap jm++cur.toList.drop (i*sz+f+(ys.flatMap jm).length)).toArray) (v:=.int .i64 ((ys.length:Nat):Int)) hw hd hn hr ?_ (λa hr=>k _ a (Fit.z7 ?_ hca (by rw[hU];exact hn')) hr)
 ·unfold execOp;cases yo:P.info? ag3 with
  | none=>simp[yo]at hsz
  | some q =>
   simp[yo]at hsz;simp only[ho,resolve,invoke,builtin,n5,uo,n6,Gt,Bs,B3,hs,hx];simp[Builtin.copy_,run_underlying hty,Builtin.lenOf,sizeOf,typeInfo,yo,hsz,hmin,hcells,hst,goInt]
 ·refine(hP.turn (w':=w.setRow (dQ ca) (cur.toList.take (i*sz+f)++ys.flatMap jm++cur.toList.drop (i*sz+f+(ys.flatMap jm).length)).toArray) (setRow_heap w (dQ ca) cur _ E (0,0) hP.block) (λk hk _=>setRow_other w (dQ ca) k _ hk) rfl rfl rfl (by simp)).head λz hz=>⟨by simpa using Gy,Fy,_,?_,?_,hz⟩
  ·simp only[Dt,j6,vk,BZ,vl];omega
  ·have YO:((xs.flatMap enc).drop (i*sz)).take sz=enc p:=by
    apply zS
    intro k;rw[List.getElem?_take];by_cases hk:k<sz
    ·rw[aP hk,List.getElem?_drop];exact he.get xs i k p hp hk
    ·rw[cu hk,List.getElem?_eq_none (by rw[he.len];omega)]
   rw[<-hfl]at hq hfit;generalize ys.flatMap jm=vs at hq hfit hst⊢;rw[hU,he.set xs i q GJ,hq,<-YO,DW _ _ _ _ _ hfit (by rw[he.flat];exact hle),<-ME];have hA:(cur.toList.take (i*sz+f)).length=i*sz+f:=by rw[vk,vl];omega
   have e1:(cur.toList.take (i*sz+f)++vs++cur.toList.drop (i*sz+f+vs.length)).take (xs.length*sz)=cur.toList.take (i*sz+f)++vs++(cur.toList.drop (i*sz+f+vs.length)).take (xs.length*sz-(i*sz+f+vs.length)):=by
    rw[J8,Gp (by rw[j6,hA];omega),j6,hA]
   rw[J9,e1,List.take_take,yW I,Ka]
end
end GX
end
section
namespace Mo
open Go Go.RowKit SL GX
noncomputable section
variable {z w:World}{L:List bj}
structure ct where
 aN:Int
 A:Int
 B:Int
 C:Int
 K:Int
deriving Inhabited,DecidableEq
def cY(x:ct):List Value:=[Z x.aN,Z x.A,Z x.B,Z x.C,Z x.K]
abbrev gI(x:ct):List Value:=[Z x.aN,Z x.A,Z x.B,Z x.C,Z x.K]
abbrev lW(x:ct):Array Value:=#[Z x.aN,Z x.A,Z x.B,Z x.C,Z x.K]
abbrev gZ(x:ct):Value:=.agg #[Z x.aN,Z x.A,Z x.B,Z x.C,Z x.K]
theorem iS:tZ cY 5:=⟨λ_=>rfl,λx u h=>by simp only[cY,tV,tW,tX]at h;rcases h with rfl | rfl | rfl | rfl | rfl<;>rfl,eC⟩
structure aB where
 aS:Int
 dw:Int
 bM:Int
 ai:List ct
deriving Inhabited,DecidableEq
structure bO where
 bS:List aB
 oQ:List Int
 di:Int
 eL:Int
 fD:Int
 gJ:Int
 dx:List Int
 fB:List Int
deriving Inhabited,DecidableEq
def Uy(a:fP)(c:Nat)(x:aB):List Value:=[Z x.aS,Z x.dw,Z x.bM,.slice a x.ai.length c]
abbrev yP(L:List bj)(va:fP)(hs:Nat->Option Addr×Nat)(l:List aB):Prop:=xO L 4 5 Uy cY aB.ai va hs l
structure eP where
 cB:Int
 dY:Int
 j0:Int
deriving Inhabited,DecidableEq
abbrev GM(x:eP):List Value:=[Z x.cB,Z x.dY,Z x.j0]
abbrev mg(x:eP):Array Value:=#[Z x.cB,Z x.dY,Z x.j0]
abbrev kU(x:eP):Value:=.agg #[Z x.cB,Z x.dY,Z x.j0]
abbrev M9(B:Nat)(S:eP):bj:=pts B (.cells #[Z S.cB,Z S.dY,Z S.j0] 27)
structure aW where
 tw:Int
 aN:Int
 Addr:Int
 A:Int
 B:Int
 OK:Bool
deriving Inhabited,DecidableEq
def ij(x:aW):List Value:=[Z x.tw,Z x.aN,Z x.Addr,Z x.A,Z x.B,vB x.OK]
theorem uc:tZ ij 6:=⟨λ_=>rfl,λx u h=>by simp only[ij,tV,tW,tX]at h;rcases h with rfl | rfl | rfl | rfl | rfl | rfl<;>rfl,eC⟩
structure af where
 nA:Int
 fE:Int
 cell:List Int
 log:List aW
 ua:Int
 watched:Bool
deriving Inhabited,DecidableEq
abbrev aeF(B:Nat)(S:af)(a2:fP)(c2:Nat)(a3:fP)(c3:Nat):bj:=pts B (.cells #[Z S.nA,Z S.fE,.slice a2 S.cell.length c2,.slice a3 S.log.length c3,Z S.ua,vB S.watched] 92)
abbrev Xg(a:fP)(c:Nat)(l:List Int):bj:=rowOf 2 1 aH (.slice a l.length c) l
abbrev Uz(a:fP)(c:Nat)(l:List aW):bj:=rowOf 159 6 ij (.slice a l.length c) l
structure aE where
 ah:List aB
deriving Inhabited,DecidableEq
abbrev rW(B:Nat)(S:aB)(a3:fP)(c3:Nat):bj:=pts B (.cells #[Z S.aS,Z S.dw,Z S.bM,.slice a3 S.ai.length c3] 99)
structure fa where
 zO:Int
 Func:Int
 At:Int
deriving Inhabited,DecidableEq
abbrev Ci(x:fa):Value:=.agg #[Z x.zO,Z x.Func,Z x.At]
abbrev vS(B:Nat)(S:ct):bj:=pts B (.cells #[Z S.aN,Z S.A,Z S.B,Z S.C,Z S.K] 146)
abbrev y9(a:fP)(c:Nat)(l:List Int):bj:=rowOf 3 1 aH (.slice a l.length c) l
def j1(x:List Int)(cs:List Value):bj:=exs λuO:fP=>exs λuP:Nat=>aC [RD (cs=[.slice uO x.length uP]),y9 uO uP x]
theorem n9{x:List Int}{cs:List Value}(h:Fit z (aC (j1 x cs::L)) w) :∃uO:fP,∃uP:Nat,cs=[.slice uO x.length uP]/\Fit z (aC (y9 uO uP x::L)) w:=by
 unfold j1 at h;obtain⟨uO,h⟩:=h.n8;obtain⟨uP,h⟩:=h.n8;have h:=h.tM;obtain⟨e,h⟩:=h.zU;exact⟨uO,uP,e,h⟩
theorem iY{x:List Int}{uO:fP}{uP:Nat}(h:Fit z (aC (y9 uO uP x::L)) w):Fit z (aC (j1 x [.slice uO x.length uP]::L)) w:=by
 unfold j1;refine Fit.jZ uO<|Fit.jZ uP<|Fit.sY (RD (([.slice uO x.length uP]:List Value)=[.slice uO x.length uP])::y9 uO uP x::[]) L<|?_;exact h.ym rfl
abbrev K5(a:fP)(c:Nat)(l:List (List Int)):bj:=tP 28 1 j1 (.slice a l.length c) l
abbrev ack(B:Nat)(S:fa):bj:=pts B (.cells #[Z S.zO,Z S.Func,Z S.At] 95)
structure v9 where
 a:Int
 b:Int
 c:Int
 k:Int
 next:Bool
deriving Inhabited,DecidableEq
def gT(x:v9):List Value:=[Z x.a,Z x.b,Z x.c,Z x.k,vB x.next]
abbrev K6(x:v9):List Value:=[Z x.a,Z x.b,Z x.c,Z x.k,vB x.next]
abbrev K7(x:v9):Value:=.agg #[Z x.a,Z x.b,Z x.c,Z x.k,vB x.next]
def yK:List v9:=[⟨1,0,0,0,true⟩,⟨1,1,0,0,true⟩,⟨1,1,1,5,true⟩,⟨3,0,0,0,false⟩,⟨1,3,0,0,true⟩,⟨2,4,0,0,true⟩,⟨0,0,0,0,true⟩,⟨1,2,0,0,true⟩,⟨1,0,0,0,true⟩,⟨1,0,0,0,false⟩]
abbrev UA(B:Nat)(S:v9):bj:=pts B (.cells #[Z S.a,Z S.b,Z S.c,Z S.k,vB S.next] 249)
structure nW where
 FE:Int
 D1:Int
 Ip:Int
deriving Inhabited,DecidableEq
abbrev Bw(x:nW):Value:=.agg #[Z x.FE,Z x.D1,Z x.Ip]
structure aX where
 J:Int
 state:Int
deriving Inhabited,DecidableEq
def dX(x:aX):List Value:=[Z x.J,Z x.state]
abbrev GN(x:aX):List Value:=[Z x.J,Z x.state]
abbrev GO(x:aX):Array Value:=#[Z x.J,Z x.state]
abbrev xn(x:aX):Value:=.agg #[Z x.J,Z x.state]
theorem oF:tZ dX 2:=⟨λ_=>rfl,λx u h=>by simp only[dX,tV,tW,tX]at h;rcases h with rfl | rfl<;>rfl,eC⟩
theorem GP(x y:aX):vm (dX x) (dX y)=decide (x=y):=by
 rw[Bool.eq_iff_iff];cases x;cases y;simp[dX,vm]
theorem K8:MU Tryz.prog 255 dX:=⟨aZ,aZ,λx y=>aZ,GP⟩
abbrev Qs(B:Nat)(S:aX):bj:=pts B (.cells #[Z S.J,Z S.state] 255)
structure aY where
 fn:Int
 J:Int
 parent:Int
 slot:Int
 bC:Int
 lX:Int
 bD:List Int
deriving Inhabited,DecidableEq
def cU(x:aY):List Value:=[Z x.fn,Z x.J,Z x.parent,Z x.slot,Z x.bC,Z x.lX]++eH 16 aH x.bD
abbrev pq(x:aY):List Value:=[Z x.fn,Z x.J,Z x.parent,Z x.slot,Z x.bC,Z x.lX]++eH 16 aH x.bD
theorem bT:tZ (cU) 22:=Aa.enc (N:=6+16*1) (λx=>(show Aa (cU x) (6+16*1)from((Aa.lit 6 (by rfl)).app (Ht 16 aG _)))) eC (by rfl)
abbrev sO(a:fP)(c:Nat)(l:List aY):bj:=rowOf 114 22 cU (.slice a l.length c) l
abbrev Ks(a:fP)(c:Nat)(l:List ct):bj:=rowOf 146 5 cY (.slice a l.length c) l
def mX(x:aB)(cs:List Value):bj:=exs λuO:fP=>exs λuP:Nat=>aC [RD (cs=[Z x.aS,Z x.dw,Z x.bM,.slice uO x.ai.length uP]),Ks uO uP x.ai]
theorem vu{x:aB}{cs:List Value}(h:Fit z (aC (mX x cs::L)) w) :∃uO:fP,∃uP:Nat,cs=[Z x.aS,Z x.dw,Z x.bM,.slice uO x.ai.length uP]/\Fit z (aC (Ks uO uP x.ai::L)) w:=by
 unfold mX at h;obtain⟨uO,h⟩:=h.n8;obtain⟨uP,h⟩:=h.n8;have h:=h.tM;obtain⟨e,h⟩:=h.zU;exact⟨uO,uP,e,h⟩
theorem fl{x:aB}{uO:fP}{uP:Nat}(h:Fit z (aC (Ks uO uP x.ai::L)) w):Fit z (aC (mX x [Z x.aS,Z x.dw,Z x.bM,.slice uO x.ai.length uP]::L)) w:=by
 unfold mX;refine Fit.jZ uO<|Fit.jZ uP<|Fit.sY (RD (([Z x.aS,Z x.dw,Z x.bM,.slice uO x.ai.length uP]:List Value)=[Z x.aS,Z x.dw,Z x.bM,.slice uO x.ai.length uP])::Ks uO uP x.ai::[]) L<|?_;exact h.ym rfl
abbrev rE(a:fP)(c:Nat)(l:List aB):bj:=tP 99 4 mX (.slice a l.length c) l
structure cA where
 lA:Int
 j0:Int
deriving Inhabited,DecidableEq
def bA(x:cA):List Value:=[Z x.lA,Z x.j0]
abbrev mC(x:cA):List Value:=[Z x.lA,Z x.j0]
abbrev pB(x:cA):Array Value:=#[Z x.lA,Z x.j0]
abbrev ik(x:cA):Value:=.agg #[Z x.lA,Z x.j0]
theorem gg:tZ bA 2:=⟨λ_=>rfl,λx u h=>by simp only[bA,tV,tW,tX]at h;rcases h with rfl | rfl<;>rfl,eC⟩
structure bX where
 kind:Int
 J:Int
 ox:Int
 oR:Int
 v:Int
 t:Int
 b:Int
 a:Int
 c:Int
 a2:Int
 c2:Int
 i:Int
 x:Int
 BI:Bool
 code:Int
 value:Int
deriving Inhabited,DecidableEq
def bG(x:bX):List Value:=[Z x.kind,Z x.J,Z x.ox,Z x.oR,Z x.v,Z x.t,Z x.b,Z x.a,Z x.c,Z x.a2,Z x.c2,Z x.i,Z x.x,vB x.BI,Z x.code,Z x.value]
abbrev jH(x:bX):List Value:=[Z x.kind,Z x.J,Z x.ox,Z x.oR,Z x.v,Z x.t,Z x.b,Z x.a,Z x.c,Z x.a2,Z x.c2,Z x.i,Z x.x,vB x.BI,Z x.code,Z x.value]
abbrev nX(x:bX):Array Value:=#[Z x.kind,Z x.J,Z x.ox,Z x.oR,Z x.v,Z x.t,Z x.b,Z x.a,Z x.c,Z x.a2,Z x.c2,Z x.i,Z x.x,vB x.BI,Z x.code,Z x.value]
abbrev fy(x:bX):Value:=.agg #[Z x.kind,Z x.J,Z x.ox,Z x.oR,Z x.v,Z x.t,Z x.b,Z x.a,Z x.c,Z x.a2,Z x.c2,Z x.i,Z x.x,vB x.BI,Z x.code,Z x.value]
theorem za:tZ bG 16:=⟨λ_=>rfl,λx u h=>by simp only[bG,tV,tW,tX]at h;rcases h with rfl | rfl | rfl | rfl | rfl | rfl | rfl | rfl | rfl | rfl | rfl | rfl | rfl | rfl | rfl | rfl<;>rfl,eC⟩
theorem DG(x y:bX):vm (bG x) (bG y)=decide (x=y):=by
 rw[Bool.eq_iff_iff];cases x;cases y;simp[bG,vm,and_assoc]
structure cz where
 eK:Int
 eD:Int
 gK:Int
 aA:Int
 fF:Int
 mO:Int
 kind:Int
 slot:Int
 Na:Int
deriving Inhabited,DecidableEq
def nB(x:cz):List Value:=[Z x.eK,Z x.eD,Z x.gK,Z x.aA,Z x.fF,Z x.mO,Z x.kind,Z x.slot,Z x.Na]
abbrev kD(x:cz):List Value:=[Z x.eK,Z x.eD,Z x.gK,Z x.aA,Z x.fF,Z x.mO,Z x.kind,Z x.slot,Z x.Na]
abbrev Cj(x:cz):Array Value:=#[Z x.eK,Z x.eD,Z x.gK,Z x.aA,Z x.fF,Z x.mO,Z x.kind,Z x.slot,Z x.Na]
abbrev kE(x:cz):Value:=.agg #[Z x.eK,Z x.eD,Z x.gK,Z x.aA,Z x.fF,Z x.mO,Z x.kind,Z x.slot,Z x.Na]
theorem D2:tZ nB 9:=⟨λ_=>rfl,λx u h=>by simp only[nB,tV,tW,tX]at h;rcases h with rfl | rfl | rfl | rfl | rfl | rfl | rfl | rfl | rfl<;>rfl,eC⟩
theorem Iq(x y:cz):vm (nB x) (nB y)=decide (x=y):=by
 rw[Bool.eq_iff_iff];cases x;cases y;simp[nB,vm,and_assoc]
structure cg where
 bV:Int
 ck:Int
 gL:Int
 dI:Int
 az:Int
 dD:Int
 jV:Int
 eF:Int
 fG:Int
 dK:List cA
 look:bX
deriving Inhabited,DecidableEq
def uu(x:cg):List Value:=[Z x.bV,Z x.ck,Z x.gL,Z x.dI,Z x.az,Z x.dD,Z x.jV,Z x.eF,Z x.fG]++eH 64 bA x.dK++bG x.look
abbrev mY(x:cg):List Value:=[Z x.bV,Z x.ck,Z x.gL,Z x.dI,Z x.az,Z x.dD,Z x.jV,Z x.eF,Z x.fG]++eH 64 bA x.dK++bG x.look
abbrev oS(x:cg):Array Value:=([Z x.bV,Z x.ck,Z x.gL,Z x.dI,Z x.az,Z x.dD,Z x.jV,Z x.eF,Z x.fG]++eH 64 bA x.dK++bG x.look).toArray
abbrev jc(x:cg):Value:=.agg ([Z x.bV,Z x.ck,Z x.gL,Z x.dI,Z x.az,Z x.dD,Z x.jV,Z x.eF,Z x.fG]++eH 64 bA x.dK++bG x.look).toArray
theorem FF:tZ (uu) 153:=Aa.enc (N:=9+64*2+16) (λx=>(show Aa (uu x) (9+64*2+16)from(((Aa.lit 9 (by rfl)).app (Ht 64 gg _)).app (za.p _)))) eC (by rfl)
structure bH where
 bz:Int
 aI:Int
 ay:Int
 from_:Int
 cr:Int
 done:Int
 gu:Int
 fO:Int
 bx:bX
 dP:cz
 cR:cg
 parked:Bool
deriving Inhabited,DecidableEq
def mm(B:Nat)(x:bH):List Value:=[pA B 0,Z x.bz,Z x.aI,Z x.ay,Z x.from_,Z x.cr,Z x.done,Z x.gu,Z x.fO]++bG x.bx++nB x.dP++uu x.cR++[vB x.parked]
theorem ak(B:Nat):tZ (mm B) 188:=Aa.enc (N:=9+16+9+153+1) (λx=>(show Aa (mm B x) (9+16+9+153+1)from(((((Aa.lit 9 (by rfl)).app (za.p _)).app (D2.p _)).app (FF.p _)).app (Aa.lit 1 (by rfl))))) eC (by rfl)
structure ag where
 code:List aB
 result:Int
 dL:Int
 cW:Int
 fH:Int
 cT:Int
 dK:List cA
 aK:List aY
 aj:List bH
 value:Int
 left:Bool
deriving Inhabited,DecidableEq
structure bq where
 lA:Int
 cB:Int
deriving Inhabited,DecidableEq
abbrev zb(x:bq):List Value:=[Z x.lA,Z x.cB]
abbrev iq(x:bq):Array Value:=#[Z x.lA,Z x.cB]
abbrev fQ(x:bq):Value:=.agg #[Z x.lA,Z x.cB]
structure fz where
 lA:Int
 di:Int
deriving Inhabited,DecidableEq
abbrev Jt(x:fz):List Value:=[Z x.lA,Z x.di]
abbrev uv(x:fz):Array Value:=#[Z x.lA,Z x.di]
abbrev qX(x:fz):Value:=.agg #[Z x.lA,Z x.di]
abbrev sk(a:fP)(c:Nat)(l:List cA):bj:=rowOf 118 2 bA (.slice a l.length c) l
abbrev sn(B:Nat)(a:fP)(c:Nat)(l:List bH):bj:=rowOf 131 188 (mm B) (.slice a l.length c) l
abbrev Nb(B:Nat)(S:cA):bj:=pts B (.cells #[Z S.lA,Z S.j0] 118)
abbrev jo(B:Nat)(S:cz):bj:=pts B (.cells #[Z S.eK,Z S.eD,Z S.gK,Z S.aA,Z S.fF,Z S.mO,Z S.kind,Z S.slot,Z S.Na] 124)
abbrev vT(B:Nat)(S:ag)(k0:Value)(a1:fP)(c1:Nat)(a7:fP)(c7:Nat)(a8:fP)(c8:Nat)(a9:fP)(c9:Nat):bj:=pts B (.cells #[k0,.slice a1 S.code.length c1,Z S.result,Z S.dL,Z S.cW,Z S.fH,Z S.cT,.slice a7 S.dK.length c7,.slice a8 S.aK.length c8,.slice a9 S.aj.length c9,Z S.value,vB S.left] 110)
abbrev CZ(B:Nat)(S:bO)(a0:fP)(c0:Nat)(a1:fP)(c1:Nat)(a6:fP)(c6:Nat)(a7:fP)(c7:Nat):bj:=pts B (.cells #[.slice a0 S.bS.length c0,.slice a1 S.oQ.length c1,Z S.di,Z S.eL,Z S.fD,Z S.gJ,.slice a6 S.dx.length c6,.slice a7 S.fB.length c7] 32)
def Qt:List Bool:=[false,false,false,false,false,false,false,false,false,false,false,false,false,true,true]
structure aq where
 At:Int
 tw:Int
 aN:Int
 Frame:Int
 X:Int
 V:Int
deriving Inhabited,DecidableEq
def iu(x:aq):List Value:=[Z x.At,Z x.tw,Z x.aN,Z x.Frame,Z x.X,Z x.V]
abbrev dU(x:aq):List Value:=[Z x.At,Z x.tw,Z x.aN,Z x.Frame,Z x.X,Z x.V]
abbrev vv(x:aq):Array Value:=#[Z x.At,Z x.tw,Z x.aN,Z x.Frame,Z x.X,Z x.V]
abbrev eT(x:aq):Value:=.agg #[Z x.At,Z x.tw,Z x.aN,Z x.Frame,Z x.X,Z x.V]
theorem gy:tZ iu 6:=⟨λ_=>rfl,λx u h=>by simp only[iu,tV,tW,tX]at h;rcases h with rfl | rfl | rfl | rfl | rfl | rfl<;>rfl,eC⟩
abbrev fX(B:Nat)(S:aq):bj:=pts B (.cells #[Z S.At,Z S.tw,Z S.aN,Z S.Frame,Z S.X,Z S.V] 47)
abbrev dO(B:Nat)(S:bX):bj:=pts B (.cells #[Z S.kind,Z S.J,Z S.ox,Z S.oR,Z S.v,Z S.t,Z S.b,Z S.a,Z S.c,Z S.a2,Z S.c2,Z S.i,Z S.x,vB S.BI,Z S.code,Z S.value] 120)
abbrev iJ(B:Nat)(S:cg):bj:=pts B (.cells ([Z S.bV,Z S.ck,Z S.gL,Z S.dI,Z S.az,Z S.dD,Z S.jV,Z S.eF,Z S.fG]++eH 64 bA S.dK++bG S.look).toArray 129)
abbrev acm(B:Nat)(S:fz):bj:=pts B (.cells #[Z S.lA,Z S.di] 106)
end
noncomputable section
variable {z w:World}{L:List bj}
abbrev an (p:ag) (i:Int):=J p.aj i.toNat
abbrev qY (p:ag) (i:Int):=J p.aK (J p.aj i.toNat).ay.toNat
abbrev j3 (p:ag) (i:Int) (a:bH):=p.aj.set i.toNat a
theorem _root_.Go.Proofs.YtpikpffbcjpmcaaGreatDoor.SL.Fit.gB{B:Nat}{z w:World}{L:List bj}{ca:fP}{n cc:Nat}{l:List bH}{x:bH}(h:Fit z (aC (rowOf 131 188 (mm B) (.slice ca n cc) l::L)) w)(f:Nat)(i:Int)(hx:l[i.toNat]?=some x)(xs:List Value)(hxs:(((mm B) x).drop f).take xs.length=xs:=by kernel_rfl):rB w (dQ ca) (i.toNat*188+f) xs:=h.Ig (sz:=188) (i:=i.toNat) (ak B) (f:=f) hx hxs
theorem _root_.Go.Proofs.YtpikpffbcjpmcaaGreatDoor.SL.Fit.GQ{z w:World}{L:List bj}{ca:fP}{n cc:Nat}{l:List aY}{x:aY}(h:Fit z (aC (rowOf 114 22 cU (.slice ca n cc) l::L)) w)(f:Nat)(i:Int)(hx:l[i.toNat]?=some x)(xs:List Value)(hxs:((cU x).drop f).take xs.length=xs:=by kernel_rfl):rB w (dQ ca) (i.toNat*22+f) xs:=h.Ig (sz:=22) (i:=i.toNat) bT (f:=f) hx hxs
section
variable {P:Program}{ops:Array Oper}{Q:Exit->Act->World->Prop}{a:Act}{w w0 w1:World}{rest:List Oper}{o:Oper}{n d t:Nat}{v:Value}{l:List (Nat×Value)}{j e:Nat->Value}{L:List bj}{Df:List Deferred}{α:Type}{E:TypeId}{sz n0 cc:Nat}{enc:α->List Value}{xs:List α}{ca:fP}
theorem oG{x y:Operand}(hr:cX Df n (lk l j) a)(ho:o.op=.store t x y)(v:Value)(he:tZ enc sz)(hF:Fit w0 (aC (rowOf E sz enc (.slice ca n0 cc) xs::L)) w)(i f:Nat)(p q:α)(hp:xs[i]?=some p)(k:∀ w1,Fit w0 (aC (rowOf E sz enc (.slice ca n0 cc) (xs.set i q)::L)) w1->wpList P ops Q rest a w1)(hf:f<sz:=by decide)(hx:eZ (lk l j) x=.pointer (some ⟨dQ ca,i*sz+f,none⟩):=by kernel_rfl)(hy:eZ (lk l j) y=v:=by kernel_rfl)(hs:(P.info? t).map (·.size)=some 1:=by kernel_rfl)(hq:enc q=(enc p).set f v:=by kernel_rfl)(hw:Region.wanted o (yielded ops a.tmps)=true:=by exact wn rfl)(hd:o.dst=none:=by rfl)(hv:v.cells=#[v]:=by rfl)(h1:v.oneCell'=true:=by rfl):wpList P ops Q (o::rest) a w:=qz hw hd hr ho hx hy hv h1 hs he hF hp hf hq k
theorem ud{w':World}{x y:Operand}{i:Int}[Inhabited α](E:TypeId)(ho:o.op=.indexAddr t x y)(hF:Fit w0 (aC (rowOf E sz enc (.slice ca n cc) xs::L)) w)(hi:bI i xs.length)(hx:eZ e x=.slice ca n cc:=by kernel_rfl)(hy:eZ e y=.int .i64 i:=by kernel_rfl)(ht:P.underlying t=some (.slice E):=by kernel_rfl)(hs:(P.info? E).map (·.size)=some sz:=by kernel_rfl):(execOp (eZ e) o).run P w'=.ok (.value (.pointer (some ⟨dQ ca,i.toNat*sz,none⟩))) w':=AH ho hx hy ht hs hF hi
theorem Ju{x y:Operand}{i:Int}{b N R off:Nat}{w':World}(E:TypeId)(ho:o.op=.indexAddr t x y)(hi:bI i N)(hx:eZ e x=.pointer (some ⟨b,R+off,none⟩):=by kernel_rfl)(hy:eZ e y=.int .i64 i:=by kernel_rfl)(ht:P.underlying t=some (.array N E):=by kernel_rfl)(hs:(P.info? E).map (·.size)=some sz:=by kernel_rfl):(execOp (eZ e) o).run P w'=.ok (.value (.pointer (some ⟨b,R+(off+i.toNat*sz),none⟩))) w':=ZS ho hx hy ht hs hi
theorem qZ{fn:Func}{R:Ending->World->Prop}{t T b off u:Nat}(cs:List Value)(v:Value)(hres:fn.results=#[.cell t T,.tmp u])(hr:kX n e a)(hc:rB w b off cs)(h:R (.returned (.tuple #[.agg cs.toArray,v])) w)(hv:e t=.pointer (some ⟨b,off,none⟩):=by kernel_rfl)(To:e u=v:=by kernel_rfl)(hu:uN (P.underlying T)=true:=by kernel_rfl)(hs:(P.info? T).map (·.size)=some cs.length:=by kernel_rfl):bodyPost P fn R .ret a w:=RH hres hr hv To hu hs hc h
theorem iM[hp:PI Q]{D:World->Prop}{E:List Nat}{aR:Array Bool}(fuel i:Nat)(hi:ops[i]?=some o)(v:Value)(k:KK Df n ((dn o,v)::l) j (eX P .any ops Q D E fuel (aR.setIfInBounds i true)) w)(hg:o.guard=none:=by rfl)(hB:okB ops E aR i=true:=by kernel_rfl)(hrun:∀ w,(execOp (eZ (lk l j)) o).run P w=.ok (.value v) w:=by intro w;kernel_rfl)(hd:o.dst=some (dn o):=by rfl)(hn:Nat.blt (dn o) n=true:=by rfl):KK Df n l j (eX P .any ops Q D E (fuel+1) aR) w:=λa r=>evs fuel i hi (wn hg) r v k hB hrun hd hn
theorem ny[hp:PI Q]{D:List (Nat×Nat×List Value)}{E:List Nat}{aR:Array Bool}(hd:HL D w)(f i:Nat)(hi:ops[i]?=some o)(v:Value)(hrun:∀ w,(execOp (eZ (lk l j)) o).run P w=.ok (.value v) w)(k:KK Df n ((dn o,v)::l) j (eX P .any ops Q (HL D) E f (aR.setIfInBounds i true)) w)(hg:o.guard=none:=by rfl)(hB:YM ops E aR i=true:=by kernel_rfl)(h1:o.dst=some (dn o):=by rfl)(hn:Nat.blt (dn o) n=true:=by rfl):KK Df n l j (eX P .any ops Q (HL D) E (f+1) aR) w:=λa r=>CS hd f i hi (wn hg) r v k hB hrun h1 hn
theorem tA{fn:Func}{R:Ending->World->Prop}(v:Value)(hres:fn.results=#[.tmp t])(hr:kX n e a)(h:R (.returned v) w)(hv:e t=v:=by kernel_rfl):bodyPost P fn R .ret a w:=zW hres hr hv h
theorem D3{fn:Func}{R:Ending->World->Prop}{t':Nat}(v v':Value)(hres:fn.results=#[.tmp t,.tmp t'])(hr:kX n e a)(h:R (.returned (.tuple #[v,v'])) w)(hv:e t=v:=by kernel_rfl)(To:e t'=v':=by kernel_rfl):bodyPost P fn R .ret a w:=Ew hres hr hv To h
theorem K9{fn:Func}{R:Ending->World->Prop}{t1 t2 t3:Nat}(v1 v2 v3:Value)(hres:fn.results=#[.tmp t1,.tmp t2,.tmp t3])(hr:kX n e a)(h:R (.returned (.tuple #[v1,v2,v3])) w)(h1:e t1=v1:=by kernel_rfl)(h2:e t2=v2:=by kernel_rfl)(h3:e t3=v3:=by kernel_rfl):bodyPost P fn R .ret a w:=HZ hres hr h1 h2 h3 h
theorem wL{x y:Operand}{i i':Int}(ho:o.op=.index t x y)(hi:i=i')(hy:eZ e y=.int .i64 i:=by kernel_rfl)(hrun:(Instr.index t (eZ e x) (.int .i64 i')).run P w=.ok v w:=by kernel_rfl):(execOp (eZ e) o).run P w=.ok (.value v) w:=aeB ho hy hi hrun
theorem C0{β:Type}[Inhabited α]{x y:Operand}{i:Int}{m tB:Nat}{enc:fP->Nat->α->List Value}{jm:β->List Value}{vL:α->List β}{va:fP}{hs:Nat->Option Addr×Nat}(E:TypeId)(cc:Nat)(ho:o.op=.indexAddr t x y)(Jj:m=xs.length)(hF:xO L sz tB enc jm vL va hs xs)(hi:bI i xs.length)(hx:eZ e x=.slice va m cc:=by kernel_rfl)(hy:eZ e y=.int .i64 i:=by kernel_rfl)(ht:P.underlying t=some (.slice E):=by kernel_rfl)(hs':(P.info? E).map (·.size)=some sz:=by kernel_rfl):(execOp (eZ e) o).run P w=.ok (.value (.pointer (some ⟨dQ va,jl va+i.toNat*sz,none⟩))) w:=acg ho hx hy Jj ht hs' hF hi
theorem EK[Inhabited α]{x y:Operand}{i:Int}{m:Nat}{va:fP}(E:TypeId)(cc:Nat)(ho:o.op=.indexAddr t x y)(Jj:m=xs.length)(hF:bJ L sz enc va xs)(hi:bI i xs.length)(hx:eZ e x=.slice va m cc:=by kernel_rfl)(hy:eZ e y=.int .i64 i:=by kernel_rfl)(ht:P.underlying t=some (.slice E):=by kernel_rfl)(hs:(P.info? E).map (·.size)=some sz:=by kernel_rfl):(execOp (eZ e) o).run P w=.ok (.value (.pointer (some ⟨dQ va,jl va+i.toNat*sz,none⟩))) w:=YI ho hx hy Jj ht hs hF hi
end
abbrev iQ(z:World)(l:List bj)(w:World):Prop:=Fit z (aC l) w
abbrev nK(f:FuncId)(a:Array Value)(w z:World)(v:Value)(l:List bj):Prop:=Calls Tryz.prog f a w λe w=>e=.returned v/\Fit z (aC l) w
abbrev c1_{α:Type}(f:FuncId)(a:Array Value)(w z:World)(v:Value)(l:α->List bj):Prop:=Calls Tryz.prog f a w λe w=>∃x,e=.returned v/\Fit z (aC (l x)) w
abbrev c2_{α β:Type}(f:FuncId)(a:Array Value)(w z:World)(v:Value)(l:α->β->List bj):Prop:=Calls Tryz.prog f a w λe w=>∃x y,e=.returned v/\Fit z (aC (l x y)) w
abbrev yL{α β γ δ:Type}(f:FuncId)(a:Array Value)(w z:World)(v:Value)(l:α->β->γ->δ->List bj):Prop:=Calls Tryz.prog f a w λe w=>∃x y x' y',e=.returned v/\Fit z (aC (l x y x' y')) w
section
variable {P:Program}{ops:Array Oper}{Q:Exit->Act->World->Prop}{a:Act}{w w0 w1:World}{rest:List Oper}{o:Oper}{n d t:Nat}{v:Value}{l:List (Nat×Value)}{j e:Nat->Value}{L:List bj}{Df:List Deferred}{α:Type}{E:TypeId}{sz n0 cc:Nat}{enc:α->List Value}{xs:List α}{ca:fP}
theorem mA{i:Nat}{E:List Nat}{D:World->Prop}{X:Act->World->Prop}(k:KK Df n l j X w)(hB:¬i∈E:=by decide):KK Df n l j (λa w=>(i∈E->D w)/\X a w) w:=λa r=>⟨λh=>absurd h hB,k a r⟩
theorem mT{E:List Nat}{aR:Array Bool}{D:World->Prop}{fuel:Nat}(k:KK Df n l j (Q .normal) w)(hrd:Region.ready .any ops aR=[]:=by kernel_rfl):KK Df n l j (eX P .any ops Q D E fuel aR) w:=λa r=>zq (k a r) hrd
theorem lJ{E:List Nat}{aR:Array Bool}(i:Nat){D:World->Prop}{fuel:Nat}(hi:ops[i]?=some o)(k:KK Df n l j (wpList P ops (Exit.then (λa w=>(i∈E->D w)/\eX P .any ops Q D E fuel (aR.setIfInBounds i true) a w) Q) [o]) w)(hrd:Region.ready .any ops aR=[i]:=by kernel_rfl):KK Df n l j (eX P .any ops Q D E (fuel+1) aR) w:=λa r=>lD i hi (k a r) hrd
theorem vO{i:Nat}{E:List Nat}{D:World->Prop}{X:Act->World->Prop}(hd:D w)(k:D w->KK Df n l j X w):KK Df n l j (λa w=>(i∈E->D w)/\X a w) w:=λa r=>⟨λ_=>hd,k hd a r⟩
theorem mP{id:Nat}{lo:List Oper}{H:bj}(D:List (Nat×Nat×List Value))(E:List Nat)(N:Nat)(hF:Fit w0 H w)(hd:∀{w},Fit w0 H w->HL D w)(k:∀w,Fit w0 H w->HL D w->KK Df n l j (eX P .any lo.toArray Q (HL D) E N (Array.replicate N false)) w)(hm:P.follows .mixedOrders=true:=by kernel_rfl)(hN:lo.toArray.size=N:=by rfl):KK Df n l j ((Code.region id lo.toArray true).wp P Q) w:=λa r=>DV D E N hF hd (λw h hd=>k w h hd a r) hm hN
theorem zu{x:Operand}{ad:Addr}(v:Value)(hc:w.cell? ad=some v)(k:KK Df n ((d,v)::l) j (wpList P ops Q rest) w)(hw:o.guard=none:=by rfl)(hd:o.dst=some d:=by rfl)(hn:Nat.blt d n=true:=by rfl)(ho:o.op=.load t x:=by rfl)(hx:eZ (lk l j) x=.pointer (some ad):=by kernel_rfl)(hu:yn (P.underlying t)=true:=by kernel_rfl):KK Df n l j (wpList P ops Q (o::rest)) w:=λ_ r=>ld (wn hw) r v hc k hd hn ho hx hu
theorem yb{x:Operand}{b off:Nat}{cs:List Value}(v:Value)(hc:rB w b off cs)(k:KK Df n ((d,v)::l) j (wpList P ops Q rest) w)(hv:.agg cs.toArray=v:=by rfl)(hw:o.guard=none:=by rfl)(hd:o.dst=some d:=by rfl)(hn:Nat.blt d n=true:=by rfl)(ho:o.op=.load t x:=by rfl)(hx:eZ (lk l j) x=.pointer (some ⟨b,off,none⟩):=by kernel_rfl)(hu:uN (P.underlying t)=true:=by kernel_rfl)(hs:(P.info? t).map (·.size)=some cs.length:=by kernel_rfl):KK Df n l j (wpList P ops Q (o::rest)) w:=λ_ r=>ldm (wn hw) r v hc k hv hd hn ho hx hu hs
def Z1(b:Nat)(ag2:List (List Nat×Value)):List (Nat×Nat×Value):=ag2.flatMap λg=>g.1.map λk=>(k,b+k,g.2)
theorem lY{E:List Nat}{aR:Array Bool}{N:Nat}{D:List (Nat×Nat×List Value)}[hp:PI Q](hd:HL D w)(f b:Nat)(ag2:List (List Nat×Value))(k:KK Df n (T4 (Z1 b ag2) l) j (eX P .any ops Q (HL D) E f (T3 (Z1 b ag2) aR)) w)(hN:f+(Z1 b ag2).length=N:=by kernel_rfl)(hB:okE ops E n (Z1 b ag2) aR=true:=by kernel_rfl)(hrun:∀w,KZ P ops (Z1 b ag2) l j w=EB (Z1 b ag2) w:=by intro w;kernel_rfl):KK Df n l j (eX P .any ops Q (HL D) E N aR) w:=mz hd f (Z1 b ag2) k hN hB hrun
theorem bR{os:List Oper}(k:KK Df n (adA P j os [U] l) j (wpList P ops Q (os.drop 1)) w)(hrun:ZV P n j w os [U] l=ZW P j w os [U] l:=by kernel_rfl):KK Df n l j (wpList P ops Q os) w:=ko [U] k hrun
theorem aL{TZ:Nat}{y:Code}{os:List Oper}(vs:List Value)(k:KK Df n (adA P j os vs l) j (wpList P os.toArray (Exit.then (y.wp P Q) Q) (os.drop vs.length)) w)(hrun:ZV P n j w os vs l=ZW P j w os vs l:=by kernel_rfl):KK Df n l j ((Code.seq (.region TZ os.toArray false) y).wp P Q) w:=ks (ko vs k hrun)
theorem ig{TZ:Nat}{y:Code}{o:Oper}(k:KK Df n (adA P j [o] [U] l) j (y.wp P Q) w)(hrun:ZV P n j w [o] [U] l=ZW P j w [o] [U] l:=by kernel_rfl):KK Df n l j ((Code.seq (.region TZ [o].toArray false) y).wp P Q) w:=ks (ko [U] (G k) hrun)
theorem bW(k:KK Df n l j (Q .ret) w):KK Df n l j (wpList P ops (Exit.then (Code.ret.wp P Q) Q) []) w:=G (wr k)
theorem gq{K:Act->World->Prop}(k:KK Df n l j K w):KK Df n l j (Code.skip.wp P (Exit.then K Q)) w:=wk (tn k)
theorem eY{E:List Nat}{aR:Array Bool}{D:List (Nat×Nat×List Value)}{v:Value}[hp:PI Q](hd:HL D w)(q f i:Nat){b off:Nat}{x:Operand}(h:(ops[i]?,D[q]?)=(some o,some (b,off,[v])))(k:KK Df n ((dn o,v)::l) j (eX P .any ops Q (HL D) E f (aR.setIfInBounds i true)) w)(hg:o.guard=none:=by rfl)(hB:(okB ops E aR i&&DC .any ops E aR i)=true:=by kernel_rfl)(ho:o.op=.load t x:=by rfl)(hx:eZ (lk l j) x=.pointer (some ⟨b,off,none⟩):=by kernel_rfl)(hu:yn (P.underlying t)=true:=by kernel_rfl)(h1:o.dst=some (dn o):=by rfl)(hn:Nat.blt (dn o) n=true:=by rfl):KK Df n l j (eX P .any ops Q (HL D) E (f+1) aR) w:=kx hd q f i (nV (·.1) h) (nV (·.2) h) k hg hB ho hx hu h1 hn
end
abbrev mV(a:fP)(i:Int)(s:Nat):Value:=pA (dQ a) (i.toNat*s)
abbrev be(a:fP)(n c:Nat):Value:=.slice a n c
abbrev if_(n:Nat)(v:Value):Value:=.iface n v
abbrev oH(a:Array Value):Value:=.agg a
abbrev gh(b:Nat)(c:Array Value)(t:Nat):bj:=pts b (.cells c t)
abbrev ue(a:fP)(i:Int)(s f:Nat):Value:=pA (dQ a) (i.toNat*s+f)
abbrev eJ (p:ag) (i:Int):aY:={qY p i with J:=wi ((qY p i).J+1)}
abbrev D4 (p:ag) (i:Int):aB:=J p.code (qY p i).fn.toNat
abbrev fN (p:ag) (i:Int):ct:=J (D4 p i).ai (qY p i).J.toNat
abbrev EL (p:ag) (i:Int) (a:aY):=p.aK.set (an p i).ay.toNat a
def kZ(O:eP):Option (Bool):=
 (if O.cB<1 then some true else(if O.cB>4096 then some true else(if O.dY<1 then some true else(if O.dY>O.j0 then some true else some (decide (O.j0>4096))))))
abbrev dk:List Value:=[U,U]
theorem yQ(H:kZ O=some r0)(h:iQ z (L) w) :
 nK 47 #[kU O] w z (vB r0) (L):=by
 unfold kZ at H;refine ke func47 28 rfl λj=>ks<|kN h (mg O) 27 λb1 w h=>bR<|G<|aL [U]<|kL h 0<|ko [dH (O.cB<1),dH (O.cB<1)]<|qI H (λc2 H=>?_) λc2 H=>?_
 ·refine cx (dT c2) [7,8,9]<|oN (dT c2) (vB true)<|bR<|cx (rfl:true=true) [12,13,14]<|ko dk<|cx (rfl:true=true) [17,18,19,20,21]<|ko dk<|cx (rfl:true=true) [24,25,26]<|ko dk<|bW<|?_;cases H;exact gj (h.se 1 [])
 refine dg (dF c2) [7] [pA b1 0]<|vM (dF c2) h 0<|dg (dF c2) [9] [dH (O.cB>4096)]<|oC (dF c2) (dH (O.cB>4096))<|ko [dH (O.cB>4096)]<|qI H (λc3 H=>?_) λc3 H=>?_
 ·refine cx (dT c3) [12,13,14]<|oN (dT c3) (vB true)<|bR<|cx (rfl:true=true) [17,18,19,20,21]<|ko dk<|cx (rfl:true=true) [24,25,26]<|ko dk<|bW<|?_;cases H;exact gj (h.se 1 [])
 refine dg (dF c3) [12] [pA b1 1]<|vM (dF c3) h 1<|dg (dF c3) [14] [dH (O.dY<1)]<|oC (dF c3) (dH (O.dY<1))<|ko [dH (O.dY<1)]<|qI H (λc4 H=>?_) λc4 H=>?_
 ·refine cx (dT c4) [17,18,19,20,21]<|oN (dT c4) (vB true)<|bR<|cx (rfl:true=true) [24,25,26]<|ko dk<|bW<|?_;cases H;exact gj (h.se 1 [])
 refine dg (dF c4) [17] [pA b1 1]<|vM (dF c4) h 1<|dg (dF c4) [19] [pA b1 2]<|vM (dF c4) h 2<|dg (dF c4) [21] [dH (O.dY>O.j0)]<|oC (dF c4) (dH (O.dY>O.j0))<|ko [dH (O.dY>O.j0)]<|qI H (λc5 H=>?_) λc5 H=>?_
 ·refine cx (dT c5) [24,25,26]<|oN (dT c5) (vB true)<|bR<|bW<|?_;cases H;exact gj (h.se 1 [])
 refine dg (dF c5) [24] [pA b1 2]<|vM (dF c5) h 2<|dg (dF c5) [26] [dH (O.j0>4096)]<|oC (dF c5) (dH (O.j0>4096))<|ko [dH (O.j0>4096)]<|bW<|?_;cases H;exact gj (h.se 1 [])
def mZ(K:Nat)(Y:Int):Nat->Int->Int->Option (Int)
 | 0,_,_=>none
 | k1+1,g1,g2=>(if g2<Y then(mZ K Y k1 (wi ((wi (g1+1))+(if Y<(wi ((2:Int)*g2))then Y else(wi ((2:Int)*g2))))) (if Y<(wi ((2:Int)*g2))then Y else(wi ((2:Int)*g2))))else some g1)
def uZ(K:Nat)(O:Int)(Y:Int):Option (Int):=
 (mZ K Y K (wi ((4:Int)+O)) O)
def zd(K:Nat)(O:Int)(Y:eP):Option (Int):=
 zZ ((if O<1 then some (.inr 0)else(if O>64 then some (.inr 0)else ei (kZ Y) (λr6=>(if r6=true then some (.inr 0)else some (.inl ())))))) (ei (uZ K Y.dY Y.j0) (λr9=>some (wi ((wi ((wi ((wi ((2:Int)+(wi (Y.cB*10))))+2))+O))+(wi (O*r9))))))
def AL(O:Int):Option (Bool):=
 (if O>=0 then some (decide (O<=1048576))else some false)
theorem DH(H:AL O=some r0)(h:iQ z (L) w) :
 nK 46 #[Z O] w z (vB r0) (L):=by
 unfold AL at H;refine ke func46 9 rfl λj=>ig<|aL [U,dH (O>=0),dH (O>=0)]<|qI H (λc1 H=>?_) λc1 H=>?_
 ·refine dg (dT c1) [6,7] [Z O,dH (O<=1048576)]<|oN (dT c1) (dH (O<=1048576))<|ko [dH (O<=1048576)]<|bW<|?_;cases H;exact gj h
 refine cx (dF c1) [6,7]<|oC (dF c1) (vB false)<|bR<|bW<|?_;cases H;exact gj h
def yc(O:Int):Option ((Option af)×Int):=
 ei (AL O) (λr1=>(if r1=true then some (some (⟨O,0,([]:List Int),([]:List aW),0,false⟩:af),0)else some (none,3)))
abbrev kW:List Value:=[U,U,U]
abbrev gO (B:Nat) (S:af) (a:fP) (c:Nat) (d:fP) (e:Nat) (L:List bj):List bj:=aeF B S a c d e::Xg a c S.cell::Uz d e S.log::L
theorem Jv{O r1:Int}{r0:af}(H:yc O=some ((some r0),r1))(h:iQ z (L) w) :
 Calls Tryz.prog 14 #[Z O] w λe w=>∃YT y1 y2 y3 y4,e=.returned (.tuple #[pA YT 0,Z r1])/\Fit z (aC (gO YT r0 y1 y2 y3 y4 L)) w:=by
 unfold yc at H;refine ke func14 11 rfl λj=>aL dk<|G<|wq<|ks<|gf H λr1 e2 H=>bR<|fh (DH e2 h :) λw h=>ko [vB (!r1)]<|G<|FD H (λc3 H=>?_) λc3 H=>?_
 ·refine gq<|aL kW<|kN h (#[Z O,Z 0,be none 0 0,be none 0 0,Z 0,vB false]) 92 λb4 w h=>ko dk<|bW<|λ_ r=>D3 (pA b4 0) (Z 0) rfl r<|?_;replace h:=h.fM (e:=2) (sz:=1) (enc:=aH);replace h:=h.fM (e:=159) (sz:=6) (enc:=ij);cases H;exact⟨b4,none,0,none,0,rfl,h.se 3 [2,1,0]⟩
 refine aL dk<|bW<|tr<|λ_ r=>D3 pN (Z 3) rfl r<|?_;cases H
theorem Jw{O r1:Int}(H:yc O=some (none,r1))(h:iQ z (L) w) :
 nK 14 #[Z O] w z (.tuple #[pN,Z r1]) (L):=by
 unfold yc at H;refine ke func14 11 rfl λj=>aL dk<|G<|wq<|ks<|gf H λr1 e2 H=>bR<|fh (DH e2 h :) λw h=>ko [vB (!r1)]<|G<|FD H (λc3 H=>?_) λc3 H=>?_
 ·refine gq<|aL kW<|kN h (#[Z O,Z 0,be none 0 0,be none 0 0,Z 0,vB false]) 92 λb4 w h=>ko dk<|bW<|λ_ r=>D3 (pA b4 0) (Z 0) rfl r<|?_;replace h:=h.fM (e:=2) (sz:=1) (enc:=aH);replace h:=h.fM (e:=159) (sz:=6) (enc:=ij);cases H
 refine aL dk<|bW<|tr<|?_;cases H;exact Mb h
def kF(O:aB):Option (Bool):=
 zZ ((if O.aS<0 then some (.inr false)else(if O.aS>8 then some (.inr false)else(if O.dw<1 then some (.inr false)else(if O.dw<O.aS then some (.inr false)else(if O.dw>16 then some (.inr false)else some (.inl ()))))))) ((if O.bM>=0 then(if O.bM<=8 then(if((O.ai.length:Nat):Int)>=1 then some (decide (((O.ai.length:Nat):Int)<=512))else some false)else some false)else some false))
theorem vU(H:kF O=some r0)(h:iQ z (L) w)(cO:bJ L 5 cY bB O.ai) :
 nK 68 #[oH #[Z O.aS,Z O.dw,Z O.bM,be bB O.ai.length bY]] w z (vB r0) (L):=by
 unfold kF at H;refine ke func68 48 rfl λj=>ks<|kN h (#[Z O.aS,Z O.dw,Z O.bM,be bB O.ai.length bY]) 99 λb1 w h=>bR<|G<|?_;obtain⟨o3,H,GB⟩:=Gz H;refine λ_ r=>dh (β:=Unit) (λ_ a w=>.inl ()=o3/\∃j,kX 48 (lk [(1,pA b1 0)] j) a/\Fit z (aC (rW b1 O bB bY::L)) w) ?_ ?_
 ·refine qq r<|aL [U]<|kL h 0<|ko [dH (O.aS<0),dH (O.aS<0)]<|qI H (λc4 H=>?_) λc4 H=>?_
  ·refine cx (dT c4) [7,8,9]<|oN (dT c4) (vB true)<|bR<|cx (rfl:true=true) [12,13,14]<|ko dk<|cx (rfl:true=true) [17,18,19,20,21]<|ko dk<|cx (rfl:true=true) [24,25,26]<|bR<|G<|λ_ r=>gQ r (b:=true) rfl<|qq r<|ig<|wr<|tr<|λ_ r=>tA (vB false) rfl r<|?_;replace H:=xm H GB;cases H;exact⟨rfl,h.se 1 []⟩
  refine dg (dF c4) [7] [pA b1 0]<|vM (dF c4) h 0<|dg (dF c4) [9] [dH (O.aS>8)]<|oC (dF c4) (dH (O.aS>8))<|ko [dH (O.aS>8)]<|qI H (λc5 H=>?_) λc5 H=>?_
  ·refine cx (dT c5) [12,13,14]<|oN (dT c5) (vB true)<|bR<|cx (rfl:true=true) [17,18,19,20,21]<|ko dk<|cx (rfl:true=true) [24,25,26]<|bR<|G<|λ_ r=>gQ r (b:=true) rfl<|qq r<|ig<|wr<|tr<|λ_ r=>tA (vB false) rfl r<|?_;replace H:=xm H GB;cases H;exact⟨rfl,h.se 1 []⟩
  refine dg (dF c5) [12] [pA b1 1]<|vM (dF c5) h 1<|dg (dF c5) [14] [dH (O.dw<1)]<|oC (dF c5) (dH (O.dw<1))<|ko [dH (O.dw<1)]<|qI H (λc6 H=>?_) λc6 H=>?_
  ·refine cx (dT c6) [17,18,19,20,21]<|oN (dT c6) (vB true)<|bR<|cx (rfl:true=true) [24,25,26]<|bR<|G<|λ_ r=>gQ r (b:=true) rfl<|qq r<|ig<|wr<|tr<|λ_ r=>tA (vB false) rfl r<|?_;replace H:=xm H GB;cases H;exact⟨rfl,h.se 1 []⟩
  refine dg (dF c6) [17] [pA b1 1]<|vM (dF c6) h 1<|dg (dF c6) [19] [pA b1 0]<|vM (dF c6) h 0<|dg (dF c6) [21] [dH (O.dw<O.aS)]<|oC (dF c6) (dH (O.dw<O.aS))<|ko [dH (O.dw<O.aS)]<|qI H (λc7 H=>?_) λc7 H=>?_
  ·refine cx (dT c7) [24,25,26]<|oN (dT c7) (vB true)<|G<|λ_ r=>gQ r (b:=true) rfl<|qq r<|ig<|wr<|tr<|λ_ r=>tA (vB false) rfl r<|?_;replace H:=xm H GB;cases H;exact⟨rfl,h.se 1 []⟩
  refine dg (dF c7) [24] [pA b1 1]<|vM (dF c7) h 1<|dg (dF c7) [26] [dH (O.dw>16)]<|oC (dF c7) (dH (O.dw>16))<|G<|dW H (λc8 H=>?_) λc8 H=>?_
  ·refine ig<|wr<|tr<|λ_ r=>tA (vB false) rfl r<|?_;replace H:=xm H GB;cases H;exact⟨rfl,h.se 1 []⟩
  refine gq<|?_;exact λ_ r=>⟨(),gE H,r.fj h⟩
 clear h r;rintro _ a w ⟨rfl,j,r,h⟩;replace H:=GA GB;refine qq r<|aL [U]<|kL h 2<|ko [dH (O.bM>=0),dH (O.bM>=0)]<|qI H (λc9 H=>?_) λc9 H=>?_
 ·refine dg (dT c9) [32] [pA b1 2]<|vM (dT c9) h 2<|dg (dT c9) [34] [dH (O.bM<=8)]<|oN (dT c9) (dH (O.bM<=8))<|ko [dH (O.bM<=8)]<|qI H (λoO H=>?_) λoO H=>?_
  ·refine dg (dT oO) [37] [pA b1 3]<|vM (dT oO) h 3<|dg (dT oO) [39,40] [Z ((O.ai.length:Nat):Int),dH (((O.ai.length:Nat):Int)>=1)]<|oN (dT oO) (dH (((O.ai.length:Nat):Int)>=1))<|ko [dH (((O.ai.length:Nat):Int)>=1)]<|qI H (λu6 H=>?_) λu6 H=>?_
   ·refine dg (dT u6) [43] [pA b1 3]<|vM (dT u6) h 3<|dg (dT u6) [45,46] [Z ((O.ai.length:Nat):Int),dH (((O.ai.length:Nat):Int)<=512)]<|oN (dT u6) (dH (((O.ai.length:Nat):Int)<=512))<|ko [dH (((O.ai.length:Nat):Int)<=512)]<|bW<|?_;cases H;exact gj (h.se 1 [])
   refine cx (dF u6) [43,44,45,46]<|oC (dF u6) (vB false)<|bR<|bW<|?_;cases H;exact gj (h.se 1 [])
  refine cx (dF oO) [37,38,39,40]<|oC (dF oO) (vB false)<|bR<|cx (rfl:false=false) [43,44,45,46]<|ko dk<|bW<|?_;cases H;exact gj (h.se 1 [])
 refine cx (dF c9) [32,33,34]<|oC (dF c9) (vB false)<|bR<|cx (rfl:false=false) [37,38,39,40]<|ko dk<|cx (rfl:false=false) [43,44,45,46]<|ko dk<|bW<|?_;cases H;exact gj (h.se 1 [])
def gR(O:Int)(Y:Int):Option (Bool):=
 (if O>=0 then some (decide (O<Y))else some false)
theorem iN(H:gR O Y=some r0)(h:iQ z (L) w) :
 nK 110 #[Z O,Z Y] w z (vB r0) (L):=by
 unfold gR at H;refine ke func110 12 rfl λj=>ig<|aL [U,dH (O>=0),dH (O>=0)]<|qI H (λc1 H=>?_) λc1 H=>?_
 ·refine dg (dT c1) [8,9,10] [Z O,Z Y,dH (O<Y)]<|oN (dT c1) (dH (O<Y))<|ko [dH (O<Y)]<|bW<|?_;cases H;exact gj h
 refine cx (dF c1) [8,9,10]<|oC (dF c1) (vB false)<|bR<|bW<|?_;cases H;exact gj h
def oh(O:aB)(Y:ct):Option (Bool):=
 ei (gR Y.A O.dw) (λr3=>ei (gR Y.B O.dw) (λr5=>ei ((if Y.aN=0 then some (Y.aN==0)else(if Y.aN=8 then some (Y.aN==8)else some (Y.aN==9)))) (λg7=>(if g7=true then some r3 else(if Y.aN=1 then(if r3=true then some r5 else some false)else(if Y.aN=2 then(if r3=true then(if r5=true then ei (gR Y.C O.dw) (λnc=>(if nc=true then(if Y.K>=0 then some (decide (Y.K<16))else some false)else some false))else some false)else some false)else(if Y.aN=3 then ei (gR Y.A ((O.ai.length:Nat):Int)) (λrF=>some rF)else(if Y.aN=4 then(if r3=true then ei (gR Y.B ((O.ai.length:Nat):Int)) (λLa=>some La)else some false)else(if Y.aN=5 then ei (gR Y.A O.bM) (λCk=>some Ck)else(if Y.aN=6 then some true else(if Y.aN=7 then(if r3=true then ei (gR Y.B O.bM) (λEo=>some Eo)else some false)else some false)))))))))))
theorem tG(H:oh O Y=some r0)(h:iQ z (L) w)(cO:bJ L 5 cY bB O.ai) :
 nK 69 #[oH #[Z O.aS,Z O.dw,Z O.bM,be bB O.ai.length bY],gZ Y] w z (vB r0) (L):=by
 unfold oh at H;refine ke func69 91 rfl λj=>ks<|kN h (#[Z O.aS,Z O.dw,Z O.bM,be bB O.ai.length bY]) 99 λb1 w h=>kN h (lW Y) 146 λb2 w h=>bR<|G<|aL [U]<|kL h 1<|bR<|kL (h.pick 1) 1<|gf H λr3 e4 H=>fh (iN e4 h :) λw h=>bR<|G<|aL [U]<|kL h 2<|bR<|kL (h.pick 1) 1<|gf H λr5 e6 H=>fh (iN e6 h :) λw h=>bR<|G<|wq<|aL [U]<|kL h 0<|G<|wb<|El H λo9 H Nc=>λ_ r=>dh (β:=Unit) (λ_ a w=>∃g7:Bool,g7=o9/\∃j,kX 91 (lk [(2,pA b1 0),(3,pA b2 0),(5,vB r3),(6,vB r5),(18,Z Y.aN),(19,vB g7)] j) a/\Fit z (aC (rW b1 O bB bY::vS b2 Y::L)) w) ?_ ?_
 ·refine qq r<|aL [vB (Y.aN==0),vB (Y.aN==0)]<|G<|dW H (λoO H=>?_) λoO H=>?_
  ·refine gq<|?_;exact λ_ r=>⟨(),(Y.aN==0),gE H,r.fj (h.se 2 [1,0])⟩
  refine aL [vB (Y.aN==8),vB (Y.aN==8)]<|G<|dW H (λu6 H=>?_) λu6 H=>?_
  ·refine gq<|?_;exact λ_ r=>⟨(),(Y.aN==8),gE H,r.fj (h.se 2 [1,0])⟩
  refine wl<|ko [vB (Y.aN==9),vB (Y.aN==9)]<|G<|?_;exact λ_ r=>⟨(),(Y.aN==9),gE H,r.fj (h.se 2 [1,0])⟩
 clear h r;rintro _ a w ⟨g7,rfl,j,r,h⟩;replace H:=Ek Nc;refine qq r<|Em H (λD5 H=>?_) λD5 H=>?_
 ·refine aL dk<|bW<|br<|tr<|?_;cases H;exact gj (h.se 2 [])
 refine aL [vB (Y.aN==1),vB (Y.aN==1)]<|G<|dW H (λxQ H=>?_) λxQ H=>?_
 ·refine aL dk<|qI H (λxg H=>?_) λxg H=>?_
  ·refine dg (xg) [28] [vB r5]<|oN (xg) (vB r5)<|bR<|bW<|br<|tr<|?_;cases H;exact gj (h.se 2 [])
  refine cx (bF xg) [28]<|oC (bF xg) (vB false)<|bR<|bW<|br<|tr<|?_;cases H;exact gj (h.se 2 [])
 refine aL [vB (Y.aN==2),vB (Y.aN==2)]<|G<|dW H (λpJ H=>?_) λpJ H=>?_
 ·refine aL dk<|qI H (λu7 H=>?_) λu7 H=>?_
  ·refine dg (u7) [34] [vB r5]<|oN (u7) (vB r5)<|bR<|qI H (λyd H=>?_) λyd H=>?_
   ·refine dg (yd) [37] [pA b2 3]<|λ_ r=>ld (mB r (yd)) r (Z Y.C) ((h.pick 1).cell 3 rfl)<|?_;refine dg (yd) [39] [pA b1 1]<|λ_ r=>ld (mB r (yd)) r (Z O.dw) (h.cell 1 rfl)<|?_;refine gf H λnc Kt H=>?_;have hc:=iN (H:=Kt) (h:=h);intro _ r;refine cl (mB r (yd)) r hc ?_;clear hc h;rintro _ w ⟨rfl,h⟩;refine⟨_,rfl,?_⟩;refine oN (yd) (vB nc)<|bR<|qI H (λmW H=>?_) λmW H=>?_
    ·refine dg (mW) [44] [pA b2 4]<|λ_ r=>ld (mB r (mW)) r (Z Y.K) ((h.pick 1).cell 4 rfl)<|?_;refine dg (mW) [46] [dH (Y.K>=0)]<|oN (mW) (dH (Y.K>=0))<|ko [dH (Y.K>=0)]<|qI H (λsy H=>?_) λsy H=>?_
     ·refine dg (dT sy) [49] [pA b2 4]<|vM (dT sy) (h.pick 1) 4<|dg (dT sy) [51] [dH (Y.K<16)]<|oN (dT sy) (dH (Y.K<16))<|ko [dH (Y.K<16)]<|bW<|br<|tr<|?_;cases H;exact gj (h.se 2 [])
     refine cx (dF sy) [49,50,51]<|oC (dF sy) (vB false)<|bR<|bW<|br<|tr<|?_;cases H;exact gj (h.se 2 [])
    refine cx (bF mW) [44,45,46]<|oC (bF mW) (vB false)<|bR<|cx (rfl:false=false) [49,50,51]<|ko dk<|bW<|br<|tr<|?_;cases H;exact gj (h.se 2 [])
   refine cx (bF yd) [37,38,39,40,41]<|oC (bF yd) (vB false)<|bR<|cx (rfl:false=false) [44,45,46]<|ko dk<|cx (rfl:false=false) [49,50,51]<|ko dk<|bW<|br<|tr<|?_;cases H;exact gj (h.se 2 [])
  refine cx (bF u7) [34]<|oC (bF u7) (vB false)<|bR<|cx (rfl:false=false) [37,38,39,40,41]<|ko dk<|cx (rfl:false=false) [44,45,46]<|ko dk<|cx (rfl:false=false) [49,50,51]<|ko dk<|bW<|br<|tr<|?_;cases H;exact gj (h.se 2 [])
 refine aL [vB (Y.aN==3),vB (Y.aN==3)]<|G<|dW H (λFG H=>?_) λFG H=>?_
 ·refine aL [U]<|kL (h.pick 1) 1<|bR<|kL h 3<|gf H λrF UB H=>ko [Z ((O.ai.length:Nat):Int)]<|fh (iN UB h :) λw h=>bR<|bW<|br<|tr<|?_;cases H;exact gj (h.se 2 [])
 refine aL [vB (Y.aN==4),vB (Y.aN==4)]<|G<|dW H (λyM H=>?_) λyM H=>?_
 ·refine aL dk<|qI H (λCV H=>?_) λCV H=>?_
  ·refine dg (CV) [65] [pA b2 2]<|λ_ r=>ld (mB r (CV)) r (Z Y.B) ((h.pick 1).cell 2 rfl)<|?_;refine dg (CV) [67] [pA b1 3]<|λ_ r=>ld (mB r (CV)) r (be bB O.ai.length bY) (h.cell 3 rfl)<|?_;refine gf H λLa OR H=>dg (CV) [69] [Z ((O.ai.length:Nat):Int)]<|?_;have hc:=iN (H:=OR) (h:=h);intro _ r;refine cl (mB r (CV)) r hc ?_;clear hc h;rintro _ w ⟨rfl,h⟩;refine⟨_,rfl,?_⟩;refine oN (CV) (vB La)<|bR<|bW<|br<|tr<|?_;cases H;exact gj (h.se 2 [])
  refine cx (bF CV) [65,66,67,68,69,70]<|oC (bF CV) (vB false)<|bR<|bW<|br<|tr<|?_;cases H;exact gj (h.se 2 [])
 refine aL [vB (Y.aN==5),vB (Y.aN==5)]<|G<|dW H (λAM H=>?_) λAM H=>?_
 ·refine aL [U]<|kL (h.pick 1) 1<|bR<|kL h 2<|gf H λCk Ws H=>fh (iN Ws h :) λw h=>bR<|bW<|br<|tr<|?_;cases H;exact gj (h.se 2 [])
 refine aL [vB (Y.aN==6),vB (Y.aN==6)]<|G<|dW H (λFo H=>?_) λFo H=>?_
 ·refine ig<|wr<|br<|tr<|?_;cases H;exact gj (h.se 2 [])
 refine aL [vB (Y.aN==7),vB (Y.aN==7)]<|G<|dW H (λCl H=>?_) λCl H=>?_
 ·refine aL dk<|qI H (λFH H=>?_) λFH H=>?_
  ·refine dg (FH) [85] [pA b2 2]<|λ_ r=>ld (mB r (FH)) r (Z Y.B) ((h.pick 1).cell 2 rfl)<|?_;refine dg (FH) [87] [pA b1 2]<|λ_ r=>ld (mB r (FH)) r (Z O.bM) (h.cell 2 rfl)<|?_;refine gf H λEo UC H=>?_;have hc:=iN (H:=UC) (h:=h);intro _ r;refine cl (mB r (FH)) r hc ?_;clear hc h;rintro _ w ⟨rfl,h⟩;refine⟨_,rfl,?_⟩;refine oN (FH) (vB Eo)<|bR<|bW<|br<|tr<|?_;cases H;exact gj (h.se 2 [])
  refine cx (bF FH) [85,86,87,88,89]<|oC (bF FH) (vB false)<|bR<|bW<|br<|tr<|?_;cases H;exact gj (h.se 2 [])
 refine wk<|bn<|tn<|ig<|wr<|?_;cases H;exact gj (h.se 2 [])
def pM(O:aE)(Y:aB)(p2:ct):Option (Bool):=
 (if p2.aN=5 then ei (gR p2.B ((O.ah.length:Nat):Int)) (λr5=>(if r5=true then if bI p2.B O.ah.length then(if(J O.ah p2.B.toNat).aS=0 then some true else ei (gR p2.C Y.dw) (λzw=>(if zw=true then some (decide ((J O.ah p2.B.toNat).aS<=(wi (Y.dw-p2.C))))else some false)))else none else some false))else some true)
theorem BJ(H:pM O Y p2=some r0)(h:iQ z (L) w)(aQ:yP L aV aF O.ah)(fc:bJ L 5 cY dy Y.ai) :
 nK 70 #[oH #[be aV O.ah.length bu],oH #[Z Y.aS,Z Y.dw,Z Y.bM,be dy Y.ai.length dG],gZ p2] w z (vB r0) (L):=by
 unfold pM at H;refine ke func70 43 rfl λj=>ks<|kN h (#[be aV O.ah.length bu]) 24 λb1 w h=>kN h (#[Z Y.aS,Z Y.dw,Z Y.bM,be dy Y.ai.length dG]) 99 λb2 w h=>kN h (lW p2) 146 λb3 w h=>bR<|G<|wq<|aL [U]<|kL h 0<|ko [vB (p2.aN != 5)]<|G<|rD H (λc4 H=>?_) λc4 H=>?_
 ·refine gq<|wq<|aL [U]<|kL h 2<|bR<|kL (h.pick 2) 0<|gf H λr5 e6 H=>ko [Z ((O.ah.length:Nat):Int)]<|fh (iN e6 h :) λw h=>ko [vB (!r5)]<|G<|FD H (λc7 H=>?_) λc7 H=>?_
  ·refine gq<|aL [U]<|kL (h.pick 2) 0<|bR<|kL h 2<|qg H λc8 H=>kp (pA (dQ aV) (jl aV+p2.B.toNat*4)) (C0 99 bu rfl rfl aQ c8)<|bR<|zu (Z (J O.ah p2.B.toNat).aS) (aQ.cell c8 (h.dn 3) 0 rfl)<|?_;refine bR<|G<|aL [U,vB ((J O.ah p2.B.toNat).aS==0),vB ((J O.ah p2.B.toNat).aS==0)]<|qI H (λc9 H=>?_) λc9 H=>?_
   ·refine cx (beq_iff_eq.mpr c9) [28,29,30,31,32,33]<|M1 true [34,35,36,37,38,39,40]<|cx (beq_iff_eq.mpr c9) [41]<|oN (beq_iff_eq.mpr c9) (vB true)<|bR<|bW<|?_;cases H;exact gj (h.se 3 [])
   refine dg (bN c9) [28] [pA b3 3]<|vM (bN c9) h 3<|dg (bN c9) [30] [pA b2 1]<|vM (bN c9) (h.pick 1) 1<|gf H λzw Xh H=>xg0 (bN c9) (iN Xh h :) λw h=>dg (bN c9) [33] [vB zw]<|qI H (λD5 H=>?_) λD5 H=>?_
   ·refine dg (D5) [34,35] [Z (J O.ah p2.B.toNat).aS,pA b2 1]<|λ_ r=>ld (mB r (D5)) r (Z Y.dw) ((h.pick 1).cell 1 rfl)<|?_;refine dg (D5) [37] [pA b3 3]<|λ_ r=>ld (mB r (D5)) r (Z p2.C) (h.cell 3 rfl)<|?_;refine dg (D5) [39,40] [Z (wi (Y.dw-p2.C)),dH ((J O.ah p2.B.toNat).aS<=(wi (Y.dw-p2.C)))]<|λ_ r=>KW (mB r (bN c9)) r (dH ((J O.ah p2.B.toNat).aS<=(wi (Y.dw-p2.C)))) (Fx (b:=zw) rfl aZ (D5) aZ)<|?_;refine oC (bN c9) (dH ((J O.ah p2.B.toNat).aS<=(wi (Y.dw-p2.C))))<|ko [dH ((J O.ah p2.B.toNat).aS<=(wi (Y.dw-p2.C)))]<|bW<|?_;cases H;exact gj (h.se 3 [])
   refine cx (bF D5) [34,35,36,37,38,39,40]<|λ_ r=>KW (mB r (bN c9)) r (vB false) (GL (b:=zw) rfl aZ (bF D5) aZ)<|?_;refine oC (bN c9) (vB false)<|bR<|bW<|?_;cases H;exact gj (h.se 3 [])
  refine ig<|wr<|tr<|?_;cases H;exact gj (h.se 3 [])
 refine ig<|wr<|tr<|?_;cases H;exact gj (h.se 3 [])
def nP(O:aB):Option (Bool):=
 if bI (wi (((O.ai.length:Nat):Int)-1)) O.ai.length then(if(J O.ai (wi (((O.ai.length:Nat):Int)-1)).toNat).aN=3 then some true else some ((J O.ai (wi (((O.ai.length:Nat):Int)-1)).toNat).aN==9))else none
theorem xC(H:nP O=some r0)(h:iQ z (L) w)(cO:bJ L 5 cY bB O.ai) :
 nK 71 #[oH #[Z O.aS,Z O.dw,Z O.bM,be bB O.ai.length bY]] w z (vB r0) (L):=by
 unfold nP at H;refine ke func71 19 rfl λj=>ks<|kN h (#[Z O.aS,Z O.dw,Z O.bM,be bB O.ai.length bY]) 99 λb1 w h=>bR<|G<|aL [U]<|kL h 3<|bR<|kL h 3<|qg H λc2 H=>ko [Z ((O.ai.length:Nat):Int),Z (wi (((O.ai.length:Nat):Int)-1))]<|kj 146 bY cO c2<|ko [pA (dQ bB) (jl bB+(wi (((O.ai.length:Nat):Int)-1)).toNat*5)]<|zu (Z (J O.ai (wi (((O.ai.length:Nat):Int)-1)).toNat).aN) (cO.cell c2 (h.dn 1) 0 rfl)<|?_;refine ko [Z (J O.ai (wi (((O.ai.length:Nat):Int)-1)).toNat).aN]<|G<|aL [Z (J O.ai (wi (((O.ai.length:Nat):Int)-1)).toNat).aN,vB ((J O.ai (wi (((O.ai.length:Nat):Int)-1)).toNat).aN==3),vB ((J O.ai (wi (((O.ai.length:Nat):Int)-1)).toNat).aN==3)]<|qI H (λc3 H=>?_) λc3 H=>?_
 ·refine cx (beq_iff_eq.mpr c3) [16,17]<|oN (beq_iff_eq.mpr c3) (vB true)<|bR<|bW<|?_;cases H;exact gj (h.se 1 [])
 refine dg (bN c3) [16,17] [Z (J O.ai (wi (((O.ai.length:Nat):Int)-1)).toNat).aN,vB ((J O.ai (wi (((O.ai.length:Nat):Int)-1)).toNat).aN==9)]<|oC (bN c3) (vB ((J O.ai (wi (((O.ai.length:Nat):Int)-1)).toNat).aN==9))<|ko [vB ((J O.ai (wi (((O.ai.length:Nat):Int)-1)).toNat).aN==9)]<|bW<|?_;cases H;exact gj (h.se 1 [])
def jq(K:Nat)(O:aB):Nat->Int->Option (Bool)
 | 0,_=>none
 | k1+1,g5=>(if g5<((O.ai.length:Nat):Int)then if bI g5 O.ai.length then ei (oh O (J O.ai g5.toNat)) (λr8=>(if r8=true then(jq K O k1 (wi (g5+1)))else some false))else none else ei (nP O) (λu0=>some u0))
def th(K:Nat)(O:aB):Option (Bool):=
 ei (kF O) (λr2=>(if r2=true then(jq K O K 0)else some false))
theorem Cm(H:th K O=some r0)(h:iQ z (L) w)(cO:bJ L 5 cY bB O.ai) :
 nK 111 #[oH #[Z O.aS,Z O.dw,Z O.bM,be bB O.ai.length bY]] w z (vB r0) (L):=by
 unfold th at H;refine ke func111 26 rfl λj=>ks<|kN h (#[Z O.aS,Z O.dw,Z O.bM,be bB O.ai.length bY]) 99 λb1 w h=>bR<|G<|wq<|ks<|kM h<|gf H λr2 e3 H=>fh (vU (bB:=bB) (bY:=bY) (cO:=(bJ.up 1 cO)) e3 h :) λw h=>ko [vB (!r2)]<|G<|FD H (λc4 H=>?_) λc4 H=>?_
 ·refine gq<|wq<|ig<|wb<|λ_ r=>dz (β:=Nat) id (λm a w=>∃g5:Int,(jq K O m g5)=some r0/\∃j,kX 26 (lk [(1,pA b1 0),(3,Z g5)] j) a/\Fit z (aC (rW b1 O bB bY::L)) w) K ⟨0,H,r.fj h⟩<|?_;clear h r H;rintro k1 a w ⟨g5,H,j,r,h⟩;cases k1 with
  | zero=>exact absurd H (by simp[jq])
  | succ k1 =>
   rw[jq]at H;refine qq r<|wq<|aL dk<|kL h 3<|ko [Z ((O.ai.length:Nat):Int),dH (g5<((O.ai.length:Nat):Int))]<|G<|dW H (λc6 H=>?_) λc6 H=>?_
   ·refine gq<|wq<|wb<|wq<|qg H λc7 H=>gf H λr8 e9 H=>mP [(b1,0,[Z O.aS,Z O.dw,Z O.bM,be bB O.ai.length bY]),(b1,3,[be bB O.ai.length bY]),(dQ bB,jl bB+g5.toNat*5,gI (J O.ai g5.toNat))] [1,4] 8 h (λh=>⟨(h.held 0 rfl),⟨h.cell 3 rfl,bP⟩,⟨cO.cell c7 (h.dn 1) 0 rfl,cO.cell c7 (h.dn 1) 1 rfl,cO.cell c7 (h.dn 1) 2 rfl,cO.cell c7 (h.dn 1) 3 rfl,cO.cell c7 (h.dn 1) 4 rfl,bP⟩,bP⟩) λw h hd =>mz hd 6 [(1,16,pA b1 3),(3,18,Z g5)]<|xP hd 0 5 0 rfl rfl<|eY hd 1 4 2 rfl<|ny hd 3 4 rfl (pA (dQ bB) (jl bB+g5.toNat*5)) (λw=>EK 146 bY rfl rfl cO c7)<|xP hd 2 2 5 rfl rfl<|lJ 6 rfl<|fh (tG (bB:=bB) (bY:=bY) (cO:=(bJ.up 1 cO)) e9 h :) λw h=>G<|mA<|iM 0 7 rfl (vB r8)<|mT<|tn<|aL [U,vB (!r8)]<|G<|FD H (λoO H=>?_) λoO H=>?_
    ·refine wk<|bn<|tn<|wl<|ko [U,Z (wi (g5+1)),Z (wi (g5+1))]<|G<|?_;exact λ_ r=>⟨_,⟨(wi (g5+1)),H,r.fj h⟩,iI _⟩
    refine ig<|wr<|br<|tr<|tr<|br<|tr<|?_;cases H;exact gj (h.se 1 [])
   refine wx<|te<|te<|bh<|tn<|ks<|kM h<|gf H λu0 EM H=>fh (xC (bB:=bB) (bY:=bY) (cO:=(bJ.up 1 cO)) EM h :) λw h=>bR<|bW<|?_;cases H;exact gj (h.se 1 [])
 refine ig<|wr<|tr<|?_;cases H;exact gj (h.se 1 [])
def qB(O:ct)(Y:Int)(p2:Int):Option (Int):=
 (if O.aN=5 then(if O.A=Y then some 2 else(if O.aN=6 then(if p2=2 then some 4 else some p2)else some p2))else(if O.aN=6 then(if p2=2 then some 4 else some p2)else some p2))
theorem Cn(H:qB O Y p2=some r0)(h:iQ z (L) w) :
 nK 166 #[gZ O,Z Y,Z p2] w z (Z r0) (L):=by
 unfold qB at H;refine ke func166 24 rfl λj=>ks<|kN h (lW O) 146 λb1 w h=>bR<|G<|wq<|aL [U]<|kL h 0<|ko [vB (O.aN==5),vB (O.aN==5)]<|qI H (λc2 H=>?_) λc2 H=>?_
 ·refine dg (beq_iff_eq.mpr c2) [11] [pA b1 1]<|λ_ r=>ld (mB r (beq_iff_eq.mpr c2)) r (Z O.A) (h.cell 1 rfl)<|?_;refine dg (beq_iff_eq.mpr c2) [13,14] [Z Y,vB (O.A==Y)]<|oN (beq_iff_eq.mpr c2) (vB (O.A==Y))<|G<|dW H (λc3 H=>?_) λc3 H=>?_
  ·refine ig<|wr<|tr<|?_;cases H;exact gj (h.se 1 [])
  refine gq<|wq<|aL [U]<|kL h 0<|ko [vB (O.aN==6),vB (O.aN==6)]<|qI H (λc4 H=>?_) λc4 H=>?_
  ·refine dg (beq_iff_eq.mpr c4) [20,21] [Z p2,vB (p2==2)]<|oN (beq_iff_eq.mpr c4) (vB (p2==2))<|G<|dW H (λc5 H=>?_) λc5 H=>?_
   ·refine ig<|wr<|tr<|?_;cases H;exact gj (h.se 1 [])
   refine gq<|aL dk<|bW<|?_;cases H;exact gj (h.se 1 [])
  refine cx (bN c4) [20,21]<|oC (bN c4) (vB false)<|G<|λ_ r=>jy r (b:=false) rfl<|qq r<|gq<|aL dk<|bW<|?_;cases H;exact gj (h.se 1 [])
 refine cx (bN c2) [11,12,13,14]<|oC (bN c2) (vB false)<|G<|λ_ r=>jy r (b:=false) rfl<|qq r<|gq<|wq<|aL [U]<|kL h 0<|ko [vB (O.aN==6),vB (O.aN==6)]<|qI H (λc6 H=>?_) λc6 H=>?_
 ·refine dg (beq_iff_eq.mpr c6) [20,21] [Z p2,vB (p2==2)]<|oN (beq_iff_eq.mpr c6) (vB (p2==2))<|G<|dW H (λc7 H=>?_) λc7 H=>?_
  ·refine ig<|wr<|tr<|?_;cases H;exact gj (h.se 1 [])
  refine gq<|aL dk<|bW<|?_;cases H;exact gj (h.se 1 [])
 refine cx (bN c6) [20,21]<|oC (bN c6) (vB false)<|G<|λ_ r=>jy r (b:=false) rfl<|qq r<|gq<|aL dk<|bW<|?_;cases H;exact gj (h.se 1 [])
def qD(O:aB)(Y:Int):Option ((List Int)):=
 if bI Y O.ai.length then(if(J O.ai Y.toNat).aN=3 then some ([(J O.ai Y.toNat).A])else(if(J O.ai Y.toNat).aN=9 then some ([]:List Int)else(if(J O.ai Y.toNat).aN=4 then some ([wi (Y+1),(J O.ai Y.toNat).B])else some ([wi (Y+1)]))))else none
abbrev C1:Array Value:=#[Z 0,Z 0,Z 0,Z 0,Z 0]
theorem Co(H:qD O Y=some r0)(h:iQ z (L) w)(cO:bJ L 5 cY bB O.ai) :
 Calls Tryz.prog 167 #[oH #[Z O.aS,Z O.dw,Z O.bM,be bB O.ai.length bY],Z Y] w λe w=>∃y1 y2,e=.returned (be y1 r0.length y2)/\Fit z (aC (y9 y1 y2 r0::L)) w:=by
 unfold qD at H;refine ke func167 30 rfl λj=>ks<|kN h (#[Z O.aS,Z O.dw,Z O.bM,be bB O.ai.length bY]) 99 λb1 w h=>bR<|G<|aL [U]<|kL h 3<|qg H λc2 H=>bR<|kj 146 bY cO c2<|yb (gZ (J O.ai Y.toNat)) (cs:=gI (J O.ai Y.toNat)) ⟨cO.cell c2 (h.dn 1) 0 rfl,cO.cell c2 (h.dn 1) 1 rfl,cO.cell c2 (h.dn 1) 2 rfl,cO.cell c2 (h.dn 1) 3 rfl,cO.cell c2 (h.dn 1) 4 rfl,bP⟩<|?_;refine kN h (C1) 146 λb3 w h=>kA h (vS b3 (J O.ai Y.toNat)) λw h=>G<|wq<|aL [U]<|kL h 0<|G<|wb<|aL [vB ((J O.ai Y.toNat).aN==3),vB ((J O.ai Y.toNat).aN==3)]<|G<|dW H (λc4 H=>?_) λc4 H=>?_
 ·refine aL [U]<|kL h 1<|kV h (#[Z (J O.ai Y.toNat).A]) 3 λb5 w h=>?_;replace h:=Fit.CR (n:=1) (l:=[(J O.ai Y.toNat).A]) (by rfl) (by rfl) aG eC h;refine bR<|bW<|br<|tr<|λ_ r=>tA (be (some ⟨b5,0,none⟩) 1 1) rfl r<|?_;have hn5:1=([(J O.ai Y.toNat).A]).length:=h.rA;replace h:=Fit.Ia hn5 (λq_=>rowOf 3 1 aH (be (some ⟨b5,0,none⟩) q_ 1) ([(J O.ai Y.toNat).A])) h;cases H;exact⟨(some ⟨b5,0,none⟩),1,(by first | rfl | simp only[hn5]),h.se 3 [0]⟩
 refine aL [vB ((J O.ai Y.toNat).aN==9),vB ((J O.ai Y.toNat).aN==9)]<|G<|dW H (λc7 H=>?_) λc7 H=>?_
 ·refine ig<|wr<|br<|tr<|λ_ r=>tA (be none 0 0) rfl r<|?_;replace h:=h.fM (e:=3) (sz:=1) (enc:=aH);cases H;exact⟨none,0,rfl,h.se 3 [0]⟩
 refine aL [vB ((J O.ai Y.toNat).aN==4),vB ((J O.ai Y.toNat).aN==4)]<|G<|dW H (λc8 H=>?_) λc8 H=>?_
 ·refine aL [U,Z (wi (Y+1)),U]<|kL h 2<|λ_ r=>ZQ (wn rfl) r h (λb=>be (some ⟨b,0,none⟩) 2 2) (#[Z (wi (Y+1)),Z (J O.ai Y.toNat).B]) 3 λb9 w _ h r=>qq r<|?_;replace h:=Fit.CR (n:=2) (l:=[wi (Y+1),(J O.ai Y.toNat).B]) (by rfl) (by rfl) aG eC h;refine bR<|bW<|br<|tr<|λ_ r=>tA (be (some ⟨b9,0,none⟩) 2 2) rfl r<|?_;have hn9:2=([wi (Y+1),(J O.ai Y.toNat).B]).length:=h.rA;replace h:=Fit.Ia hn9 (λq_=>rowOf 3 1 aH (be (some ⟨b9,0,none⟩) q_ 2) ([wi (Y+1),(J O.ai Y.toNat).B])) h;cases H;exact⟨(some ⟨b9,0,none⟩),2,(by first | rfl | simp only[hn9]),h.se 3 [0]⟩
 refine wk<|bn<|tn<|aL [U,Z (wi (Y+1))]<|kV h (#[Z (wi (Y+1))]) 3 λOS w h=>?_;replace h:=Fit.CR (n:=1) (l:=[wi (Y+1)]) (by rfl) (by rfl) aG eC h;refine bR<|bW<|λ_ r=>tA (be (some ⟨OS,0,none⟩) 1 1) rfl r<|?_;have acn:1=([wi (Y+1)]).length:=h.rA;replace h:=Fit.Ia acn (λq_=>rowOf 3 1 aH (be (some ⟨OS,0,none⟩) q_ 1) ([wi (Y+1)])) h;cases H;exact⟨(some ⟨OS,0,none⟩),1,(by first | rfl | simp only[acn]),h.se 3 [0]⟩
def gX(K:Nat)(tL:Int)(vw:List Int):Nat->(List Int)->(List Int)->(List Int)->Int->Option ((List Int)×(List Int)×(List Int))
 | 0,_,_,_,_=>none
 | k2+1,Jm,Qu,Qv,tj=>(if tj<((vw.length:Nat):Int)then if bI tj vw.length then if bI (J vw tj.toNat) Jm.length then(if(iB (J Jm (J vw tj.toNat).toNat) tL)=0 then if(Qu.length+1)*8<=140737488355328 then if(Qv.length+1)*8<=140737488355328 then(gX K tL vw k2 (Jm.set (J vw tj.toNat).toNat (wi ((J Jm (J vw tj.toNat).toNat)+tL))) (Qu++[(J vw tj.toNat)]) (Qv++[tL]) (wi (tj+1)))else none else none else(gX K tL vw k2 Jm Qu Qv (wi (tj+1))))else none else none else some (Jm,Qu,Qv))
def iH(K:Nat)(O:aB)(Y:Int):Nat->(List Int)->(List Int)->(List Int)->Int->Option ((List Int))
 | 0,_,_,_,_=>none
 | k1+1,l9,Ir,Is,wM=>(if wM<((Ir.length:Nat):Int)then qd (if bI wM Ir.length then if bI (J Ir wM.toNat) O.ai.length then if bI wM Is.length then ei (qB (J O.ai (J Ir wM.toNat).toNat) Y (J Is wM.toNat)) (λtL=>ei (qD O (J Ir wM.toNat)) (λvw=>(gX K tL vw K l9 Ir Is 0)))else none else none else none) (λYU Z2 Qw=>(iH K O Y k1 YU Z2 Qw (wi (wM+1))))else some l9)
def ng(K:Nat)(O:aB)(Y:Int):Option ((List Int)):=
 if 0<=((O.ai.length:Nat):Int)/\((O.ai.length:Nat):Int)*8<=140737488355328 then if bI (0:Int) (List.replicate O.ai.length (0:Int)).length then(iH K O Y K ((List.replicate O.ai.length (0:Int)).set 0 1) ([0]) ([1]) 0)else none else none
theorem yR(H:ng K O Y=some r0)(h:iQ z (L) w)(cO:bJ L 5 cY bB O.ai) :
 Calls Tryz.prog 112 #[oH #[Z O.aS,Z O.dw,Z O.bM,be bB O.ai.length bY],Z Y] w λe w=>∃y1 y2,e=.returned (be y1 r0.length y2)/\Fit z (aC (y9 y1 y2 r0::L)) w:=by
 unfold ng at H;refine ke func112 91 rfl λj=>ks<|kN h (#[Z O.aS,Z O.dw,Z O.bM,be bB O.ai.length bY]) 99 λb1 w h=>bR<|G<|aL [U]<|kL h 3<|qg H λc2 H=>ko [Z ((O.ai.length:Nat):Int)]<|λ_ r=>tE (i:=((O.ai.length:Nat):Int)) (bytes:=8) (zc:=#[Z 0]) (0:Int) (wn rfl) rfl rfl r rfl aZ aZ c2 aG (E:=3) aZ aZ rfl rfl h λjG w _ h r=>qq r<|bR<|G<|ks<|kV h (#[Z 0]) 3 λb4 w h=>?_;replace h:=Fit.CR (n:=1) (l:=[0]) (by rfl) (by rfl) aG eC h;refine bR<|G<|ks<|kV h (#[Z 1]) 3 λb5 w h=>?_;replace h:=Fit.CR (n:=1) (l:=[1]) (by rfl) (by rfl) aG eC h;refine bR<|G<|ks<|qg H λc6 H=>bR<|kp (pA (dQ jG) (0*1)) (AH (i:=(0:Int)) (k:=.i64) (E:=3) rfl aZ aZ aZ aZ (h.pick 2) c6)<|qh h.m2 λh=>λ_ r=>KX (wn rfl) r aG h 0 0 (Z 1) (J (List.replicate O.ai.length (0:Int)) 0) 1 (bl c6) λw h=>qq r<|G<|wq<|ig<|wb<|?_;have aco:(List.replicate O.ai.length (0:Int)).length=((List.replicate O.ai.length (0:Int)).set 0 1).length:=h.rA;replace h:=Fit.Ia aco (λq_=>rowOf 3 1 aH (be jG q_ O.ai.length) ((List.replicate O.ai.length (0:Int)).set 0 1)) h;intro _ r;replace r:=r.re 5 (nV (λq_=>Value.slice jG q_ O.ai.length) aco);refine qh h.m2 λh=>?_;have acp:1=([0]).length:=h.rA;replace h:=Fit.Ia acp (λq_=>rowOf 3 1 aH (be (some ⟨b4,0,none⟩) q_ 1) ([0])) h;replace r:=r.re 6 (nV (λq_=>Value.slice (some ⟨b4,0,none⟩) q_ 1) acp);refine qh h.m2 λh=>?_;have acq:1=([1]).length:=h.rA;replace h:=Fit.Ia acq (λq_=>rowOf 3 1 aH (be (some ⟨b5,0,none⟩) q_ 1) ([1])) h;replace r:=r.re 7 (nV (λq_=>Value.slice (some ⟨b5,0,none⟩) q_ 1) acq);refine dz (β:=Nat) id (λm a w=>∃lK:fP,∃mo:Nat,∃Jx:fP,∃RU:Nat,∃tQ:fP,∃uw:Nat,∃l9:List Int,∃Ir:List Int,∃Is:List Int,∃wM:Int,(iH K O Y m l9 Ir Is wM)=some r0/\∃j,kX 91 (lk [(1,Z Y),(2,pA b1 0),(5,be lK l9.length mo),(6,be Jx Ir.length RU),(7,be tQ Is.length uw),(8,Z wM)] j) a/\Fit z (aC (rW b1 O bB bY::y9 lK mo l9::y9 Jx RU Ir::y9 tQ uw Is::L)) w) K ⟨jG,O.ai.length,(some ⟨b4,0,none⟩),1,(some ⟨b5,0,none⟩),1,((List.replicate O.ai.length (0:Int)).set 0 1),[0],[1],0,H,r.fj (h.se 4 [3,2,1,0])⟩<|?_;clear h r H;rintro k1 a w ⟨lK,mo,Jx,RU,tQ,uw,l9,Ir,Is,wM,H,j,r,h⟩;cases k1 with
 | zero=>exact absurd H (by simp[iH])
 | succ k1 =>
  rw[iH]at H;refine qq r<|wq<|aL [U,U,Z ((Ir.length:Nat):Int),dH (wM<((Ir.length:Nat):Int))]<|G<|dW H (λmW H=>?_) λmW H=>?_
  ·refine gq<|qd3 H λo29 H Z3=>λ_ r=>dh (β:=Unit) (λ_ a w=>∃Nd:fP,∃Nf:Nat,∃Ad:fP,∃C2:Nat,∃YU:List Int,∃Z2:List Int,∃Qw:List Int,(YU,Z2,Qw)=o29/\∃j,kX 91 (lk [(1,Z Y),(2,pA b1 0),(5,be lK l9.length mo),(6,be Nd Z2.length Nf),(7,be Ad Qw.length C2),(8,Z wM)] j) a/\Fit z (aC (rW b1 O bB bY::rowOf 3 1 aH (be lK l9.length mo) YU::y9 Nd Nf Z2::y9 Ad C2 Qw::L)) w) ?_ ?_
   ·refine qq r<|wb<|wq<|qg H λu3 H=>qg H λxD H=>mP [(b1,3,[be bB O.ai.length bY]),(dQ Jx,wM.toNat*1,[Z (J Ir wM.toNat)]),(dQ bB,jl bB+(J Ir wM.toNat).toNat*5,gI (J O.ai (J Ir wM.toNat).toNat))] [0,4,6] 10 h (λh=>⟨⟨h.cell 3 rfl,bP⟩,⟨(h.pick 2).cG aG (f:=0) (bl u3) rfl,bP⟩,⟨cO.cell xD (h.dn 4) 0 rfl,cO.cell xD (h.dn 4) 1 rfl,cO.cell xD (h.dn 4) 2 rfl,cO.cell xD (h.dn 4) 3 rfl,cO.cell xD (h.dn 4) 4 rfl,bP⟩,bP⟩) λw h hd =>mz hd 7 [(0,27,pA b1 3),(2,29,be Jx Ir.length RU),(3,30,Z wM)]<|ny hd 6 4 rfl (mV Jx wM 1) (λw=>ud 3 rfl (h.pick 2) u3)<|eY hd 0 5 1 rfl<|eY hd 1 4 5 rfl<|ny hd 3 6 rfl (pA (dQ bB) (jl bB+(J Ir wM.toNat).toNat*5)) (λw=>EK 146 bY rfl rfl cO xD)<|xP hd 2 2 7 rfl rfl<|lJ 8 rfl<|kN h (C1) 146 λb32 w h=>G<|λ_ r=>xE<|lD 9 rfl<|qq r<|kA h (vS b32 (J O.ai (J Ir wM.toNat).toNat)) λw h=>G<|mA<|mT<|tn<|wq<|qg H λCl H=>gf H λtL Lb H=>mP [(b32,0,gI (J O.ai (J Ir wM.toNat).toNat)),(dQ tQ,wM.toNat*1,[Z (J Is wM.toNat)])] [4] 8 h (λh=>⟨(h.held 0 rfl),⟨(h.pick 4).cG aG (f:=0) (bl Cl) rfl,bP⟩,bP⟩) λw h hd =>mz hd 5 [(1,36,Z Y),(2,37,be tQ Is.length uw),(3,38,Z wM)]<|ny hd 4 4 rfl (mV tQ wM 1) (λw=>ud 3 rfl (h.pick 4) Cl)<|xP hd 0 3 0 rfl rfl<|eY hd 1 2 5 rfl<|lJ 6 rfl<|fh (Cn Lb h :) λw h=>G<|mA<|iM 0 7 rfl (Z tL)<|mT<|tn<|wq<|gf H λvw RV H=>mP [(b1,0,[Z O.aS,Z O.dw,Z O.bM,be bB O.ai.length bY]),(dQ Jx,wM.toNat*1,[Z (J Ir wM.toNat)])] [3] 7 h (λh=>⟨((h.pick 1).held 0 rfl),⟨(h.pick 3).cG aG (f:=0) (bl u3) rfl,bP⟩,bP⟩) λw h hd =>mz hd 5 [(1,43,be Jx Ir.length RU),(2,44,Z wM)]<|ny hd 4 3 rfl (mV Jx wM 1) (λw=>ud 3 rfl (h.pick 3) u3)<|xP hd 0 3 0 rfl rfl<|eY hd 1 2 4 rfl<|lJ 5 rfl<|Up (Co (bB:=bB) (bY:=bY) (cO:=(bJ.up 5 cO)) RV h :) λHw FJ w h=>G<|mA<|iM 0 6 rfl (be Hw vw.length FJ)<|mT<|tn<|ig<|wb<|λ_ r=>dz (β:=Nat) id (λm a w=>∃UD:fP,∃UE:Nat,∃EN:fP,∃EO:Nat,∃Jm:List Int,∃Qu:List Int,∃Qv:List Int,∃tj:Int,(gX K tL vw m Jm Qu Qv tj)=some o29/\∃j,kX 91 (lk [(1,Z Y),(2,pA b1 0),(5,be lK l9.length mo),(6,be UD Qu.length UE),(7,be EN Qv.length EO),(8,Z wM),(10,Z tL),(11,be Hw vw.length FJ),(12,Z tj)] j) a/\Fit z (aC (rW b1 O bB bY::rowOf 3 1 aH (be lK l9.length mo) Jm::y9 UD UE Qu::y9 EN EO Qv::y9 Hw FJ vw::L)) w) K ⟨Jx,RU,tQ,uw,l9,Ir,Is,0,H,r.fj (h.se 6 [2,3,4,5,0])⟩<|?_;clear h r H;rintro k2 a w ⟨UD,UE,EN,EO,Jm,Qu,Qv,tj,H,j,r,h⟩;cases k2 with
    | zero=>exact absurd H (by simp[gX])
    | succ k2 =>
     rw[gX]at H;refine qq r<|wq<|aL [U,U,Z ((vw.length:Nat):Int),dH (tj<((vw.length:Nat):Int))]<|G<|dW H (λXi H=>?_) λXi H=>?_
     ·refine gq<|wq<|wb<|ks<|qg H λJn H=>ko kW<|ki (h.pick 4) Jn<|zu (Z (J vw tj.toNat)) ((h.pick 4).cG aG (f:=0) (bl Jn) rfl)<|?_;refine qg H λTt H=>ki (h.pick 1) Tt<|zu (Z (J Jm (J vw tj.toNat).toNat)) ((h.pick 1).cG aG (f:=0) (bl Tt) rfl)<|?_;refine bR<|kp (Z (iB (J Jm (J vw tj.toNat).toNat) tL)) (rand rfl aZ aZ)<|ko [vB ((iB (J Jm (J vw tj.toNat).toNat) tL)==0)]<|G<|dW H (λc51 H=>?_) λc51 H=>?_
      ·refine wq<|mP [(dQ Hw,tj.toNat*1,[Z (J vw tj.toNat)]),(dQ Hw,tj.toNat*1,[Z (J vw tj.toNat)]),(dQ lK,(J vw tj.toNat).toNat*1,[Z (J Jm (J vw tj.toNat).toNat)])] [3,8,10,13] 16 h (λh=>⟨⟨(h.pick 4).cG aG (f:=0) (bl Jn) rfl,bP⟩,⟨(h.pick 4).cG aG (f:=0) (bl Jn) rfl,bP⟩,⟨(h.pick 1).cG aG (f:=0) (bl Tt) rfl,bP⟩,bP⟩) λw h hd =>mz hd 13 [(0,64,be lK l9.length mo),(1,65,be Hw vw.length FJ),(2,66,Z tj)]<|ny hd 12 3 rfl (mV Hw tj 1) (λw=>ud 3 rfl (h.pick 4) Jn)<|mz hd 9 [(5,69,be lK l9.length mo),(6,70,be Hw vw.length FJ),(7,71,Z tj)]<|ny hd 8 8 rfl (mV Hw tj 1) (λw=>ud 3 rfl (h.pick 4) Jn)<|mz hd 7 [(12,76,Z tL)]<|eY hd 0 6 4 rfl<|eY hd 1 5 9 rfl<|ny hd 4 10 rfl (pA (dQ lK) ((J vw tj.toNat).toNat*1)) (λw=>ud 3 rfl (h.pick 1) Tt)<|eY hd 2 3 11 rfl<|mz hd 2 [(13,77,Z (wi ((J Jm (J vw tj.toNat).toNat)+tL)))]<|ny hd 1 14 rfl (pA (dQ lK) ((J vw tj.toNat).toNat*1)) (λw=>ud 3 rfl (h.pick 1) Tt)<|λ_ r=>lD 15 rfl<|qh h.m1 λh=>KX (wn rfl) r aG h (J vw tj.toNat).toNat 0 (Z (wi ((J Jm (J vw tj.toNat).toNat)+tL))) (J Jm (J vw tj.toNat).toNat) (wi ((J Jm (J vw tj.toNat).toNat)+tL)) (bl Tt) λw h=>qq r<|G<|mA<|mT<|tn<|aL kW<|ki (h.pick 4) Jn<|zu (Z (J vw tj.toNat)) ((h.pick 4).cG aG (f:=0) (bl Jn) rfl)<|?_;refine kV h (#[Z (J vw tj.toNat)]) 3 λb52 w h=>qh h.m3 λh=>qg H λc55 H=>λ_ r=>j8 (n0:=Qu.length) (c:=1) (bytes:=8) (wn rfl) rfl rfl r rfl aZ aZ aG (E:=3) (xs:=Qu) aZ aZ h (news:=[(J vw tj.toNat)]) (m:=1) rfl ((h.pick 1).news rfl) c55 rfl λaeG aeH w _ h r=>qq r<|bR<|G<|wl<|ko dk<|kV h (#[Z tL]) 3 λb56 w h=>qh h.m5 λh=>qg H λZ4 H=>λ_ r=>j8 (n0:=Qv.length) (c:=1) (bytes:=8) (wn rfl) rfl rfl r rfl aZ aZ aG (E:=3) (xs:=Qv) aZ aZ h (news:=[tL]) (m:=1) rfl ((h.pick 1).news rfl) Z4 rfl λJy Jz w _ h r=>qq r<|bR<|kl<|bn<|tn<|wl<|ko [U,Z (wi (tj+1)),Z (wi (tj+1))]<|G<|?_;exact λ_ r=>⟨_,⟨aeG,aeH,Jy,Jz,(Jm.set (J vw tj.toNat).toNat (wi ((J Jm (J vw tj.toNat).toNat)+tL))),(Qu++[(J vw tj.toNat)]),(Qv++[tL]),(wi (tj+1)),H,r.fj (h.se 7 [5,4,2,0,6])⟩,iI _⟩
      refine wk<|bn<|tn<|wl<|ko [U,Z (wi (tj+1)),Z (wi (tj+1))]<|G<|?_;exact λ_ r=>⟨_,⟨UD,UE,EN,EO,Jm,Qu,Qv,(wi (tj+1)),H,r.fj h⟩,iI _⟩
     refine wx<|te<|te<|bh<|bn<|tn<|?_;exact λ_ r=>⟨(),UD,UE,EN,EO,Jm,Qu,Qv,gE H,r.fj (h.se 5 [0,1,2,3])⟩
   clear h r;rintro _ a w ⟨Nd,Nf,Ad,C2,YU,Z2,Qw,rfl,j,r,h⟩;replace H:=kk3 Z3;refine qq r<|wl<|ko [U,Z (wi (wM+1)),Z (wi (wM+1))]<|G<|qh h.m1 λh=>?_;have acr:l9.length=YU.length:=h.rA;replace h:=Fit.Ia acr (λq_=>rowOf 3 1 aH (be lK q_ mo) YU) h;intro _ r;replace r:=r.re 5 (nV (λq_=>Value.slice lK q_ mo) acr);exact⟨_,⟨lK,mo,Nd,Nf,Ad,C2,YU,Z2,Qw,(wi (wM+1)),H,r.fj (h.se 4 [1,0,2,3])⟩,iI _⟩
  refine wx<|te<|te<|bh<|tn<|aL dk<|bW<|?_;cases H;exact xy2 lK mo (h.se 4 [1])
def lE(K:Nat)(O:aB):Nat->(List (List Int))->Int->Option ((List (List Int)))
 | 0,_,_=>none
 | k1+1,Hx,tu=>(if tu<(((List.replicate O.ai.length ([]:List Int)).length:Nat):Int)then if 0<=O.bM/\O.bM*8<=140737488355328 then if bI tu Hx.length then(lE K O k1 (Hx.set tu.toNat (List.replicate O.bM.toNat (0:Int))) (wi (tu+1)))else none else none else some Hx)
def lF(K:Nat)(O:aB)(mU:Int)(D6:List Int):Nat->(List (List Int))->Int->Option ((List (List Int)))
 | 0,_,_=>none
 | k3+1,GR,C3=>(if C3<(((List.replicate O.ai.length ([]:List Int)).length:Nat):Int)then if bI C3 GR.length then if bI C3 D6.length then if bI mU (J GR C3.toNat).length then(lF K O mU D6 k3 (GR.set C3.toNat ((J GR C3.toNat).set mU.toNat (J D6 C3.toNat))) (wi (C3+1)))else none else none else none else some GR)
def lG(K:Nat)(O:aB):Nat->(List (List Int))->Int->Option ((List (List Int)))
 | 0,_,_=>none
 | k2+1,zP,mU=>(if mU<O.bM then ei (ei (ng K O mU) (λD6=>(lF K O mU D6 K zP 0))) (λNg=>(lG K O k2 Ng (wi (mU+1))))else some zP)
def rG(K:Nat)(O:aB):Option ((List (List Int))):=
 ei (th K O) (λr2=>(if r2=true then if 0<=((O.ai.length:Nat):Int)/\((O.ai.length:Nat):Int)*24<=140737488355328 then ei ((lE K O K (List.replicate O.ai.length ([]:List Int)) 0)) (λl7=>(lG K O K l7 0))else none else some ([]:List (List Int))))
theorem C4(H:rG K O=some r0)(h:iQ z (L) w)(cO:bJ L 5 cY bB O.ai) :
 Calls Tryz.prog 72 #[oH #[Z O.aS,Z O.dw,Z O.bM,be bB O.ai.length bY]] w λe w=>∃y1 y2,e=.returned (be y1 r0.length y2)/\Fit z (aC (K5 y1 y2 r0::L)) w:=by
 unfold rG at H;refine ke func72 55 rfl λj=>ks<|kN h (#[Z O.aS,Z O.dw,Z O.bM,be bB O.ai.length bY]) 99 λb1 w h=>bR<|G<|ks<|kM h<|gf H λr2 e3 H=>fh (Cm (bB:=bB) (bY:=bY) (cO:=(bJ.up 1 cO)) e3 h :) λw h=>bR<|G<|wq<|aL [U,vB (!r2)]<|G<|FD H (λc4 H=>?_) λc4 H=>?_
 ·refine gq<|aL [U]<|kL h 3<|qg H λc5 H=>ko [Z ((O.ai.length:Nat):Int)]<|λ_ r=>ED (own:=j1) (i:=((O.ai.length:Nat):Int)) (bytes:=24) (zc:=#[be none 0 0]) ([]:List Int) (wn rfl) rfl rfl r rfl aZ aZ c5 rfl (by simp[Value.oneCell']) eC (E:=28) aZ aZ rfl (λh=>iY (x:=([]:List Int)) (uO:=none) (uP:=0) (h.fM)) h λFp w _ h r=>qq r<|bR<|G<|El H λo9 H Nc=>λ_ r=>dh (β:=Unit) (λ_ a w=>∃l7:List (List Int),l7=o9/\∃j,kX 55 (lk [(1,pA b1 0),(4,be Fp (List.replicate O.ai.length ([]:List Int)).length O.ai.length)] j) a/\Fit z (aC (rW b1 O bB bY::tP 28 1 j1 (be Fp (List.replicate O.ai.length ([]:List Int)).length O.ai.length) l7::L)) w) ?_ ?_
  ·refine qq r<|ig<|wb<|λ_ r=>dz (β:=Nat) id (λm a w=>∃Hx:List (List Int),∃tu:Int,(lE K O m Hx tu)=some o9/\∃j,kX 55 (lk [(1,pA b1 0),(4,be Fp (List.replicate O.ai.length ([]:List Int)).length O.ai.length),(5,Z tu)] j) a/\Fit z (aC (rW b1 O bB bY::tP 28 1 j1 (be Fp (List.replicate O.ai.length ([]:List Int)).length O.ai.length) Hx::L)) w) K ⟨(List.replicate O.ai.length ([]:List Int)),0,H,r.fj (h.se 2 [1,0])⟩<|?_;clear h r H;rintro k1 a w ⟨Hx,tu,H,j,r,h⟩;cases k1 with
   | zero=>exact absurd H (by simp[lE])
   | succ k1 =>
    rw[lE]at H;refine qq r<|wq<|aL [U,U,Z (((List.replicate O.ai.length ([]:List Int)).length:Nat):Int),dH (tu<(((List.replicate O.ai.length ([]:List Int)).length:Nat):Int))]<|G<|dW H (λD5 H=>?_) λD5 H=>?_
    ·refine gq<|wq<|wb<|wl<|ko kW<|kL h 2<|qg H λxQ H=>λ_ r=>tE (i:=O.bM) (bytes:=8) (zc:=#[Z 0]) (0:Int) (wn rfl) rfl rfl r rfl aZ aZ xQ aG (E:=3) aZ aZ rfl rfl h λRW w _ h r=>qq r<|qg H λpJ H=>kp (mV Fp tu 1) (Hs (k:=.i64) (E:=28) rfl aZ aZ aZ aZ (h.pick 2) pJ)<|?_;obtain⟨agw,h⟩:=h.m2.nq (bl pJ);obtain⟨agx,agy,D7,h⟩:=n9 (h.m1);subst D7;refine qh h.m1 λh=>λ_ r=>DD (wn rfl) rfl r rfl aZ aZ (v:=be RW (List.replicate O.bM.toNat (0:Int)).length O.bM.toNat) rfl rfl aZ aZ h (i:=tu.toNat) (f:=0) eC λw h=>qq r<|kl<|bn<|tn<|wl<|ko [U,Z (wi (tu+1)),Z (wi (tu+1))]<|G<|qh h.m2 λh=>?_;replace h:=iY (x:=(List.replicate O.bM.toNat (0:Int))) h;replace h:=(h.m1).z9;exact λ_ r=>⟨_,⟨(Hx.set tu.toNat (List.replicate O.bM.toNat (0:Int))),(wi (tu+1)),H,r.fj (h.se 3 [2,0])⟩,iI _⟩
    refine wx<|te<|te<|bh<|tn<|?_;exact λ_ r=>⟨(),Hx,gE H,r.fj h⟩
  clear h r;rintro _ a w ⟨l7,rfl,j,r,h⟩;replace H:=Ek Nc;refine qq r<|wq<|ig<|wb<|λ_ r=>dz (β:=Nat) id (λm a w=>∃zP:List (List Int),∃mU:Int,(lG K O m zP mU)=some r0/\∃j,kX 55 (lk [(1,pA b1 0),(4,be Fp (List.replicate O.ai.length ([]:List Int)).length O.ai.length),(6,Z mU)] j) a/\Fit z (aC (rW b1 O bB bY::tP 28 1 j1 (be Fp (List.replicate O.ai.length ([]:List Int)).length O.ai.length) zP::L)) w) K ⟨l7,0,H,r.fj h⟩<|?_;clear h r H;rintro k2 a w ⟨zP,mU,H,j,r,h⟩;cases k2 with
  | zero=>exact absurd H (by simp[lG])
  | succ k2 =>
   rw[lG]at H;refine qq r<|wq<|aL dk<|kL h 2<|ko [dH (mU<O.bM)]<|G<|dW H (λFG H=>?_) λFG H=>?_
   ·refine gq<|El H λo25 H Z5=>λ_ r=>dh (β:=Unit) (λ_ a w=>∃Ng:List (List Int),Ng=o25/\∃j,kX 55 (lk [(1,pA b1 0),(4,be Fp (List.replicate O.ai.length ([]:List Int)).length O.ai.length),(6,Z mU)] j) a/\Fit z (aC (rW b1 O bB bY::tP 28 1 j1 (be Fp (List.replicate O.ai.length ([]:List Int)).length O.ai.length) Ng::L)) w) ?_ ?_
    ·refine qq r<|wb<|ks<|kM h<|gf H λD6 RX H=>bR<|Up (yR (bB:=bB) (bY:=bY) (cO:=(bJ.up 2 cO)) RX h :) λRY FK w h=>bR<|G<|ig<|wb<|λ_ r=>dz (β:=Nat) id (λm a w=>∃GR:List (List Int),∃C3:Int,(lF K O mU D6 m GR C3)=some o25/\∃j,kX 55 (lk [(1,pA b1 0),(4,be Fp (List.replicate O.ai.length ([]:List Int)).length O.ai.length),(6,Z mU),(7,be RY D6.length FK),(8,Z C3)] j) a/\Fit z (aC (rW b1 O bB bY::tP 28 1 j1 (be Fp (List.replicate O.ai.length ([]:List Int)).length O.ai.length) GR::y9 RY FK D6::L)) w) K ⟨zP,0,H,r.fj (h.se 3 [1,2,0])⟩<|?_;clear h r H;rintro k3 a w ⟨GR,C3,H,j,r,h⟩;cases k3 with
     | zero=>exact absurd H (by simp[lF])
     | succ k3 =>
      rw[lF]at H;refine qq r<|wq<|aL [U,U,Z (((List.replicate O.ai.length ([]:List Int)).length:Nat):Int),dH (C3<(((List.replicate O.ai.length ([]:List Int)).length:Nat):Int))]<|G<|dW H (λFo H=>?_) λFo H=>?_
      ·refine gq<|wq<|wb<|qg H λCl H=>?_;obtain⟨agz,h⟩:=h.m1.nq (bl Cl);obtain⟨Lc,Nh,UC,h⟩:=n9 (h.m1);subst UC;refine qg H λMc H=>qg H λMf H=>mP [(dQ Fp,C3.toNat*1,[be Lc (J GR C3.toNat).length Nh]),(dQ RY,C3.toNat*1,[Z (J D6 C3.toNat)])] [2,7] 11 h (λh=>⟨⟨(h.pick 1).qt eC (f:=0) rfl,bP⟩,⟨(h.pick 3).cG aG (f:=0) (bl Mc) rfl,bP⟩,bP⟩) λw h hd =>mz hd 9 [(0,44,be Fp (List.replicate O.ai.length ([]:List Int)).length O.ai.length),(1,45,Z C3)]<|ny hd 8 2 rfl (mV Fp C3 1) (λw=>xN (k:=.i64) (E:=28) rfl aZ aZ aZ aZ (h.pick 1) Cl)<|mz hd 5 [(4,48,Z mU),(5,49,be RY D6.length FK),(6,50,Z C3)]<|ny hd 4 7 rfl (mV RY C3 1) (λw=>ud 3 rfl (h.pick 3) Mc)<|eY hd 0 3 3 rfl<|eY hd 1 2 8 rfl<|ny hd 1 9 rfl (mV Lc mU 1) (λw=>ud 3 rfl h Mf)<|λ_ r=>lD 10 rfl<|KX (wn rfl) r aG h mU.toNat 0 (Z (J D6 C3.toNat)) (J (J GR C3.toNat) mU.toNat) (J D6 C3.toNat) (bl Mf) λw h=>qq r<|G<|mA<|mT<|bn<|tn<|wl<|ko [U,Z (wi (C3+1)),Z (wi (C3+1))]<|G<|?_;replace h:=h.KY (λq_=>Ce 28 1 j1 (be Fp (List.replicate O.ai.length ([]:List Int)).length O.ai.length) GR C3.toNat [be Lc q_ Nh]);replace h:=iY (x:=((J GR C3.toNat).set mU.toNat (J D6 C3.toNat))) h;replace h:=(h.m1).z9;exact λ_ r=>⟨_,⟨(GR.set C3.toNat ((J GR C3.toNat).set mU.toNat (J D6 C3.toNat))),(wi (C3+1)),H,r.fj (h.se 3 [1,0,2])⟩,iI _⟩
      refine wx<|te<|te<|bh<|bn<|tn<|?_;exact λ_ r=>⟨(),GR,gE H,r.fj (h.se 3 [0,1])⟩
    clear h r;rintro _ a w ⟨Ng,rfl,j,r,h⟩;replace H:=Ek Z5;refine qq r<|wl<|ko [U,Z (wi (mU+1)),Z (wi (mU+1))]<|G<|?_;exact λ_ r=>⟨_,⟨Ng,(wi (mU+1)),H,r.fj h⟩,iI _⟩
   refine wx<|te<|te<|bh<|tn<|aL dk<|bW<|λ_ r=>tA (be Fp (List.replicate O.ai.length ([]:List Int)).length O.ai.length) rfl r<|qh h.m1 λh=>?_;have UF:(List.replicate O.ai.length ([]:List Int)).length=zP.length:=h.OD;replace h:=Fit.Ia UF (λq_=>tP 28 1 j1 (be Fp q_ O.ai.length) zP) h;cases H;exact⟨Fp,O.ai.length,(by first | rfl | simp only[UF]),h.se 2 [0]⟩
 refine ig<|wr<|tr<|λ_ r=>tA (be none 0 0) rfl r<|?_;replace h:=h.EA (e:=28) (sz:=1) (own:=j1);cases H;exact⟨none,0,rfl,h.se 2 [0]⟩
def ic(K:Nat)(Y:List Int):Nat->Int->Option (Int)
 | 0,_=>none
 | k1+1,g9=>(if g9<((Y.length:Nat):Int)then if bI g9 Y.length then(if(iB (J Y g9.toNat) (2:Int))=0 then(ic K Y k1 (wi (g9+1)))else some 56)else none else some 0)
def nL(K:Nat)(O:ct)(Y:List Int):Option (Int):=
 (if O.aN=5 then if bI O.A Y.length then(if(iB (J Y O.A.toNat) (2:Int))=0 then some 0 else some 54)else none else(if O.aN=7 then if bI O.B Y.length then(if(iB (J Y O.B.toNat) (3:Int))=0 then some 0 else some 55)else none else(if O.aN=9 then(ic K Y K 0)else some 0)))
theorem zx(H:nL K O Y=some r0)(h:iQ z (L) w)(FL:bJ L 1 aH Ep Y) :
 nK 73 #[gZ O,be Ep Y.length GC] w z (Z r0) (L):=by
 unfold nL at H;refine ke func73 40 rfl λj=>ks<|kN h (lW O) 146 λb1 w h=>bR<|G<|wq<|aL [U]<|kL h 0<|G<|wb<|aL [vB (O.aN==5),vB (O.aN==5)]<|G<|dW H (λc2 H=>?_) λc2 H=>?_
 ·refine aL dk<|kL h 1<|qg H λc3 H=>kj 3 GC FL c3<|zu (Z (J Y O.A.toNat)) (FL.cell c3 (h.dn 1) 0 rfl)<|?_;refine kp (Z (iB (J Y O.A.toNat) (2:Int))) (rand rfl aZ aZ)<|ko [vB ((iB (J Y O.A.toNat) (2:Int)) != 0)]<|G<|rD H (λc4 H=>?_) λc4 H=>?_
  ·refine wk<|bn<|tn<|ig<|wr<|?_;cases H;exact gj (h.se 1 [])
  refine ig<|wr<|br<|tr<|?_;cases H;exact gj (h.se 1 [])
 refine aL [vB (O.aN==7),vB (O.aN==7)]<|G<|dW H (λc5 H=>?_) λc5 H=>?_
 ·refine aL dk<|kL h 2<|qg H λc6 H=>kj 3 GC FL c6<|zu (Z (J Y O.B.toNat)) (FL.cell c6 (h.dn 1) 0 rfl)<|?_;refine kp (Z (iB (J Y O.B.toNat) (3:Int))) (rand rfl aZ aZ)<|ko [vB ((iB (J Y O.B.toNat) (3:Int)) != 0)]<|G<|rD H (λc7 H=>?_) λc7 H=>?_
  ·refine wk<|bn<|tn<|ig<|wr<|?_;cases H;exact gj (h.se 1 [])
  refine ig<|wr<|br<|tr<|?_;cases H;exact gj (h.se 1 [])
 refine aL [vB (O.aN==9),vB (O.aN==9)]<|G<|dW H (λc8 H=>?_) λc8 H=>?_
 ·refine ig<|wb<|λ_ r=>dz (β:=Nat) id (λm a w=>∃g9:Int,(ic K Y m g9)=some r0/\∃j,kX 40 (lk [(1,be Ep Y.length GC),(5,Z g9)] j) a/\Fit z (aC (L)) w) K ⟨0,H,r.fj (h.se 1 [])⟩<|?_;clear h r H;rintro k1 a w ⟨g9,H,j,r,h⟩;cases k1 with
  | zero=>exact absurd H (by simp[ic])
  | succ k1 =>
   rw[ic]at H;refine qq r<|wq<|aL [U,U,Z ((Y.length:Nat):Int),dH (g9<((Y.length:Nat):Int))]<|G<|dW H (λoO H=>?_) λoO H=>?_
   ·refine gq<|wq<|wb<|ks<|qg H λu6 H=>ko dk<|kj 3 GC FL u6<|zu (Z (J Y g9.toNat)) (FL.cell u6 (h.dn 0) 0 rfl)<|?_;refine kp (Z (iB (J Y g9.toNat) (2:Int))) (rand rfl aZ aZ)<|ko [vB ((iB (J Y g9.toNat) (2:Int)) != 0)]<|G<|rD H (λD5 H=>?_) λD5 H=>?_
    ·refine wk<|bn<|tn<|wl<|ko [U,Z (wi (g9+1)),Z (wi (g9+1))]<|G<|?_;exact λ_ r=>⟨_,⟨(wi (g9+1)),H,r.fj h⟩,iI _⟩
    refine ig<|wr<|br<|tr<|tr<|br<|br<|tr<|?_;cases H;exact gj h
   refine wx<|te<|te<|bh<|bn<|tn<|ig<|wr<|?_;cases H;exact gj h
 refine wk<|bn<|tn<|ig<|wr<|?_;cases H;exact gj (h.se 1 [])
def jr(K:Nat)(O:aE):Nat->Int->Option ((Unit)⊕(fa))
 | 0,_=>none
 | k1+1,g9=>(if g9<((O.ah.length:Nat):Int)then if bI g9 O.ah.length then ei (kF (J O.ah g9.toNat)) (λvx=>(if vx=true then(jr K O k1 (wi (g9+1)))else some (.inr (⟨51,g9,0⟩:fa))))else none else some (.inl ()))
def js(K:Nat)(O:aE)(nI:Int):Nat->Int->Option ((Unit)⊕((Unit)⊕((Unit)⊕(fa))))
 | 0,_=>none
 | k3+1,EP=>(if EP<(((J O.ah nI.toNat).ai.length:Nat):Int)then if bI EP (J O.ah nI.toNat).ai.length then ei (oh (J O.ah nI.toNat) (J (J O.ah nI.toNat).ai EP.toNat)) (λAe=>(if Ae=true then ei (pM O (J O.ah nI.toNat) (J (J O.ah nI.toNat).ai EP.toNat)) (λAN=>(if AN=true then(js K O nI k3 (wi (EP+1)))else some (.inr (.inr (.inr (⟨52,nI,EP⟩:fa))))))else some (.inr (.inr (.inr (⟨52,nI,EP⟩:fa))))))else none else some (.inl ()))
def jt(K:Nat)(O:aE):Nat->Int->Option ((Unit)⊕(fa))
 | 0,_=>none
 | k2+1,nI=>(if nI<((O.ah.length:Nat):Int)then zZ (if bI nI O.ah.length then zZ ((js K O nI K 0)) (ei (nP (J O.ah nI.toNat)) (λtL=>(if tL=true then some (.inl ())else some (.inr (.inr (⟨53,nI,wi ((((J O.ah nI.toNat).ai.length:Nat):Int)-1)⟩:fa))))))else none) ((jt K O k2 (wi (nI+1))))else some (.inl ()))
def ju(K:Nat)(O:aE)(oI:Int)(Ni:List (List Int)):Nat->Int->Option ((Unit)⊕(fa))
 | 0,_=>none
 | k5+1,tj=>(if tj<(((J O.ah oI.toNat).ai.length:Nat):Int)then if bI tj (J O.ah oI.toNat).ai.length then if bI tj Ni.length then ei (nL K (J (J O.ah oI.toNat).ai tj.toNat) (J Ni tj.toNat)) (λNj=>(if Nj=0 then(ju K O oI Ni k5 (wi (tj+1)))else some (.inr (⟨Nj,oI,tj⟩:fa))))else none else none else some (.inl ()))
def kG(K:Nat)(O:aE):Nat->Int->Option (fa)
 | 0,_=>none
 | k4+1,oI=>(if oI<((O.ah.length:Nat):Int)then zZ (if bI oI O.ah.length then ei (rG K (J O.ah oI.toNat)) (λNi=>(ju K O oI Ni K 0))else none) ((kG K O k4 (wi (oI+1))))else some (⟨0,0,0⟩:fa))
def j4(K:Nat)(O:aE):Option (fa):=
 zZ ((if((O.ah.length:Nat):Int)<1 then some (.inr (⟨50,0,0⟩:fa))else(if((O.ah.length:Nat):Int)>32 then some (.inr (⟨50,0,0⟩:fa))else some (.inl ())))) (zZ ((jr K O K 0)) (zZ ((jt K O K 0)) ((kG K O K 0))))
abbrev xR:List Value:=[U,U,U,U]
theorem wN(H:j4 K O=some r0)(h:iQ z (L) w)(aQ:yP L aV aF O.ah) :
 nK 49 #[oH #[be aV O.ah.length bu]] w z (Ci r0) (L):=by
 unfold j4 at H;refine ke func49 131 rfl λj=>ks<|kN h (#[be aV O.ah.length bu]) 24 λb1 w h=>kN h (#[Z 0,Z 0,Z 0]) 95 λb2 w h=>G<|?_;obtain⟨o4,H,OT⟩:=Gz H;refine λ_ r=>dh (β:=Unit) (λ_ a w=>.inl ()=o4/\∃j,kX 131 (lk [(1,pA b1 0),(2,pA b2 0)] j) a/\Fit z (aC (gh b1 #[be aV O.ah.length bu] 24::gh b2 #[Z 0,Z 0,Z 0] 95::L)) w) ?_ ?_
 ·refine qq r<|aL [U]<|kL (h.pick 1) 0<|ko [Z ((O.ah.length:Nat):Int),dH (((O.ah.length:Nat):Int)<1),dH (((O.ah.length:Nat):Int)<1)]<|qI H (λc5 H=>?_) λc5 H=>?_
  ·refine cx (dT c5) [19,20,21,22]<|oN (dT c5) (vB true)<|G<|λ_ r=>gQ r (b:=true) rfl<|qq r<|aL [U]<|kA h (gh b2 #[Z 50,Z 0,Z 0] 95) λw h=>bW<|tr<|kC h<|?_;replace H:=xm H OT;cases H;exact⟨rfl,h.se 2 []⟩
  refine dg (dF c5) [19] [pA b1 0]<|vM (dF c5) (h.pick 1) 0<|dg (dF c5) [21,22] [Z ((O.ah.length:Nat):Int),dH (((O.ah.length:Nat):Int)>32)]<|oC (dF c5) (dH (((O.ah.length:Nat):Int)>32))<|G<|dW H (λc6 H=>?_) λc6 H=>?_
  ·refine aL [U]<|kA h (gh b2 #[Z 50,Z 0,Z 0] 95) λw h=>bW<|tr<|kC h<|?_;replace H:=xm H OT;cases H;exact⟨rfl,h.se 2 []⟩
  refine gq<|?_;exact λ_ r=>⟨(),gE H,r.fj (h.se 2 [1,0])⟩
 clear h r;rintro _ a w ⟨rfl,j,r,h⟩;replace H:=GA OT;obtain⟨o8,H,Ld⟩:=Gz H;refine dh (β:=Unit) (λ_ a w=>.inl ()=o8/\∃j,kX 131 (lk [(1,pA b1 0),(2,pA b2 0)] j) a/\Fit z (aC (gh b1 #[be aV O.ah.length bu] 24::gh b2 #[Z 0,Z 0,Z 0] 95::L)) w) ?_ ?_
 ·refine qq r<|ig<|wb<|λ_ r=>dz (β:=Nat) id (λm a w=>∃g9:Int,(jr K O m g9)=some o8/\∃j,kX 131 (lk [(1,pA b1 0),(2,pA b2 0),(3,Z g9)] j) a/\Fit z (aC (gh b1 #[be aV O.ah.length bu] 24::gh b2 #[Z 0,Z 0,Z 0] 95::L)) w) K ⟨0,H,r.fj h⟩<|?_;clear h r H;rintro k1 a w ⟨g9,H,j,r,h⟩;cases k1 with
  | zero=>exact absurd H (by simp[jr])
  | succ k1 =>
   rw[jr]at H;refine qq r<|wq<|aL dk<|kL h 0<|ko [Z ((O.ah.length:Nat):Int),dH (g9<((O.ah.length:Nat):Int))]<|G<|dW H (λoO H=>?_) λoO H=>?_
   ·refine gq<|wq<|wb<|aL [U]<|kL h 0<|qg H λu6 H=>bR<|kp (pA (dQ aV) (jl aV+g9.toNat*4)) (C0 99 bu rfl rfl aQ u6)<|yb (oH #[Z (J O.ah g9.toNat).aS,Z (J O.ah g9.toNat).dw,Z (J O.ah g9.toNat).bM,be ((aF g9.toNat).1) (J O.ah g9.toNat).ai.length ((aF g9.toNat).2)]) (cs:=[Z (J O.ah g9.toNat).aS,Z (J O.ah g9.toNat).dw,Z (J O.ah g9.toNat).bM,be ((aF g9.toNat).1) (J O.ah g9.toNat).ai.length ((aF g9.toNat).2)]) ⟨aQ.cell u6 (h.dn 2) 0 rfl,aQ.cell u6 (h.dn 2) 1 rfl,aQ.cell u6 (h.dn 2) 2 rfl,aQ.cell u6 (h.dn 2) 3 rfl,bP⟩<|?_;refine gf H λvx UG H=>fh (vU (bB:=((aF g9.toNat).1)) (bY:=((aF g9.toNat).2)) (cO:=(bJ.up 2 (aQ.vp u6))) UG h :) λw h=>bR<|G<|aL [U,vB (!vx)]<|G<|FD H (λxg H=>?_) λxg H=>?_
    ·refine wk<|bn<|tn<|wl<|ko [U,Z (wi (g9+1)),Z (wi (g9+1))]<|G<|?_;exact λ_ r=>⟨_,⟨(wi (g9+1)),H,r.fj h⟩,iI _⟩
    refine aL dk<|qh h.m1 λh=>kA h (gh b2 #[Z 51,Z g9,Z 0] 95) λw h=>bW<|br<|tr<|tr<|br<|tr<|kC h<|?_;replace H:=xm H Ld;cases H;exact⟨rfl,h.se 2 []⟩
   refine wx<|te<|te<|bh<|tn<|?_;exact λ_ r=>⟨(),gE H,r.fj h⟩
 clear h r;rintro _ a w ⟨rfl,j,r,h⟩;replace H:=GA Ld;obtain⟨o16,H,RZ⟩:=Gz H;refine dh (β:=Unit) (λ_ a w=>.inl ()=o16/\∃j,kX 131 (lk [(1,pA b1 0),(2,pA b2 0)] j) a/\Fit z (aC (gh b1 #[be aV O.ah.length bu] 24::gh b2 #[Z 0,Z 0,Z 0] 95::L)) w) ?_ ?_
 ·refine qq r<|ig<|wb<|λ_ r=>dz (β:=Nat) id (λm a w=>∃nI:Int,(jt K O m nI)=some o16/\∃j,kX 131 (lk [(1,pA b1 0),(2,pA b2 0),(5,Z nI)] j) a/\Fit z (aC (gh b1 #[be aV O.ah.length bu] 24::gh b2 #[Z 0,Z 0,Z 0] 95::L)) w) K ⟨0,H,r.fj h⟩<|?_;clear h r H;rintro k2 a w ⟨nI,H,j,r,h⟩;cases k2 with
  | zero=>exact absurd H (by simp[jt])
  | succ k2 =>
   rw[jt]at H;refine qq r<|wq<|aL dk<|kL h 0<|ko [Z ((O.ah.length:Nat):Int),dH (nI<((O.ah.length:Nat):Int))]<|G<|dW H (λAO H=>?_) λAO H=>?_
   ·refine gq<|?_;obtain⟨o20,H,Xj⟩:=Gz H;refine λ_ r=>dh (β:=Unit) (λ_ a w=>.inl ()=o20/\∃j,kX 131 (lk [(1,pA b1 0),(2,pA b2 0),(5,Z nI)] j) a/\Fit z (aC (gh b1 #[be aV O.ah.length bu] 24::gh b2 #[Z 0,Z 0,Z 0] 95::L)) w) ?_ ?_
    ·refine qq r<|wb<|aL [U]<|kL h 0<|qg H λsy H=>bR<|kp (pA (dQ aV) (jl aV+nI.toNat*4)) (C0 99 bu rfl rfl aQ sy)<|yb (oH #[Z (J O.ah nI.toNat).aS,Z (J O.ah nI.toNat).dw,Z (J O.ah nI.toNat).bM,be ((aF nI.toNat).1) (J O.ah nI.toNat).ai.length ((aF nI.toNat).2)]) (cs:=[Z (J O.ah nI.toNat).aS,Z (J O.ah nI.toNat).dw,Z (J O.ah nI.toNat).bM,be ((aF nI.toNat).1) (J O.ah nI.toNat).ai.length ((aF nI.toNat).2)]) ⟨aQ.cell sy (h.dn 2) 0 rfl,aQ.cell sy (h.dn 2) 1 rfl,aQ.cell sy (h.dn 2) 2 rfl,aQ.cell sy (h.dn 2) 3 rfl,bP⟩<|?_;refine kN h (#[Z 0,Z 0,Z 0,be none 0 0]) 99 λzy w h=>kA h (rW zy (J O.ah nI.toNat) ((aF nI.toNat).1) ((aF nI.toNat).2)) λw h=>G<|?_;obtain⟨o24,H,OU⟩:=Gz H;refine λ_ r=>dh (β:=Unit) (λ_ a w=>.inl ()=o24/\∃j,kX 131 (lk [(1,pA b1 0),(2,pA b2 0),(5,Z nI),(6,pA zy 0)] j) a/\Fit z (aC (gh b1 #[be aV O.ah.length bu] 24::gh b2 #[Z 0,Z 0,Z 0] 95::rW zy (J O.ah nI.toNat) ((aF nI.toNat).1) ((aF nI.toNat).2)::L)) w) ?_ ?_
     ·refine qq r<|ig<|wb<|λ_ r=>dz (β:=Nat) id (λm a w=>∃EP:Int,(js K O nI m EP)=some o24/\∃j,kX 131 (lk [(1,pA b1 0),(2,pA b2 0),(5,Z nI),(6,pA zy 0),(7,Z EP)] j) a/\Fit z (aC (gh b1 #[be aV O.ah.length bu] 24::gh b2 #[Z 0,Z 0,Z 0] 95::rW zy (J O.ah nI.toNat) ((aF nI.toNat).1) ((aF nI.toNat).2)::L)) w) K ⟨0,H,r.fj (h.se 3 [1,2,0])⟩<|?_;clear h r H;rintro k3 a w ⟨EP,H,j,r,h⟩;cases k3 with
      | zero=>exact absurd H (by simp[js])
      | succ k3 =>
       rw[js]at H;refine qq r<|wq<|aL dk<|kL (h.pick 2) 3<|ko [Z (((J O.ah nI.toNat).ai.length:Nat):Int),dH (EP<(((J O.ah nI.toNat).ai.length:Nat):Int))]<|G<|dW H (λCV H=>?_) λCV H=>?_
       ·refine gq<|wq<|wb<|wq<|qg H λsP H=>gf H λAe Wt H=>qI H (λu3 H=>?_) λu3 H=>?_
        ·refine gf H λAN OV H=>mP [(zy,0,[Z (J O.ah nI.toNat).aS,Z (J O.ah nI.toNat).dw,Z (J O.ah nI.toNat).bM,be ((aF nI.toNat).1) (J O.ah nI.toNat).ai.length ((aF nI.toNat).2)]),(zy,3,[be ((aF nI.toNat).1) (J O.ah nI.toNat).ai.length ((aF nI.toNat).2)]),(dQ ((aF nI.toNat).1),jl ((aF nI.toNat).1)+EP.toNat*5,gI (J (J O.ah nI.toNat).ai EP.toNat)),(b1,0,[be aV O.ah.length bu]),(zy,0,[Z (J O.ah nI.toNat).aS,Z (J O.ah nI.toNat).dw,Z (J O.ah nI.toNat).bM,be ((aF nI.toNat).1) (J O.ah nI.toNat).ai.length ((aF nI.toNat).2)]),(zy,3,[be ((aF nI.toNat).1) (J O.ah nI.toNat).ai.length ((aF nI.toNat).2)]),(dQ ((aF nI.toNat).1),jl ((aF nI.toNat).1)+EP.toNat*5,gI (J (J O.ah nI.toNat).ai EP.toNat))] [1,4,6,7,11,14] 19 h (λh=>⟨((h.pick 2).held 0 rfl),⟨(h.pick 2).cell 3 rfl,bP⟩,⟨(aQ.vp sy).cell sP (h.dn 3) 0 rfl,(aQ.vp sy).cell sP (h.dn 3) 1 rfl,(aQ.vp sy).cell sP (h.dn 3) 2 rfl,(aQ.vp sy).cell sP (h.dn 3) 3 rfl,(aQ.vp sy).cell sP (h.dn 3) 4 rfl,bP⟩,⟨h.cell 0 rfl,bP⟩,((h.pick 2).held 0 rfl),⟨(h.pick 2).cell 3 rfl,bP⟩,⟨(aQ.vp sy).cell sP (h.dn 3) 0 rfl,(aQ.vp sy).cell sP (h.dn 3) 1 rfl,(aQ.vp sy).cell sP (h.dn 3) 2 rfl,(aQ.vp sy).cell sP (h.dn 3) 3 rfl,(aQ.vp sy).cell sP (h.dn 3) 4 rfl,bP⟩,bP⟩) λw h hd =>mz hd 17 [(1,62,pA zy 3),(3,64,Z EP)]<|xP hd 0 16 0 rfl rfl<|eY hd 1 15 2 rfl<|ny hd 14 4 rfl (pA (dQ ((aF nI.toNat).1)) (jl ((aF nI.toNat).1)+EP.toNat*5)) (λw=>EK 146 ((aF nI.toNat).2) rfl rfl (aQ.vp sy) sP)<|xP hd 2 13 5 rfl rfl<|lJ 6 rfl<|fh (tG (bB:=((aF nI.toNat).1)) (bY:=((aF nI.toNat).2)) (cO:=(bJ.up 3 (aQ.vp sy))) Wt h :) λw h=>G<|vO ⟨((h.pick 2).held 0 rfl),⟨(h.pick 2).cell 3 rfl,bP⟩,⟨(aQ.vp sy).cell sP (h.dn 3) 0 rfl,(aQ.vp sy).cell sP (h.dn 3) 1 rfl,(aQ.vp sy).cell sP (h.dn 3) 2 rfl,(aQ.vp sy).cell sP (h.dn 3) 3 rfl,(aQ.vp sy).cell sP (h.dn 3) 4 rfl,bP⟩,⟨h.cell 0 rfl,bP⟩,((h.pick 2).held 0 rfl),⟨(h.pick 2).cell 3 rfl,bP⟩,⟨(aQ.vp sy).cell sP (h.dn 3) 0 rfl,(aQ.vp sy).cell sP (h.dn 3) 1 rfl,(aQ.vp sy).cell sP (h.dn 3) 2 rfl,(aQ.vp sy).cell sP (h.dn 3) 3 rfl,(aQ.vp sy).cell sP (h.dn 3) 4 rfl,bP⟩,bP⟩ λhd =>lY hd 10 61 [([7,8],vB (!Ae))]<|λ_ r=>CS hd 9 11 rfl (mB r (nT u3)) r (pA zy 3)<|?_;refine λ_ r=>CS hd 8 13 rfl (mB r (nT u3)) r (Z EP)<|?_;refine λ_ r=>elm hd 3 7 9 r (mB r (nT u3)) rfl rfl<|?_;refine λ_ r=>elm hd 4 6 10 r (mB r (nT u3)) rfl rfl<|?_;refine λ_ r=>W1 hd 5 5 12 r (mB r (nT u3)) rfl rfl<|?_;refine λ_ r=>CS hd 4 14 rfl (mB r (nT u3)) r (pA (dQ ((aF nI.toNat).1)) (jl ((aF nI.toNat).1)+EP.toNat*5)) (hrun:=λw=>EK 146 ((aF nI.toNat).2) rfl rfl (aQ.vp sy) sP)<|?_;refine λ_ r=>elm hd 6 3 15 r (mB r (nT u3)) rfl rfl<|?_
         refine lJ 16 rfl<|xg0 (nT u3) (BJ (aV:=aV) (bu:=bu) (aQ:=(xO.up 3 aQ)) (dy:=((aF nI.toNat).1)) (dG:=((aF nI.toNat).2)) (fc:=(bJ.up 3 (aQ.vp sy))) (aF:=aF) OV h :) λw h=>G<|λ_ r=>xE<|evs 1 17 rfl (mB r (nT u3)) r (vB (!AN))<|?_;refine λ_ r=>evs 0 18 rfl (wn rfl) r (vB (!AN)) (hrun:=λw=>GL (b:=(!Ae)) rfl aZ (nT u3) aZ)<|?_;refine mT<|tn<|FD H (λCl H=>?_) λCl H=>?_
         ·refine wk<|bn<|tn<|wl<|ko [U,Z (wi (EP+1)),Z (wi (EP+1))]<|G<|?_;exact λ_ r=>⟨_,⟨(wi (EP+1)),H,r.fj h⟩,iI _⟩
         refine aL kW<|qh h.m1 λh=>kA h (gh b2 #[Z 52,Z nI,Z EP] 95) λw h=>bW<|br<|tr<|tr<|br<|tr<|br<|tr<|tr<|br<|tr<|kC h<|?_;replace H:=xm H OU;replace H:=xm H Xj;replace H:=xm H RZ;cases H;exact⟨rfl,h.se 3 []⟩
        refine mP [(zy,0,[Z (J O.ah nI.toNat).aS,Z (J O.ah nI.toNat).dw,Z (J O.ah nI.toNat).bM,be ((aF nI.toNat).1) (J O.ah nI.toNat).ai.length ((aF nI.toNat).2)]),(zy,3,[be ((aF nI.toNat).1) (J O.ah nI.toNat).ai.length ((aF nI.toNat).2)]),(dQ ((aF nI.toNat).1),jl ((aF nI.toNat).1)+EP.toNat*5,gI (J (J O.ah nI.toNat).ai EP.toNat))] [1,4] 19 h (λh=>⟨((h.pick 2).held 0 rfl),⟨(h.pick 2).cell 3 rfl,bP⟩,⟨(aQ.vp sy).cell sP (h.dn 3) 0 rfl,(aQ.vp sy).cell sP (h.dn 3) 1 rfl,(aQ.vp sy).cell sP (h.dn 3) 2 rfl,(aQ.vp sy).cell sP (h.dn 3) 3 rfl,(aQ.vp sy).cell sP (h.dn 3) 4 rfl,bP⟩,bP⟩) λw h hd =>mz hd 17 [(1,62,pA zy 3),(3,64,Z EP)]<|xP hd 0 16 0 rfl rfl<|eY hd 1 15 2 rfl<|ny hd 14 4 rfl (pA (dQ ((aF nI.toNat).1)) (jl ((aF nI.toNat).1)+EP.toNat*5)) (λw=>EK 146 ((aF nI.toNat).2) rfl rfl (aQ.vp sy) sP)<|xP hd 2 13 5 rfl rfl<|lJ 6 rfl<|fh (tG (bB:=((aF nI.toNat).1)) (bY:=((aF nI.toNat).2)) (cO:=(bJ.up 3 (aQ.vp sy))) Wt h :) λw h=>G<|mA<|iM 11 7 rfl (vB (!Ae))<|iM 10 8 rfl (vB (!Ae))<|λ_ r=>YL 9 11 rfl (mB r (nF u3)) r<|?_;refine λ_ r=>YL 8 13 rfl (mB r (nF u3)) r<|?_;refine λ_ r=>YL 7 9 rfl (mB r (nF u3)) r<|?_;refine λ_ r=>YL 6 10 rfl (mB r (nF u3)) r<|?_;refine λ_ r=>YL 5 12 rfl (mB r (nF u3)) r<|?_;refine λ_ r=>YL 4 14 rfl (mB r (nF u3)) r<|?_;refine λ_ r=>YL 3 15 rfl (mB r (nF u3)) r<|?_;refine λ_ r=>lD 16 rfl<|aeu (mB r (nF u3)) r<|?_;refine G<|λ_ r=>xE<|YL 1 17 rfl (mB r (nF u3)) r<|?_;refine λ_ r=>evs 0 18 rfl (wn rfl) r (vB true) (hrun:=λw=>Fx (b:=(!Ae)) rfl aZ (nF u3) aZ)<|?_;refine mT<|tn<|λ_ r=>gQ r (b:=true) rfl<|qq r<|aL kW<|qh h.m1 λh=>kA h (gh b2 #[Z 52,Z nI,Z EP] 95) λw h=>bW<|br<|tr<|tr<|br<|tr<|br<|tr<|tr<|br<|tr<|kC h<|?_;replace H:=xm H OU;replace H:=xm H Xj;replace H:=xm H RZ;cases H;exact⟨rfl,h.se 3 []⟩
       refine wx<|te<|te<|bh<|tn<|?_;exact λ_ r=>⟨(),gE H,r.fj h⟩
     clear h r;rintro _ a w ⟨rfl,j,r,h⟩;replace H:=GA OU;refine qq r<|ks<|kM (h.pick 2)<|gf H λtL Lb H=>fh (xC (bB:=((aF nI.toNat).1)) (bY:=((aF nI.toNat).2)) (cO:=(bJ.up 3 (aQ.vp sy))) Lb h :) λw h=>bR<|G<|aL [U,vB (!tL)]<|G<|FD H (λOo H=>?_) λOo H=>?_
     ·refine wk<|bn<|tn<|?_;exact λ_ r=>⟨(),gE H,r.fj (h.se 3 [0,1])⟩
     refine aL dk<|kL (h.pick 2) 3<|ko [Z (((J O.ah nI.toNat).ai.length:Nat):Int),Z (wi ((((J O.ah nI.toNat).ai.length:Nat):Int)-1)),oH #[Z 53,Z nI,Z (wi ((((J O.ah nI.toNat).ai.length:Nat):Int)-1))]]<|qh h.m1 λh=>kA h (gh b2 #[Z 53,Z nI,Z (wi ((((J O.ah nI.toNat).ai.length:Nat):Int)-1))] 95) λw h=>bW<|br<|tr<|tr<|br<|tr<|kC h<|?_;replace H:=xm H Xj;replace H:=xm H RZ;cases H;exact⟨rfl,h.se 3 []⟩
    clear h r;rintro _ a w ⟨rfl,j,r,h⟩;replace H:=GA Xj;refine qq r<|wl<|ko [U,Z (wi (nI+1)),Z (wi (nI+1))]<|G<|?_;exact λ_ r=>⟨_,⟨(wi (nI+1)),H,r.fj h⟩,iI _⟩
   refine wx<|te<|te<|bh<|tn<|?_;exact λ_ r=>⟨(),gE H,r.fj h⟩
 clear h r;rintro _ a w ⟨rfl,j,r,h⟩;replace H:=GA RZ;refine qq r<|wq<|ig<|wb<|λ_ r=>dz (β:=Nat) id (λm a w=>∃oI:Int,(kG K O m oI)=some r0/\∃j,kX 131 (lk [(1,pA b1 0),(2,pA b2 0),(9,Z oI)] j) a/\Fit z (aC (gh b1 #[be aV O.ah.length bu] 24::gh b2 #[Z 0,Z 0,Z 0] 95::L)) w) K ⟨0,H,r.fj h⟩<|?_;clear h r H;rintro k4 a w ⟨oI,H,j,r,h⟩;cases k4 with
 | zero=>exact absurd H (by simp[kG])
 | succ k4 =>
  rw[kG]at H;refine qq r<|wq<|aL dk<|kL h 0<|ko [Z ((O.ah.length:Nat):Int),dH (oI<((O.ah.length:Nat):Int))]<|G<|dW H (λMc H=>?_) λMc H=>?_
  ·refine gq<|?_;obtain⟨o40,H,acs⟩:=Gz H;refine λ_ r=>dh (β:=Unit) (λ_ a w=>.inl ()=o40/\∃j,kX 131 (lk [(1,pA b1 0),(2,pA b2 0),(9,Z oI)] j) a/\Fit z (aC (gh b1 #[be aV O.ah.length bu] 24::gh b2 #[Z 0,Z 0,Z 0] 95::L)) w) ?_ ?_
   ·refine qq r<|wb<|aL [U]<|kL h 0<|qg H λAf H=>bR<|kp (pA (dQ aV) (jl aV+oI.toNat*4)) (C0 99 bu rfl rfl aQ Af)<|yb (oH #[Z (J O.ah oI.toNat).aS,Z (J O.ah oI.toNat).dw,Z (J O.ah oI.toNat).bM,be ((aF oI.toNat).1) (J O.ah oI.toNat).ai.length ((aF oI.toNat).2)]) (cs:=[Z (J O.ah oI.toNat).aS,Z (J O.ah oI.toNat).dw,Z (J O.ah oI.toNat).bM,be ((aF oI.toNat).1) (J O.ah oI.toNat).ai.length ((aF oI.toNat).2)]) ⟨aQ.cell Af (h.dn 2) 0 rfl,aQ.cell Af (h.dn 2) 1 rfl,aQ.cell Af (h.dn 2) 2 rfl,aQ.cell Af (h.dn 2) 3 rfl,bP⟩<|?_;refine kN h (#[Z 0,Z 0,Z 0,be none 0 0]) 99 λb42 w h=>kA h (rW b42 (J O.ah oI.toNat) ((aF oI.toNat).1) ((aF oI.toNat).2)) λw h=>G<|ks<|kM h<|gf H λNi e44 H=>Up (C4 (bB:=((aF oI.toNat).1)) (bY:=((aF oI.toNat).2)) (cO:=(bJ.up 3 (aQ.vp Af))) e44 h :) λXk x46 w h=>bR<|G<|ig<|wb<|λ_ r=>dz (β:=Nat) id (λm a w=>∃tj:Int,(ju K O oI Ni m tj)=some o40/\∃j,kX 131 (lk [(1,pA b1 0),(2,pA b2 0),(9,Z oI),(10,pA b42 0),(11,be Xk Ni.length x46),(12,Z tj)] j) a/\Fit z (aC (gh b1 #[be aV O.ah.length bu] 24::gh b2 #[Z 0,Z 0,Z 0] 95::rW b42 (J O.ah oI.toNat) ((aF oI.toNat).1) ((aF oI.toNat).2)::K5 Xk x46 Ni::L)) w) K ⟨0,H,r.fj (h.se 4 [2,3,1,0])⟩<|?_;clear h r H;rintro k5 a w ⟨tj,H,j,r,h⟩;cases k5 with
    | zero=>exact absurd H (by simp[ju])
    | succ k5 =>
     rw[ju]at H;refine qq r<|wq<|aL dk<|kL (h.pick 2) 3<|ko [Z (((J O.ah oI.toNat).ai.length:Nat):Int),dH (tj<(((J O.ah oI.toNat).ai.length:Nat):Int))]<|G<|dW H (λXi H=>?_) λXi H=>?_
     ·refine gq<|wq<|wb<|wq<|qg H λJn H=>qg H λTt H=>?_;obtain⟨agA,h⟩:=h.m3.nq (bl Tt);obtain⟨GS,GU,e53,h⟩:=n9 (h.m1);subst e53;refine gf H λNj e56 H=>mP [(b42,3,[be ((aF oI.toNat).1) (J O.ah oI.toNat).ai.length ((aF oI.toNat).2)]),(dQ ((aF oI.toNat).1),jl ((aF oI.toNat).1)+tj.toNat*5,gI (J (J O.ah oI.toNat).ai tj.toNat)),(dQ Xk,tj.toNat*1,[be GS (J Ni tj.toNat).length GU])] [0,3,7] 11 h (λh=>⟨⟨(h.pick 4).cell 3 rfl,bP⟩,⟨(aQ.vp Af).cell Jn (h.dn 5) 0 rfl,(aQ.vp Af).cell Jn (h.dn 5) 1 rfl,(aQ.vp Af).cell Jn (h.dn 5) 2 rfl,(aQ.vp Af).cell Jn (h.dn 5) 3 rfl,(aQ.vp Af).cell Jn (h.dn 5) 4 rfl,bP⟩,⟨(h.pick 1).qt eC (f:=0) rfl,bP⟩,bP⟩) λw h hd =>lY hd 7 114 [([0],pA b42 3),([2],Z tj),([5],be Xk Ni.length x46),([6],Z tj)]<|ny hd 6 7 rfl (mV Xk tj 1) (λw=>xN (k:=.i64) (E:=28) rfl aZ aZ aZ aZ (h.pick 1) Tt)<|eY hd 0 5 1 rfl<|ny hd 4 3 rfl (pA (dQ ((aF oI.toNat).1)) (jl ((aF oI.toNat).1)+tj.toNat*5)) (λw=>EK 146 ((aF oI.toNat).2) rfl rfl (aQ.vp Af) Jn)<|xP hd 1 3 4 rfl rfl<|eY hd 2 2 8 rfl<|lJ 9 rfl<|fh (zx (Ep:=GS) (GC:=GU) (FL:=(bJ.FA aG h (λh=>h))) e56 h :) λw h=>G<|mA<|iM 0 10 rfl (Z Nj)<|mT<|tn<|aL [U,vB (Nj != 0)]<|G<|rD H (λUH H=>?_) λUH H=>?_
      ·refine wk<|bn<|tn<|wl<|ko [U,Z (wi (tj+1)),Z (wi (tj+1))]<|G<|?_;replace h:=iY (x:=(J Ni tj.toNat)) h;replace h:=(h.m1).iK;exact λ_ r=>⟨_,⟨(wi (tj+1)),H,r.fj (h.se 4 [1,2,3,0])⟩,iI _⟩
      refine aL xR<|qh h.m3 λh=>kA h (gh b2 #[Z Nj,Z oI,Z tj] 95) λw h=>bW<|br<|tr<|tr<|br<|br<|tr<|tr<|br<|tr<|kC h<|qh h.m2.m2 λh=>?_;replace h:=iY (x:=(J Ni tj.toNat)) h;replace h:=(h.m1).iK;replace H:=xm H acs;cases H;exact⟨rfl,h.se 4 []⟩
     refine wx<|te<|te<|bh<|bn<|tn<|?_;exact λ_ r=>⟨(),gE H,r.fj (h.se 4 [0,1])⟩
   clear h r;rintro _ a w ⟨rfl,j,r,h⟩;replace H:=GA acs;refine qq r<|wl<|ko [U,Z (wi (oI+1)),Z (wi (oI+1))]<|G<|?_;exact λ_ r=>⟨_,⟨(wi (oI+1)),H,r.fj h⟩,iI _⟩
  refine wx<|te<|te<|bh<|tn<|aL [U]<|qh h.m1 λh=>kA h (gh b2 #[Z 0,Z 0,Z 0] 95) λw h=>bW<|kC h<|?_;cases H;exact⟨rfl,h.se 2 []⟩
def mD(K:Nat)(O:aE)(Y:List Int)(p2:Int)(p3:eP):Option (Int):=
 ei (j4 K O) (λr3=>(if r3.zO=0 then if bI (0:Int) O.ah.length then(if((Y.length:Nat):Int)=(J O.ah 0).aS then(if p2<1 then some 110 else(if p2>64 then some 110 else ei (kZ p3) (λu0=>(if u0=true then some 111 else some 0))))else some 61)else none else some 60))
theorem Ag(H:mD K O Y p2 p3=some r0)(h:iQ z (L) w)(aQ:yP L aV aF O.ah)(FL:bJ L 1 aH Ep Y) :
 nK 16 #[oH #[be aV O.ah.length bu],be Ep Y.length GC,Z p2,kU p3] w z (Z r0) (L):=by
 unfold mD at H;refine ke func16 35 rfl λj=>ks<|kN h (#[be aV O.ah.length bu]) 24 λb1 w h=>kN h (mg p3) 27 λb2 w h=>bR<|G<|ks<|yb (oH #[be aV O.ah.length bu]) (cs:=[be aV O.ah.length bu]) ⟨(h.pick 1).cell 0 rfl,bP⟩<|?_;refine gf H λr3 e4 H=>fh (wN (aV:=aV) (bu:=bu) (aQ:=(xO.up 2 aQ)) (aF:=aF) e4 h :) λw h=>kN h (#[Z 0,Z 0,Z 0]) 95 λb5 w h=>kA h (ack b5 r3) λw h=>G<|wq<|wb<|aL [U]<|kL h 0<|ko [vB (r3.zO != 0),vB (r3.zO != 0)]<|G<|rD H (λc6 H=>?_) λc6 H=>?_
 ·refine aL [U,Z ((Y.length:Nat):Int),U]<|kL (h.pick 2) 0<|qg H λc7 H=>kp (pA (dQ aV) (jl aV+0*4)) (C0 99 bu rfl rfl aQ c7)<|bR<|zu (Z (J O.ah 0).aS) (aQ.cell c7 (h.dn 3) 0 rfl)<|?_;refine ko [vB (((Y.length:Nat):Int) != (J O.ah 0).aS),vB (((Y.length:Nat):Int) != (J O.ah 0).aS)]<|G<|rD H (λc8 H=>?_) λc8 H=>?_
  ·refine aL [U,dH (p2<1),dH (p2<1)]<|qI H (λc9 H=>?_) λc9 H=>?_
   ·refine cx (dT c9) [29,30]<|oN (dT c9) (vB true)<|bR<|G<|λ_ r=>gQ r (b:=true) rfl<|qq r<|ig<|wr<|br<|tr<|?_;cases H;exact gj (h.se 3 [])
   refine dg (dF c9) [29,30] [Z p2,dH (p2>64)]<|oC (dF c9) (dH (p2>64))<|ko [dH (p2>64)]<|G<|dW H (λoO H=>?_) λoO H=>?_
   ·refine ig<|wr<|br<|tr<|?_;cases H;exact gj (h.se 3 [])
   refine ks<|kM (h.pick 1)<|gf H λu0 EM H=>fh (yQ EM h :) λw h=>bR<|G<|Em H (λxQ H=>?_) λxQ H=>?_
   ·refine ig<|wr<|br<|tr<|?_;cases H;exact gj (h.se 3 [])
   refine wk<|bn<|tn<|ig<|wr<|?_;cases H;exact gj (h.se 3 [])
  refine ig<|wr<|br<|tr<|?_;cases H;exact gj (h.se 3 [])
 refine ig<|wr<|br<|tr<|?_;cases H;exact gj (h.se 3 [])
def vy(O:aB):Option (Bool):=
 zZ ((if O.aS<0 then some (.inr false)else(if O.aS>8 then some (.inr false)else(if O.dw<1 then some (.inr false)else(if O.dw<O.aS then some (.inr false)else(if O.dw>16 then some (.inr false)else some (.inl ()))))))) ((if O.bM>=0 then(if O.bM<=8 then(if((O.ai.length:Nat):Int)>=1 then some (decide (((O.ai.length:Nat):Int)<=512))else some false)else some false)else some false))
theorem GV(H:vy O=some r0)(h:iQ z (L) w)(cO:bJ L 5 cY bB O.ai) :
 nK 114 #[oH #[Z O.aS,Z O.dw,Z O.bM,be bB O.ai.length bY]] w z (vB r0) (L):=by
 unfold vy at H;refine ke func114 48 rfl λj=>ks<|kN h (#[Z O.aS,Z O.dw,Z O.bM,be bB O.ai.length bY]) 99 λb1 w h=>bR<|G<|?_;obtain⟨o3,H,GB⟩:=Gz H;refine λ_ r=>dh (β:=Unit) (λ_ a w=>.inl ()=o3/\∃j,kX 48 (lk [(1,pA b1 0)] j) a/\Fit z (aC (rW b1 O bB bY::L)) w) ?_ ?_
 ·refine qq r<|aL [U]<|kL h 0<|ko [dH (O.aS<0),dH (O.aS<0)]<|qI H (λc4 H=>?_) λc4 H=>?_
  ·refine cx (dT c4) [7,8,9]<|oN (dT c4) (vB true)<|bR<|cx (rfl:true=true) [12,13,14]<|ko dk<|cx (rfl:true=true) [17,18,19,20,21]<|ko dk<|cx (rfl:true=true) [24,25,26]<|bR<|G<|λ_ r=>gQ r (b:=true) rfl<|qq r<|ig<|wr<|tr<|λ_ r=>tA (vB false) rfl r<|?_;replace H:=xm H GB;cases H;exact⟨rfl,h.se 1 []⟩
  refine dg (dF c4) [7] [pA b1 0]<|vM (dF c4) h 0<|dg (dF c4) [9] [dH (O.aS>8)]<|oC (dF c4) (dH (O.aS>8))<|ko [dH (O.aS>8)]<|qI H (λc5 H=>?_) λc5 H=>?_
  ·refine cx (dT c5) [12,13,14]<|oN (dT c5) (vB true)<|bR<|cx (rfl:true=true) [17,18,19,20,21]<|ko dk<|cx (rfl:true=true) [24,25,26]<|bR<|G<|λ_ r=>gQ r (b:=true) rfl<|qq r<|ig<|wr<|tr<|λ_ r=>tA (vB false) rfl r<|?_;replace H:=xm H GB;cases H;exact⟨rfl,h.se 1 []⟩
  refine dg (dF c5) [12] [pA b1 1]<|vM (dF c5) h 1<|dg (dF c5) [14] [dH (O.dw<1)]<|oC (dF c5) (dH (O.dw<1))<|ko [dH (O.dw<1)]<|qI H (λc6 H=>?_) λc6 H=>?_
  ·refine cx (dT c6) [17,18,19,20,21]<|oN (dT c6) (vB true)<|bR<|cx (rfl:true=true) [24,25,26]<|bR<|G<|λ_ r=>gQ r (b:=true) rfl<|qq r<|ig<|wr<|tr<|λ_ r=>tA (vB false) rfl r<|?_;replace H:=xm H GB;cases H;exact⟨rfl,h.se 1 []⟩
  refine dg (dF c6) [17] [pA b1 1]<|vM (dF c6) h 1<|dg (dF c6) [19] [pA b1 0]<|vM (dF c6) h 0<|dg (dF c6) [21] [dH (O.dw<O.aS)]<|oC (dF c6) (dH (O.dw<O.aS))<|ko [dH (O.dw<O.aS)]<|qI H (λc7 H=>?_) λc7 H=>?_
  ·refine cx (dT c7) [24,25,26]<|oN (dT c7) (vB true)<|G<|λ_ r=>gQ r (b:=true) rfl<|qq r<|ig<|wr<|tr<|λ_ r=>tA (vB false) rfl r<|?_;replace H:=xm H GB;cases H;exact⟨rfl,h.se 1 []⟩
  refine dg (dF c7) [24] [pA b1 1]<|vM (dF c7) h 1<|dg (dF c7) [26] [dH (O.dw>16)]<|oC (dF c7) (dH (O.dw>16))<|G<|dW H (λc8 H=>?_) λc8 H=>?_
  ·refine ig<|wr<|tr<|λ_ r=>tA (vB false) rfl r<|?_;replace H:=xm H GB;cases H;exact⟨rfl,h.se 1 []⟩
  refine gq<|?_;exact λ_ r=>⟨(),gE H,r.fj h⟩
 clear h r;rintro _ a w ⟨rfl,j,r,h⟩;replace H:=GA GB;refine qq r<|aL [U]<|kL h 2<|ko [dH (O.bM>=0),dH (O.bM>=0)]<|qI H (λc9 H=>?_) λc9 H=>?_
 ·refine dg (dT c9) [32] [pA b1 2]<|vM (dT c9) h 2<|dg (dT c9) [34] [dH (O.bM<=8)]<|oN (dT c9) (dH (O.bM<=8))<|ko [dH (O.bM<=8)]<|qI H (λoO H=>?_) λoO H=>?_
  ·refine dg (dT oO) [37] [pA b1 3]<|vM (dT oO) h 3<|dg (dT oO) [39,40] [Z ((O.ai.length:Nat):Int),dH (((O.ai.length:Nat):Int)>=1)]<|oN (dT oO) (dH (((O.ai.length:Nat):Int)>=1))<|ko [dH (((O.ai.length:Nat):Int)>=1)]<|qI H (λu6 H=>?_) λu6 H=>?_
   ·refine dg (dT u6) [43] [pA b1 3]<|vM (dT u6) h 3<|dg (dT u6) [45,46] [Z ((O.ai.length:Nat):Int),dH (((O.ai.length:Nat):Int)<=512)]<|oN (dT u6) (dH (((O.ai.length:Nat):Int)<=512))<|ko [dH (((O.ai.length:Nat):Int)<=512)]<|bW<|?_;cases H;exact gj (h.se 1 [])
   refine cx (dF u6) [43,44,45,46]<|oC (dF u6) (vB false)<|bR<|bW<|?_;cases H;exact gj (h.se 1 [])
  refine cx (dF oO) [37,38,39,40]<|oC (dF oO) (vB false)<|bR<|cx (rfl:false=false) [43,44,45,46]<|ko dk<|bW<|?_;cases H;exact gj (h.se 1 [])
 refine cx (dF c9) [32,33,34]<|oC (dF c9) (vB false)<|bR<|cx (rfl:false=false) [37,38,39,40]<|ko dk<|cx (rfl:false=false) [43,44,45,46]<|ko dk<|bW<|?_;cases H;exact gj (h.se 1 [])
def ye(O:Int)(Y:Int)(p2:aB)(p3:Int):Option (Bool):=
 (if O=0 then some true else(if O=1 then(if Y>=0 then some (decide (Y<p2.dw))else some false)else(if O=2 then(if Y>=0 then some (decide (Y<p2.bM))else some false)else(if O=3 then(if Y>=0 then some (decide (Y<((p2.ai.length:Nat):Int)))else some false)else(if O=5 then(if Y>=0 then some (decide (Y<16))else some false)else(if O=4 then(if p3<0 then some true else(if Y>=0 then some (decide (Y<p3))else some false))else(if Y>=0 then some (decide (Y<0))else some false)))))))
theorem AP(H:ye O Y p2 p3=some r0)(h:iQ z (L) w)(It:bJ L 5 cY Cp p2.ai) :
 nK 197 #[Z O,Z Y,oH #[Z p2.aS,Z p2.dw,Z p2.bM,be Cp p2.ai.length ER],Z p3] w z (vB r0) (L):=by
 unfold ye at H;refine ke func197 40 rfl λj=>ks<|kN h (#[Z p2.aS,Z p2.dw,Z p2.bM,be Cp p2.ai.length ER]) 99 λb1 w h=>bR<|G<|ig<|wq<|ig<|wb<|aL [vB (O==0),vB (O==0)]<|G<|dW H (λc2 H=>?_) λc2 H=>?_
 ·refine ig<|wr<|br<|tr<|?_;cases H;exact gj (h.se 1 [])
 refine aL [vB (O==1),vB (O==1)]<|G<|dW H (λc3 H=>?_) λc3 H=>?_
 ·refine wl<|bR<|kL h 1<|bR<|kl<|bn<|tn<|aL [U,dH (Y>=0),dH (Y>=0)]<|qI H (λc4 H=>?_) λc4 H=>?_
  ·refine dg (dT c4) [36,37,38] [Z Y,Z p2.dw,dH (Y<p2.dw)]<|oN (dT c4) (dH (Y<p2.dw))<|ko [dH (Y<p2.dw)]<|bW<|?_;cases H;exact gj (h.se 1 [])
  refine cx (dF c4) [36,37,38]<|oC (dF c4) (vB false)<|bR<|bW<|?_;cases H;exact gj (h.se 1 [])
 refine aL [vB (O==2),vB (O==2)]<|G<|dW H (λc5 H=>?_) λc5 H=>?_
 ·refine wl<|bR<|kL h 2<|bR<|kl<|bn<|tn<|aL [U,dH (Y>=0),dH (Y>=0)]<|qI H (λc6 H=>?_) λc6 H=>?_
  ·refine dg (dT c6) [36,37,38] [Z Y,Z p2.bM,dH (Y<p2.bM)]<|oN (dT c6) (dH (Y<p2.bM))<|ko [dH (Y<p2.bM)]<|bW<|?_;cases H;exact gj (h.se 1 [])
  refine cx (dF c6) [36,37,38]<|oC (dF c6) (vB false)<|bR<|bW<|?_;cases H;exact gj (h.se 1 [])
 refine aL [vB (O==3),vB (O==3)]<|G<|dW H (λc7 H=>?_) λc7 H=>?_
 ·refine wl<|bR<|kL h 3<|ko [Z ((p2.ai.length:Nat):Int),Z ((p2.ai.length:Nat):Int)]<|kl<|bn<|tn<|aL [U,dH (Y>=0),dH (Y>=0)]<|qI H (λc8 H=>?_) λc8 H=>?_
  ·refine dg (dT c8) [36,37,38] [Z Y,Z ((p2.ai.length:Nat):Int),dH (Y<((p2.ai.length:Nat):Int))]<|oN (dT c8) (dH (Y<((p2.ai.length:Nat):Int)))<|ko [dH (Y<((p2.ai.length:Nat):Int))]<|bW<|?_;cases H;exact gj (h.se 1 [])
  refine cx (dF c8) [36,37,38]<|oC (dF c8) (vB false)<|bR<|bW<|?_;cases H;exact gj (h.se 1 [])
 refine aL [vB (O==5),vB (O==5)]<|G<|dW H (λc9 H=>?_) λc9 H=>?_
 ·refine wl<|bR<|kl<|bn<|tn<|aL [U,dH (Y>=0),dH (Y>=0)]<|qI H (λoO H=>?_) λoO H=>?_
  ·refine dg (dT oO) [36,37,38] [Z Y,Z 16,dH (Y<16)]<|oN (dT oO) (dH (Y<16))<|ko [dH (Y<16)]<|bW<|?_;cases H;exact gj (h.se 1 [])
  refine cx (dF oO) [36,37,38]<|oC (dF oO) (vB false)<|bR<|bW<|?_;cases H;exact gj (h.se 1 [])
 refine aL [vB (O==4),vB (O==4)]<|G<|dW H (λu6 H=>?_) λu6 H=>?_
 ·refine wq<|aL [U,dH (p3<0)]<|G<|dW H (λD5 H=>?_) λD5 H=>?_
  ·refine ig<|wr<|tr<|br<|tr<|?_;cases H;exact gj (h.se 1 [])
  refine gq<|wl<|ko dk<|kl<|bn<|tn<|aL [U,dH (Y>=0),dH (Y>=0)]<|qI H (λxQ H=>?_) λxQ H=>?_
  ·refine dg (dT xQ) [36,37,38] [Z Y,Z p3,dH (Y<p3)]<|oN (dT xQ) (dH (Y<p3))<|ko [dH (Y<p3)]<|bW<|?_;cases H;exact gj (h.se 1 [])
  refine cx (dF xQ) [36,37,38]<|oC (dF xQ) (vB false)<|bR<|bW<|?_;cases H;exact gj (h.se 1 [])
 refine wk<|bn<|tn<|aL [U,dH (Y>=0),dH (Y>=0)]<|qI H (λxg H=>?_) λxg H=>?_
 ·refine dg (dT xg) [36,37,38] [Z Y,Z 0,dH (Y<0)]<|oN (dT xg) (dH (Y<0))<|ko [dH (Y<0)]<|bW<|?_;cases H;exact gj (h.se 1 [])
 refine cx (dF xg) [36,37,38]<|oC (dF xg) (vB false)<|bR<|bW<|?_;cases H;exact gj (h.se 1 [])
def vz(O:ct)(Y:aB)(p2:List aB):Option (Bool):=
 zZ ((if O.aN<0 then some (.inr false)else(if O.aN>=10 then some (.inr false)else some (.inl ())))) (if bI O.aN yK.length then OC (if 0<p2.length then some ()else none) (zZ (ei (ye (J yK O.aN.toNat).a O.A Y ((p2.length:Nat):Int)) (λiZ=>(if iZ=true then ei (ye (J yK O.aN.toNat).b O.B Y ((p2.length:Nat):Int)) (λBV=>(if BV=true then ei (ye (J yK O.aN.toNat).c O.C Y ((p2.length:Nat):Int)) (λxo=>(if xo=true then some (.inl ())else some (.inr false)))else some (.inr false)))else some (.inr false)))) (zZ ((if(J yK O.aN.toNat).k=5 then(if O.K<0 then some (.inr false)else(if O.K>=16 then some (.inr false)else some (.inl ())))else some (.inl ()))) (ei ((if O.aN=5 then if 0<p2.length then some true else none else some false)) (λg28=>(if g28=true then if bI O.B p2.length then(if(J p2 O.B.toNat).aS=0 then some true else(if O.C>=0 then some (decide (O.C<=(wi (Y.dw-(J p2 O.B.toNat).aS))))else some false))else none else some true)))))else none)
end
noncomputable section
variable {z w:World}{L:List bj}
theorem Bx(H:vz O Y p2=some r0)(h:iQ z (L) w)(fc:bJ L 5 cY dy Y.ai)(BT:yP L vA Wu p2)(vP:bJ L 5 gT (some ⟨1,0,none⟩) yK) :
 nK 168 #[gZ O,oH #[Z Y.aS,Z Y.dw,Z Y.bM,be dy Y.ai.length dG],be vA p2.length xh] w z (vB r0) (L):=by
 unfold vz at H;refine ke func168 96 rfl λj=>ks<|kN h (lW O) 146 λb1 w h=>kN h (#[Z Y.aS,Z Y.dw,Z Y.bM,be dy Y.ai.length dG]) 99 λb2 w h=>bR<|G<|?_;obtain⟨o4,H,OT⟩:=Gz H;refine λ_ r=>dh (β:=Unit) (λ_ a w=>.inl ()=o4/\∃j,kX 96 (lk [(2,be vA p2.length xh),(3,pA b1 0),(4,pA b2 0)] j) a/\Fit z (aC (vS b1 O::rW b2 Y dy dG::L)) w) ?_ ?_
 ·refine qq r<|aL [U]<|kL (h.pick 1) 0<|ko [dH (O.aN<0),dH (O.aN<0)]<|qI H (λc5 H=>?_) λc5 H=>?_
  ·refine cx (dT c5) [14,15,16]<|oN (dT c5) (vB true)<|G<|λ_ r=>gQ r (b:=true) rfl<|qq r<|ig<|wr<|tr<|λ_ r=>tA (vB false) rfl r<|?_;replace H:=xm H OT;cases H;exact⟨rfl,h.se 2 []⟩
  refine dg (dF c5) [14] [pA b1 0]<|vM (dF c5) (h.pick 1) 0<|dg (dF c5) [16] [dH (O.aN>=10)]<|oC (dF c5) (dH (O.aN>=10))<|G<|dW H (λc6 H=>?_) λc6 H=>?_
  ·refine ig<|wr<|tr<|λ_ r=>tA (vB false) rfl r<|?_;replace H:=xm H OT;cases H;exact⟨rfl,h.se 2 []⟩
  refine gq<|?_;exact λ_ r=>⟨(),gE H,r.fj (h.se 2 [1,0])⟩
 clear h r;rintro _ a w ⟨rfl,j,r,h⟩;replace H:=GA OT;refine qq r<|aL [U]<|kL h 0<|qg H λc7 H=>kp (pA (dQ (some ⟨1,0,none⟩)) (O.aN.toNat*5)) (OE (xs:=yK) (k:=.i64) (E:=249) rfl aZ aZ aZ aZ rfl c7)<|yb (K7 (J yK O.aN.toNat)) (cs:=K6 (J yK O.aN.toNat)) ⟨vP.Ic c7 (h.dn 2) 0 rfl,vP.Ic c7 (h.dn 2) 1 rfl,vP.Ic c7 (h.dn 2) 2 rfl,vP.Ic c7 (h.dn 2) 3 rfl,vP.Ic c7 (h.dn 2) 4 rfl,bP⟩<|?_;refine kN h (#[Z 0,Z 0,Z 0,Z 0,vB false]) 249 λb8 w h=>kA h (UA b8 (J yK O.aN.toNat)) λw h=>G<|aL [U,Z ((p2.length:Nat):Int),Z ((p2.length:Nat):Int)]<|G<|qd0 H λo10 H hK9=>λ_ r=>dh (β:=Unit) (λ_ a w=>()=o10/\∃j,kX 96 (lk [(2,be vA p2.length xh),(3,pA b1 0),(4,pA b2 0),(7,pA b8 0),(8,Z ((p2.length:Nat):Int))] j) a/\Fit z (aC (vS b1 O::rW b2 Y dy dG::UA b8 (J yK O.aN.toNat)::L)) w) ?_ ?_
 ·refine qq r<|ks<|qg H λu6 H=>bR<|kp (vB false) (W3 (n0:=p2.length) (cc:=xh) rfl aZ aZ (E:=99) aZ (BT.ne u6))<|G<|λ_ r=>jy r (b:=false) rfl<|qq r<|gq<|?_;exact λ_ r=>⟨(),gE H,r.fj (h.se 3 [1,2,0])⟩
 clear h r;rintro _ a w ⟨rfl,j,r,h⟩;replace H:=kk0 hK9;obtain⟨o13,H,R0⟩:=Gz H;refine dh (β:=Unit) (λ_ a w=>.inl ()=o13/\∃j,kX 96 (lk [(2,be vA p2.length xh),(3,pA b1 0),(4,pA b2 0),(7,pA b8 0)] j) a/\Fit z (aC (vS b1 O::rW b2 Y dy dG::UA b8 (J yK O.aN.toNat)::L)) w) ?_ ?_
 ·refine qq r<|aL [U]<|kL (h.pick 2) 0<|bR<|kL h 1<|kM (h.pick 1)<|gf H λiZ Iu H=>ko [Z ((p2.length:Nat):Int)]<|fh (AP (Cp:=dy) (ER:=dG) (It:=(bJ.up 3 fc)) Iu h :) λw h=>ko [vB (!iZ),vB (!iZ)]<|qI H (λu7 H=>?_) λu7 H=>?_
  ·refine dg (nT u7) [35] [pA b8 1]<|vM (nT u7) (h.pick 2) 1<|dg (nT u7) [37] [pA b1 2]<|vM (nT u7) h 2<|λ_ r=>ldm (mB r (nT u7)) r (oH #[Z Y.aS,Z Y.dw,Z Y.bM,be dy Y.ai.length dG]) (cs:=[Z Y.aS,Z Y.dw,Z Y.bM,be dy Y.ai.length dG]) ((h.pick 1).held 0 rfl)<|?_;refine gf H λBV D7 H=>dg (nT u7) [40] [Z ((p2.length:Nat):Int)]<|xg0 (nT u7) (AP (Cp:=dy) (ER:=dG) (It:=(bJ.up 3 fc)) D7 h :) λw h=>dg (nT u7) [42] [vB (!BV)]<|oC (nT u7) (vB (!BV))<|ko [vB (!BV)]<|qI H (λs6 H=>?_) λs6 H=>?_
   ·refine dg (nT s6) [45] [pA b8 2]<|vM (nT s6) (h.pick 2) 2<|dg (nT s6) [47] [pA b1 3]<|vM (nT s6) h 3<|λ_ r=>ldm (mB r (nT s6)) r (oH #[Z Y.aS,Z Y.dw,Z Y.bM,be dy Y.ai.length dG]) (cs:=[Z Y.aS,Z Y.dw,Z Y.bM,be dy Y.ai.length dG]) ((h.pick 1).held 0 rfl)<|?_;refine gf H λxo Le H=>dg (nT s6) [50] [Z ((p2.length:Nat):Int)]<|xg0 (nT s6) (AP (Cp:=dy) (ER:=dG) (It:=(bJ.up 3 fc)) Le h :) λw h=>dg (nT s6) [52] [vB (!xo)]<|oC (nT s6) (vB (!xo))<|G<|FD H (λFG H=>?_) λFG H=>?_
    ·refine gq<|?_;exact λ_ r=>⟨(),gE H,r.fj h⟩
    refine ig<|wr<|tr<|λ_ r=>tA (vB false) rfl r<|?_;replace H:=xm H R0;cases H;exact⟨rfl,h.se 3 []⟩
   refine cx (nF s6) [45,46,47,48,49,50,51,52]<|oN (nF s6) (vB true)<|G<|λ_ r=>gQ r (b:=true) rfl<|qq r<|ig<|wr<|tr<|λ_ r=>tA (vB false) rfl r<|?_;replace H:=xm H R0;cases H;exact⟨rfl,h.se 3 []⟩
  refine cx (nF u7) [35,36,37,38,39,40,41,42]<|oN (nF u7) (vB true)<|bR<|cx (rfl:true=true) [45,46,47,48,49,50,51,52]<|bR<|G<|λ_ r=>gQ r (b:=true) rfl<|qq r<|ig<|wr<|tr<|λ_ r=>tA (vB false) rfl r<|?_;replace H:=xm H R0;cases H;exact⟨rfl,h.se 3 []⟩
 clear h r;rintro _ a w ⟨rfl,j,r,h⟩;replace H:=GA R0;obtain⟨o24,H,OU⟩:=Gz H;refine dh (β:=Unit) (λ_ a w=>.inl ()=o24/\∃j,kX 96 (lk [(2,be vA p2.length xh),(3,pA b1 0),(4,pA b2 0)] j) a/\Fit z (aC (vS b1 O::rW b2 Y dy dG::L)) w) ?_ ?_
 ·refine qq r<|aL [U]<|kL (h.pick 2) 3<|ko [vB ((J yK O.aN.toNat).k==5),vB ((J yK O.aN.toNat).k==5)]<|qI H (λyM H=>?_) λyM H=>?_
  ·refine dg (beq_iff_eq.mpr yM) [58] [pA b1 4]<|λ_ r=>ld (mB r (beq_iff_eq.mpr yM)) r (Z O.K) (h.cell 4 rfl)<|?_;refine dg (beq_iff_eq.mpr yM) [60,61] [dH (O.K<0),dH (O.K<0)]<|qI H (λCV H=>?_) λCV H=>?_
   ·refine cx (dT CV) [62,63,64]<|λ_ r=>KW (mB r (beq_iff_eq.mpr yM)) r (vB true) (Fx (b:=(decide (O.K<0))) rfl aZ (dT CV) aZ)<|?_;refine oN (beq_iff_eq.mpr yM) (vB true)<|G<|λ_ r=>gQ r (b:=true) rfl<|qq r<|ig<|wr<|tr<|λ_ r=>tA (vB false) rfl r<|?_;replace H:=xm H OU;cases H;exact⟨rfl,h.se 3 []⟩
   refine dg (dF CV) [62] [pA b1 4]<|vM (dF CV) h 4<|dg (dF CV) [64] [dH (O.K>=16)]<|λ_ r=>KW (mB r (beq_iff_eq.mpr yM)) r (dH (O.K>=16)) (GL (b:=(decide (O.K<0))) rfl aZ (dF CV) aZ)<|?_;refine oN (beq_iff_eq.mpr yM) (dH (O.K>=16))<|G<|dW H (λsP H=>?_) λsP H=>?_
   ·refine ig<|wr<|tr<|λ_ r=>tA (vB false) rfl r<|?_;replace H:=xm H OU;cases H;exact⟨rfl,h.se 3 []⟩
   refine gq<|?_;exact λ_ r=>⟨(),gE H,r.fj (h.se 3 [0,1])⟩
  refine cx (bN yM) [58,59,60,61]<|M1 false [62,63,64]<|cx (bN yM) [65]<|oC (bN yM) (vB false)<|G<|λ_ r=>jy r (b:=false) rfl<|qq r<|gq<|?_;exact λ_ r=>⟨(),gE H,r.fj (h.se 3 [0,1])⟩
 clear h r;rintro _ a w ⟨rfl,j,r,h⟩;replace H:=GA OU;refine qq r<|wq<|El H λo30 H aeI=>λ_ r=>dh (β:=Unit) (λ_ a w=>∃g28:Bool,g28=o30/\∃j,kX 96 (lk [(2,be vA p2.length xh),(3,pA b1 0),(4,pA b2 0),(73,vB g28)] j) a/\Fit z (aC (vS b1 O::rW b2 Y dy dG::L)) w) ?_ ?_
 ·refine qq r<|wl<|bR<|kL h 0<|ko [vB (O.aN==5),vB (O.aN==5)]<|qI H (λxD H=>?_) λxD H=>?_
  ·refine qg H λFo H=>dg (beq_iff_eq.mpr xD) [71] [be vA p2.length xh]<|λ_ r=>KW (mB r (beq_iff_eq.mpr xD)) r (vB true) (T7 (n0:=p2.length) (cc:=xh) rfl aZ aZ (E:=99) aZ (BT.ne Fo))<|?_;refine oN (beq_iff_eq.mpr xD) (vB true)<|G<|?_;exact λ_ r=>⟨(),true,gE H,r.fj h⟩
  refine cx (bN xD) [71,72]<|oC (bN xD) (vB false)<|G<|?_;exact λ_ r=>⟨(),false,gE H,r.fj h⟩
 clear h r;rintro _ a w ⟨g28,rfl,j,r,h⟩;replace H:=Ek aeI;refine qq r<|Em H (λCl H=>?_) λCl H=>?_
 ·refine aL dk<|kL h 2<|qg H λFH H=>kp (pA (dQ vA) (jl vA+O.B.toNat*4)) (C0 99 xh rfl rfl BT FH)<|bR<|zu (Z (J p2 O.B.toNat).aS) (BT.cell FH (h.dn 2) 0 rfl)<|?_;refine bR<|G<|aL [U,vB ((J p2 O.B.toNat).aS==0),vB ((J p2 O.B.toNat).aS==0)]<|qI H (λJA H=>?_) λJA H=>?_
  ·refine cx (beq_iff_eq.mpr JA) [83,84,85,86]<|M1 true [87,88,89,90,91,92,93]<|cx (beq_iff_eq.mpr JA) [94]<|oN (beq_iff_eq.mpr JA) (vB true)<|bR<|bW<|tr<|?_;cases H;exact gj (h.se 2 [])
  refine dg (bN JA) [83] [pA b1 3]<|vM (bN JA) h 3<|dg (bN JA) [85,86] [dH (O.C>=0),dH (O.C>=0)]<|qI H (λOo H=>?_) λOo H=>?_
  ·refine dg (dT Oo) [87] [pA b1 3]<|vM (dT Oo) h 3<|dg (dT Oo) [89] [pA b2 1]<|vM (dT Oo) (h.pick 1) 1<|dg (dT Oo) [91,92,93] [Z (J p2 O.B.toNat).aS,Z (wi (Y.dw-(J p2 O.B.toNat).aS)),dH (O.C<=(wi (Y.dw-(J p2 O.B.toNat).aS)))]<|λ_ r=>KW (mB r (bN JA)) r (dH (O.C<=(wi (Y.dw-(J p2 O.B.toNat).aS)))) (Fx (b:=(decide (O.C>=0))) rfl aZ (dT Oo) aZ)<|?_;refine oC (bN JA) (dH (O.C<=(wi (Y.dw-(J p2 O.B.toNat).aS))))<|ko [dH (O.C<=(wi (Y.dw-(J p2 O.B.toNat).aS)))]<|bW<|tr<|?_;cases H;exact gj (h.se 2 [])
  refine cx (dF Oo) [87,88,89,90,91,92,93]<|λ_ r=>KW (mB r (bN JA)) r (vB false) (GL (b:=(decide (O.C>=0))) rfl aZ (dF Oo) aZ)<|?_;refine oC (bN JA) (vB false)<|bR<|bW<|tr<|?_;cases H;exact gj (h.se 2 [])
 refine gq<|ig<|wr<|?_;cases H;exact gj (h.se 2 [])
def wO(O:aB):Option (Bool):=
 if bI (wi (((O.ai.length:Nat):Int)-1)) O.ai.length then(if(J O.ai (wi (((O.ai.length:Nat):Int)-1)).toNat).aN=3 then some true else some ((J O.ai (wi (((O.ai.length:Nat):Int)-1)).toNat).aN==9))else none
theorem Cq(H:wO O=some r0)(h:iQ z (L) w)(cO:bJ L 5 cY bB O.ai) :
 nK 169 #[oH #[Z O.aS,Z O.dw,Z O.bM,be bB O.ai.length bY]] w z (vB r0) (L):=by
 unfold wO at H;refine ke func169 19 rfl λj=>ks<|kN h (#[Z O.aS,Z O.dw,Z O.bM,be bB O.ai.length bY]) 99 λb1 w h=>bR<|G<|aL [U]<|kL h 3<|bR<|kL h 3<|qg H λc2 H=>ko [Z ((O.ai.length:Nat):Int),Z (wi (((O.ai.length:Nat):Int)-1))]<|kj 146 bY cO c2<|ko [pA (dQ bB) (jl bB+(wi (((O.ai.length:Nat):Int)-1)).toNat*5)]<|zu (Z (J O.ai (wi (((O.ai.length:Nat):Int)-1)).toNat).aN) (cO.cell c2 (h.dn 1) 0 rfl)<|?_;refine ko [Z (J O.ai (wi (((O.ai.length:Nat):Int)-1)).toNat).aN]<|G<|aL [Z (J O.ai (wi (((O.ai.length:Nat):Int)-1)).toNat).aN,vB ((J O.ai (wi (((O.ai.length:Nat):Int)-1)).toNat).aN==3),vB ((J O.ai (wi (((O.ai.length:Nat):Int)-1)).toNat).aN==3)]<|qI H (λc3 H=>?_) λc3 H=>?_
 ·refine cx (beq_iff_eq.mpr c3) [16,17]<|oN (beq_iff_eq.mpr c3) (vB true)<|bR<|bW<|?_;cases H;exact gj (h.se 1 [])
 refine dg (bN c3) [16,17] [Z (J O.ai (wi (((O.ai.length:Nat):Int)-1)).toNat).aN,vB ((J O.ai (wi (((O.ai.length:Nat):Int)-1)).toNat).aN==9)]<|oC (bN c3) (vB ((J O.ai (wi (((O.ai.length:Nat):Int)-1)).toNat).aN==9))<|ko [vB ((J O.ai (wi (((O.ai.length:Nat):Int)-1)).toNat).aN==9)]<|bW<|?_;cases H;exact gj (h.se 1 [])
def gM(K:Nat)(O:Int)(Y:aB)(p2:List aB):Nat->Int->Option ((Unit)⊕((Unit)⊕nW))
 | 0,_=>none
 | k1+1,g4=>(if g4<((Y.ai.length:Nat):Int)then if bI g4 Y.ai.length then ei (vz (J Y.ai g4.toNat) Y p2) (λr8=>(if r8=true then(gM K O Y p2 k1 (wi (g4+1)))else some (.inr (.inr (⟨52,O,g4⟩:nW)))))else none else some (.inl ()))
def oq(K:Nat)(O:Int)(Y:aB)(p2:List aB):Option ((Unit)⊕nW):=
 zZ ((gM K O Y p2 K 0)) (ei (wO Y) (λu0=>(if u0=true then some (.inl ())else some (.inr (⟨53,O,wi (((Y.ai.length:Nat):Int)-1)⟩:nW)))))
abbrev YV:List Value:=[U,U,U,U,U]
theorem BK{K:Nat}{O:Int}{Y:aB}{p2:List aB}{dy vA:fP}{dG xh:Nat}{Wu:Nat->Option Addr×Nat}(H:oq K O Y p2=some (.inl ()))(h:iQ z (L) w)(fc:bJ L 5 cY dy Y.ai)(BT:yP L vA Wu p2)(vP:bJ L 5 gT (some ⟨1,0,none⟩) yK) :
 nK 115 #[Z O,oH #[Z Y.aS,Z Y.dw,Z Y.bM,be dy Y.ai.length dG],be vA p2.length xh] w z (.tuple #[]) (L):=by
 unfold oq at H;refine ke func115 38 rfl λj=>ks<|kN h (#[Z Y.aS,Z Y.dw,Z Y.bM,be dy Y.ai.length dG]) 99 λb1 w h=>G<|?_;obtain⟨o3,H,GB⟩:=Gz H;refine λ_ r=>dh (β:=Unit) (λ_ a w=>.inl ()=o3/\∃j,kX 38 (lk [(0,Z O),(4,pA b1 0)] j) a/\Fit z (aC (rW b1 Y dy dG::L)) w) ?_ ?_
 ·refine qq r<|aL [U]<|kL h 3<|ko [Z ((Y.ai.length:Nat):Int),U]<|G<|wb<|λ_ r=>dz (β:=Nat) id (λm a w=>∃g4:Int,(gM K O Y p2 m g4)=some o3/\∃j,kX 38 (lk [(0,Z O),(2,be vA p2.length xh),(4,pA b1 0),(9,be dy Y.ai.length dG),(10,Z ((Y.ai.length:Nat):Int)),(11,Z g4)] j) a/\Fit z (aC (rW b1 Y dy dG::L)) w) K ⟨0,H,r.fj h⟩<|?_;clear h r H;rintro k1 a w ⟨g4,H,j,r,h⟩;cases k1 with
  | zero=>exact absurd H (by simp[gM])
  | succ k1 =>
   rw[gM]at H;refine qq r<|aL [dH (g4<((Y.ai.length:Nat):Int))]<|G<|wq<|dW H (λc5 H=>?_) λc5 H=>?_
   ·refine gq<|wq<|wb<|ks<|qg H λc6 H=>bR<|kj 146 dG fc c6<|yb (gZ (J Y.ai g4.toNat)) (cs:=gI (J Y.ai g4.toNat)) ⟨fc.cell c6 (h.dn 1) 0 rfl,fc.cell c6 (h.dn 1) 1 rfl,fc.cell c6 (h.dn 1) 2 rfl,fc.cell c6 (h.dn 1) 3 rfl,fc.cell c6 (h.dn 1) 4 rfl,bP⟩<|?_;refine kN h (C1) 146 λb7 w h=>bR<|kA h (vS b7 (J Y.ai g4.toNat)) λw h=>G<|ks<|kM h<|kM (h.pick 1)<|gf H λr8 e9 H=>bR<|fh (Bx (vA:=vA) (xh:=xh) (BT:=(xO.up 2 BT)) (dy:=dy) (dG:=dG) (fc:=(bJ.up 2 fc)) (vP:=bJ.up 2 vP) (Wu:=Wu) e9 h :) λw h=>ko [vB (!r8)]<|G<|FD H (λoO H=>?_) λoO H=>?_
    ·refine wk<|bn<|tn<|wl<|ko [Z (wi (g4+1)),Z (wi (g4+1))]<|G<|?_;exact λ_ r=>⟨_,⟨(wi (g4+1)),H,r.fj (h.se 2 [1])⟩,iI _⟩
    refine wl<|ko YV<|λ_ r=>FC (wn rfl) r rfl (T:=194) (u:=oH #[Z 52,Z O,Z g4]) aZ<|uH<|oE<|oE<|uH<|oE<|CU r<|?_;replace H:=xm H GB;cases H
   refine wx<|te<|te<|bh<|tn<|?_;exact λ_ r=>⟨(),gE H,r.fj h⟩
 clear h r;rintro _ a w ⟨rfl,j,r,h⟩;replace H:=GA GB;refine qq r<|ks<|kM h<|gf H λu0 EM H=>fh (Cq (bB:=dy) (bY:=dG) (cO:=(bJ.up 1 fc)) EM h :) λw h=>ko [vB (!u0)]<|G<|FD H (λxQ H=>?_) λxQ H=>?_
 ·refine wk<|?_;cases H;exact Il (h.se 1 [])
 refine wl<|ko dk<|kL h 3<|ko [Z ((Y.ai.length:Nat):Int),Z (wi (((Y.ai.length:Nat):Int)-1)),oH #[Z 53,Z O,Z (wi (((Y.ai.length:Nat):Int)-1))],oH #[Z 53,Z O,Z (wi (((Y.ai.length:Nat):Int)-1))],if_ 194 (oH #[Z 53,Z O,Z (wi (((Y.ai.length:Nat):Int)-1))])]<|λ_ r=>FC (wn rfl) r rfl (T:=194) (u:=oH #[Z 53,Z O,Z (wi (((Y.ai.length:Nat):Int)-1))]) aZ<|CU r<|?_;cases H
theorem BL{K:Nat}{O:Int}{Y:aB}{p2:List aB}{dy vA:fP}{dG xh:Nat}{Wu:Nat->Option Addr×Nat}{rP:nW}(H:oq K O Y p2=some (.inr rP))(h:iQ z (L) w)(fc:bJ L 5 cY dy Y.ai)(BT:yP L vA Wu p2)(vP:bJ L 5 gT (some ⟨1,0,none⟩) yK) :
 Calls Tryz.prog 115 #[Z O,oH #[Z Y.aS,Z Y.dw,Z Y.bM,be dy Y.ai.length dG],be vA p2.length xh] w λe w=>e=.panicked [{v:=if_ 194 (Bw rP),recovered:=false}]/\Fit z (aC (L)) w:=by
 unfold oq at H;refine ke func115 38 rfl λj=>ks<|kN h (#[Z Y.aS,Z Y.dw,Z Y.bM,be dy Y.ai.length dG]) 99 λb1 w h=>G<|?_;obtain⟨o3,H,GB⟩:=Gz H;refine λ_ r=>dh (β:=Unit) (λ_ a w=>.inl ()=o3/\∃j,kX 38 (lk [(0,Z O),(4,pA b1 0)] j) a/\Fit z (aC (rW b1 Y dy dG::L)) w) ?_ ?_
 ·refine qq r<|aL [U]<|kL h 3<|ko [Z ((Y.ai.length:Nat):Int),U]<|G<|wb<|λ_ r=>dz (β:=Nat) id (λm a w=>∃g4:Int,(gM K O Y p2 m g4)=some o3/\∃j,kX 38 (lk [(0,Z O),(2,be vA p2.length xh),(4,pA b1 0),(9,be dy Y.ai.length dG),(10,Z ((Y.ai.length:Nat):Int)),(11,Z g4)] j) a/\Fit z (aC (rW b1 Y dy dG::L)) w) K ⟨0,H,r.fj h⟩<|?_;clear h r H;rintro k1 a w ⟨g4,H,j,r,h⟩;cases k1 with
  | zero=>exact absurd H (by simp[gM])
  | succ k1 =>
   rw[gM]at H;refine qq r<|aL [dH (g4<((Y.ai.length:Nat):Int))]<|G<|wq<|dW H (λc5 H=>?_) λc5 H=>?_
   ·refine gq<|wq<|wb<|ks<|qg H λc6 H=>bR<|kj 146 dG fc c6<|yb (gZ (J Y.ai g4.toNat)) (cs:=gI (J Y.ai g4.toNat)) ⟨fc.cell c6 (h.dn 1) 0 rfl,fc.cell c6 (h.dn 1) 1 rfl,fc.cell c6 (h.dn 1) 2 rfl,fc.cell c6 (h.dn 1) 3 rfl,fc.cell c6 (h.dn 1) 4 rfl,bP⟩<|?_;refine kN h (C1) 146 λb7 w h=>bR<|kA h (vS b7 (J Y.ai g4.toNat)) λw h=>G<|ks<|kM h<|kM (h.pick 1)<|gf H λr8 e9 H=>bR<|fh (Bx (vA:=vA) (xh:=xh) (BT:=(xO.up 2 BT)) (dy:=dy) (dG:=dG) (fc:=(bJ.up 2 fc)) (vP:=bJ.up 2 vP) (Wu:=Wu) e9 h :) λw h=>ko [vB (!r8)]<|G<|FD H (λoO H=>?_) λoO H=>?_
    ·refine wk<|bn<|tn<|wl<|ko [Z (wi (g4+1)),Z (wi (g4+1))]<|G<|?_;exact λ_ r=>⟨_,⟨(wi (g4+1)),H,r.fj (h.se 2 [1])⟩,iI _⟩
    refine wl<|ko YV<|λ_ r=>FC (wn rfl) r rfl (T:=194) (u:=oH #[Z 52,Z O,Z g4]) aZ<|uH<|oE<|oE<|uH<|oE<|CU r<|?_;replace H:=xm H GB;replace H:=ejR H;subst H;exact⟨rfl,h.se 2 []⟩
   refine wx<|te<|te<|bh<|tn<|?_;exact λ_ r=>⟨(),gE H,r.fj h⟩
 clear h r;rintro _ a w ⟨rfl,j,r,h⟩;replace H:=GA GB;refine qq r<|ks<|kM h<|gf H λu0 EM H=>fh (Cq (bB:=dy) (bY:=dG) (cO:=(bJ.up 1 fc)) EM h :) λw h=>ko [vB (!u0)]<|G<|FD H (λxQ H=>?_) λxQ H=>?_
 ·refine wk<|λ_ r=>qm rfl r<|?_;cases H
 refine wl<|ko dk<|kL h 3<|ko [Z ((Y.ai.length:Nat):Int),Z (wi (((Y.ai.length:Nat):Int)-1)),oH #[Z 53,Z O,Z (wi (((Y.ai.length:Nat):Int)-1))],oH #[Z 53,Z O,Z (wi (((Y.ai.length:Nat):Int)-1))],if_ 194 (oH #[Z 53,Z O,Z (wi (((Y.ai.length:Nat):Int)-1))])]<|λ_ r=>FC (wn rfl) r rfl (T:=194) (u:=oH #[Z 53,Z O,Z (wi (((Y.ai.length:Nat):Int)-1))]) aZ<|CU r<|?_;replace H:=ejR H;subst H;exact⟨rfl,h.se 1 []⟩
def wu(O:aX):Option (Bool):=
 some false
theorem FM(H:wu O=some r0)(h:iQ z (L) w) :
 nK 199 #[xn O] w z (vB r0) (L):=by
 unfold wu at H;refine ke func199 3 rfl λj=>ks<|kN h (GO O) 255 λb1 w h=>bR<|G<|ig<|wr<|?_;cases H;exact gj (h.se 1 [])
def wP(O:ct)(Y:Int)(p2:Int):Option (Int):=
 (if O.aN=5 then(if O.A=Y then some 2 else(if O.aN=6 then(if p2=2 then some 4 else some p2)else some p2))else(if O.aN=6 then(if p2=2 then some 4 else some p2)else some p2))
theorem Iv(H:wP O Y p2=some r0)(h:iQ z (L) w) :
 nK 220 #[gZ O,Z Y,Z p2] w z (Z r0) (L):=by
 unfold wP at H;refine ke func220 26 rfl λj=>ks<|kN h (lW O) 146 λb1 w h=>bR<|G<|wq<|wb<|aL [U]<|kL h 0<|ko [vB (O.aN==5),vB (O.aN==5)]<|qI H (λc2 H=>?_) λc2 H=>?_
 ·refine dg (beq_iff_eq.mpr c2) [12] [pA b1 1]<|λ_ r=>ld (mB r (beq_iff_eq.mpr c2)) r (Z O.A) (h.cell 1 rfl)<|?_;refine dg (beq_iff_eq.mpr c2) [14,15] [Z Y,vB (O.A==Y)]<|oN (beq_iff_eq.mpr c2) (vB (O.A==Y))<|ko [vB (O.A==Y)]<|G<|dW H (λc3 H=>?_) λc3 H=>?_
  ·refine ig<|wr<|br<|tr<|?_;cases H;exact gj (h.se 1 [])
  refine aL [U]<|kL h 0<|ko [vB (O.aN==6),vB (O.aN==6)]<|qI H (λc4 H=>?_) λc4 H=>?_
  ·refine dg (beq_iff_eq.mpr c4) [22,23] [Z p2,vB (p2==2)]<|oN (beq_iff_eq.mpr c4) (vB (p2==2))<|ko [vB (p2==2)]<|G<|dW H (λc5 H=>?_) λc5 H=>?_
   ·refine ig<|wr<|br<|tr<|?_;cases H;exact gj (h.se 1 [])
   refine wk<|bn<|tn<|aL dk<|bW<|?_;cases H;exact gj (h.se 1 [])
  refine cx (bN c4) [22,23]<|oC (bN c4) (vB false)<|bR<|G<|λ_ r=>jy r (b:=false) rfl<|qq r<|wk<|bn<|tn<|aL dk<|bW<|?_;cases H;exact gj (h.se 1 [])
 refine cx (bN c2) [12,13,14,15]<|oC (bN c2) (vB false)<|bR<|G<|λ_ r=>jy r (b:=false) rfl<|qq r<|aL [U]<|kL h 0<|ko [vB (O.aN==6),vB (O.aN==6)]<|qI H (λc6 H=>?_) λc6 H=>?_
 ·refine dg (beq_iff_eq.mpr c6) [22,23] [Z p2,vB (p2==2)]<|oN (beq_iff_eq.mpr c6) (vB (p2==2))<|ko [vB (p2==2)]<|G<|dW H (λc7 H=>?_) λc7 H=>?_
  ·refine ig<|wr<|br<|tr<|?_;cases H;exact gj (h.se 1 [])
  refine wk<|bn<|tn<|aL dk<|bW<|?_;cases H;exact gj (h.se 1 [])
 refine cx (bN c6) [22,23]<|oC (bN c6) (vB false)<|bR<|G<|λ_ r=>jy r (b:=false) rfl<|qq r<|wk<|bn<|tn<|aL dk<|bW<|?_;cases H;exact gj (h.se 1 [])
def wQ(O:aB)(Y:Int):Option ((List Int)):=
 if bI Y O.ai.length then ei (if bI (J O.ai Y.toNat).aN yK.length then(if(J yK (J O.ai Y.toNat).aN.toNat).next=true then(if(wi (Y+1))<((O.ai.length:Nat):Int)then if(([]:List Int).length+1)*8<=140737488355328 then some (([]:List Int)++[wi (Y+1)])else none else some ([]:List Int))else some ([]:List Int))else none) (λl6=>(if(J O.ai Y.toNat).aN=3 then if(l6.length+1)*8<=140737488355328 then some (l6++[(J O.ai Y.toNat).A])else none else(if(J O.ai Y.toNat).aN=4 then if(l6.length+1)*8<=140737488355328 then some (l6++[(J O.ai Y.toNat).B])else none else some l6)))else none
theorem Iw(H:wQ O Y=some r0)(h:iQ z (L) w)(cO:bJ L 5 cY bB O.ai)(vP:bJ L 5 gT (some ⟨1,0,none⟩) yK) :
 Calls Tryz.prog 221 #[oH #[Z O.aS,Z O.dw,Z O.bM,be bB O.ai.length bY],Z Y] w λe w=>∃y1 y2,e=.returned (be y1 r0.length y2)/\Fit z (aC (y9 y1 y2 r0::L)) w:=by
 unfold wQ at H;refine ke func221 47 rfl λj=>ks<|kN h (#[Z O.aS,Z O.dw,Z O.bM,be bB O.ai.length bY]) 99 λb1 w h=>bR<|G<|aL [U]<|kL h 3<|qg H λc2 H=>bR<|kj 146 bY cO c2<|yb (gZ (J O.ai Y.toNat)) (cs:=gI (J O.ai Y.toNat)) ⟨cO.cell c2 (h.dn 1) 0 rfl,cO.cell c2 (h.dn 1) 1 rfl,cO.cell c2 (h.dn 1) 2 rfl,cO.cell c2 (h.dn 1) 3 rfl,cO.cell c2 (h.dn 1) 4 rfl,bP⟩<|?_;refine kN h (C1) 146 λb3 w h=>kA h (vS b3 (J O.ai Y.toNat)) λw h=>G<|ig<|El H λo8 H Ld=>λ_ r=>dh (β:=Unit) (λ_ a w=>∃GW:fP,∃GY:Nat,∃l6:List Int,l6=o8/\∃j,kX 47 (lk [(5,pA b3 0),(6,be GW l6.length GY)] j) a/\Fit z (aC (vS b3 (J O.ai Y.toNat)::y9 GW GY l6::L)) w) ?_ ?_
 ·refine qq r<|aL [U]<|kL h 0<|qg H λc9 H=>kp (pA (dQ (some ⟨1,0,none⟩)) ((J O.ai Y.toNat).aN.toNat*5)) (OE (xs:=yK) (k:=.i64) (E:=249) rfl aZ aZ aZ aZ rfl c9)<|bR<|zu (vB (J yK (J O.ai Y.toNat).aN.toNat).next) (vP.Ic c9 (h.dn 2) 4 rfl)<|?_;refine bR<|qI H (λoO H=>?_) λoO H=>?_
  ·refine dg (oO) [18,19,20] [Z Y,Z (wi (Y+1)),pA b1 3]<|λ_ r=>ld (mB r (oO)) r (be bB O.ai.length bY) ((h.pick 1).cell 3 rfl)<|?_;refine dg (oO) [22,23] [Z ((O.ai.length:Nat):Int),dH ((wi (Y+1))<((O.ai.length:Nat):Int))]<|oN (oO) (dH ((wi (Y+1))<((O.ai.length:Nat):Int)))<|G<|dW H (λu6 H=>?_) λu6 H=>?_
   ·refine wl<|ko [U,U,Z (wi (Y+1))]<|kV h (#[Z (wi (Y+1))]) 3 λux w h=>?_;replace h:=h.fM (e:=3) (sz:=1) (enc:=aH);refine qg H λpJ H=>λ_ r=>j8 (n0:=0) (c:=1) (bytes:=8) (wn rfl) rfl rfl r rfl aZ aZ aG (E:=3) (xs:=([]:List Int)) aZ aZ h (news:=[wi (Y+1)]) (m:=1) rfl ((h.pick 1).news rfl) pJ rfl λtQ uw w _ h r=>qq r<|ko [be tQ (([]:List Int)++[wi (Y+1)]).length uw]<|G<|?_;exact λ_ r=>⟨(),tQ,uw,(([]:List Int)++[wi (Y+1)]),gE H,r.fj (h.se 4 [2,0])⟩
   refine gq<|?_;replace h:=h.fM (e:=3) (sz:=1) (enc:=aH);exact λ_ r=>⟨(),none,0,([]:List Int),gE H,r.fj (h.se 3 [1,0])⟩
  refine cx (bF oO) [18,19,20,21,22,23]<|oC (bF oO) (vB false)<|G<|λ_ r=>jy r (b:=false) rfl<|qq r<|gq<|?_;replace h:=h.fM (e:=3) (sz:=1) (enc:=aH);exact λ_ r=>⟨(),none,0,([]:List Int),gE H,r.fj (h.se 3 [1,0])⟩
 clear h r;rintro _ a w ⟨GW,GY,l6,rfl,j,r,h⟩;replace H:=Ek Ld;refine qq r<|wq<|aL [U]<|kL h 0<|G<|wb<|aL [vB ((J O.ai Y.toNat).aN==3),vB ((J O.ai Y.toNat).aN==3)]<|G<|dW H (λu7 H=>?_) λu7 H=>?_
 ·refine wl<|ko dk<|kL h 1<|kV h (#[Z (J O.ai Y.toNat).A]) 3 λb17 w h=>qh h.m2 λh=>qg H λmW H=>λ_ r=>j8 (n0:=l6.length) (c:=1) (bytes:=8) (wn rfl) rfl rfl r rfl aZ aZ aG (E:=3) (xs:=l6) aZ aZ h (news:=[(J O.ai Y.toNat).A]) (m:=1) rfl ((h.pick 1).news rfl) mW rfl λFN FO w _ h r=>qq r<|bR<|kl<|bn<|tn<|aL dk<|bW<|?_;cases H;exact xy2 FN FO (h.se 3 [0])
 refine aL [vB ((J O.ai Y.toNat).aN==4),vB ((J O.ai Y.toNat).aN==4)]<|G<|dW H (λsy H=>?_) λsy H=>?_
 ·refine wl<|ko dk<|kL h 2<|kV h (#[Z (J O.ai Y.toNat).B]) 3 λzy w h=>qh h.m2 λh=>qg H λyM H=>λ_ r=>j8 (n0:=l6.length) (c:=1) (bytes:=8) (wn rfl) rfl rfl r rfl aZ aZ aG (E:=3) (xs:=l6) aZ aZ h (news:=[(J O.ai Y.toNat).B]) (m:=1) rfl ((h.pick 1).news rfl) yM rfl λaeJ aeK w _ h r=>qq r<|bR<|kl<|bn<|tn<|aL dk<|bW<|?_;cases H;exact xy2 aeJ aeK (h.se 3 [0])
 refine wk<|bn<|tn<|aL dk<|bW<|?_;cases H;exact xy2 GW GY (h.se 2 [1])
def jP(K:Nat)(l8:List aX)(yf:Int)(rF:List Int):Nat->(List (aX×aX))->(List aX)->Int->Option ((List (aX×aX))×(List aX))
 | 0,_,_,_=>none
 | k2+1,OW,OX,oI=>(if oI<((rF.length:Nat):Int)then if bI oI rF.length then(if(yO OW (⟨(J rF oI.toNat),yf⟩:aX)).isSome=true then(jP K l8 yf rF k2 OW OX (wi (oI+1)))else if yO OW (⟨(J rF oI.toNat),yf⟩:aX)=none then if(OX.length+1)*16<=140737488355328 then(jP K l8 yf rF k2 (OW++[((⟨(J rF oI.toNat),yf⟩:aX),J l8 0)]) (OX++[(⟨(J rF oI.toNat),yf⟩:aX)]) (wi (oI+1)))else none else none)else none else some (OW,OX))
def lH(K:Nat)(O:aB)(Y:Int):Nat->(List (aX×aX))->(List aX)->Option ((List (aX×aX)))
 | 0,_,_=>none
 | k1+1,l5,l8=>(if((l8.length:Nat):Int)>0 then if bI (0:Int) l8.length then if 0<=(1:Int)/\(1:Int)<=((l8.length:Nat):Int)then if 0<l8.length then ei (wu (J l8 0)) (λBV=>(if BV=true then some l5 else if bI (J l8 0).J O.ai.length then ei (wP (J O.ai (J l8 0).J.toNat) Y (J l8 0).state) (λyf=>ei (wQ O (J l8 0).J) (λrF=>tN ((jP K l8 yf rF K l5 (l8.drop 1) 0)) (λQw GR=>(lH K O Y k1 Qw GR))))else none))else none else none else none else some l5)
def rH(K:Nat)(O:aB)(Y:Int):Option ((List (aX×aX))):=
 (lH K O Y K (([]:List (aX×aX))++[((⟨0,1⟩:aX),(⟨-1,0⟩:aX))]) ([(⟨0,1⟩:aX)]))
abbrev tR:aX:=⟨0,1⟩
abbrev DI:aX:=⟨-1,0⟩
abbrev zz:aX:=⟨0,0⟩
theorem C5(H:rH K O Y=some r0)(h:iQ z (L) w)(cO:bJ L 5 cY bB O.ai)(vP:bJ L 5 gT (some ⟨1,0,none⟩) yK) :
 Calls Tryz.prog 198 #[oH #[Z O.aS,Z O.dw,Z O.bM,be bB O.ai.length bY],Z Y,.func (.func 199) #[] #[]] w λe w=>∃YT,e=.returned (.map (some YT))/\Fit z (aC (mapOf dX dX YT r0::L)) w:=by
 unfold rH at H;refine ke func198 73 rfl λj=>ks<|kN h (#[Z O.aS,Z O.dw,Z O.bM,be bB O.ai.length bY]) 99 λb1 w h=>bR<|G<|λ_ r=>wp_scope_straight<|qq r<|aL [U]<|kN h (#[Z 0,Z 0]) 255 λb2 w h=>kA h (gh b2 #[Z 0,Z 1] 255) λw h=>G<|ks<|λ_ r=>Uj (wn rfl) rfl rfl r rfl dX dX h λb3 w _ h r=>qq r<|kM (h.pick 1)<|bR<|λ_ r=>Uk (t:=252) (et:=255) (wn rfl) rfl r (Or.inr rfl) aZ tR DI aZ aZ aZ K8 rfl h λw h=>qq r<|ko dk<|G<|ks<|kM (h.pick 1)<|kV h (#[Z 0,Z 1]) 255 λb4 w h=>?_;replace h:=Fit.CR (n:=1) (l:=[tR]) (by rfl) (by rfl) oF eC h;refine bR<|G<|wq<|λ_ r=>wp_label<|qq r<|tn<|wq<|wb<|qh h.Qr λh=>?_;have hn8:1=([tR]).length:=h.Uq;replace h:=Fit.Ia hn8 (λq_=>DY 255 2 dX (be (some ⟨b4,0,none⟩) q_ 1) ([tR])) h;intro _ r;replace r:=r.re 9 (nV (λq_=>Value.slice (some ⟨b4,0,none⟩) q_ 1) hn8);refine dz (β:=Nat) id (λm a w=>∃Fp:fP,∃cc7:Nat,∃l5:List (aX×aX),∃l8:List aX,(lH K O Y m l5 l8)=some r0/\∃j,kX 73 (lk [(1,Z Y),(2,.func (.func 199) #[] #[]),(3,pA b1 0),(8,.map (some b3)),(9,be Fp l8.length cc7)] j) a/\Fit z (aC (rW b1 O bB bY::mapOf dX dX b3 l5::DY 255 2 dX (be Fp l8.length cc7) l8::L)) w) K ⟨(some ⟨b4,0,none⟩),1,(([]:List (aX×aX))++[(tR,DI)]),([tR]),H,r.fj (h.se 4 [3,1,0])⟩<|?_;clear h r H;rintro k1 a w ⟨Fp,cc7,l5,l8,H,j,r,h⟩;cases k1 with
 | zero=>exact absurd H (by simp[lH])
 | succ k1 =>
  rw[lH]at H;refine qq r<|wq<|aL [U,Z ((l8.length:Nat):Int),dH (((l8.length:Nat):Int)>0)]<|G<|dW H (λoO H=>?_) λoO H=>?_
  ·refine gq<|wb<|ks<|qg H λu6 H=>bR<|kp (pA (dQ Fp) (jl Fp+0*2)) (aeD (i:=(0:Int)) (k:=.i64) (E:=255) rfl aZ aZ aZ aZ (h.pick 2) u6)<|yb (xn (J l8 0)) (cs:=GN (J l8 0)) ⟨(h.pick 2).M3 oF (f:=0) (bl u6) rfl,(h.pick 2).M3 oF (f:=1) (bl u6) rfl,bP⟩<|?_;refine kN h (#[Z 0,Z 0]) 255 λux w h=>kA h (Qs ux (J l8 0)) λw h=>G<|ks<|qg H λxQ H=>qg H λxg H=>bR<|qh h.m3 λh=>λ_ r=>Xf (k:=.i64) (wn rfl) rfl rfl r rfl aZ aZ (E:=255) aZ aZ oF h xQ xg λaeL aeM a h r =>qq r<|bR<|G<|wq<|aL [U]<|kM (h.pick 1)<|gf H λBV D7 H=>fh (FM D7 h :) λw h=>G<|Em H (λs6 H=>?_) λs6 H=>?_
   ·refine wx<|te<|λ_ r=>CM eC<|qq r<|te<|bh<|tn<|aL dk<|bW<|λ_ r=>Uh<|qq r<|?_;cases H;exact xy1 b3 (h.se 4 [3])
   refine gq<|wq<|qg H λmW H=>gf H λyf Nk H=>mP [(b1,3,[be bB O.ai.length bY]),(ux,0,[Z (J l8 0).J]),(dQ bB,jl bB+(J l8 0).J.toNat*5,gI (J O.ai (J l8 0).J.toNat)),(ux,1,[Z (J l8 0).state])] [0,2,4,7] 11 h (λh=>⟨⟨(h.pick 2).cell 3 rfl,bP⟩,⟨(h.pick 1).cell 0 rfl,bP⟩,⟨cO.cell mW (h.dn 4) 0 rfl,cO.cell mW (h.dn 4) 1 rfl,cO.cell mW (h.dn 4) 2 rfl,cO.cell mW (h.dn 4) 3 rfl,cO.cell mW (h.dn 4) 4 rfl,bP⟩,⟨(h.pick 1).cell 1 rfl,bP⟩,bP⟩) λw h hd =>mz hd 7 [(0,35,pA b1 3),(2,37,pA ux 0),(6,41,Z Y),(7,42,pA ux 1)]<|eY hd 0 6 1 rfl<|eY hd 1 5 3 rfl<|ny hd 4 4 rfl (pA (dQ bB) (jl bB+(J l8 0).J.toNat*5)) (λw=>EK 146 bY rfl rfl cO mW)<|xP hd 2 3 5 rfl rfl<|eY hd 3 2 8 rfl<|lJ 9 rfl<|fh (Iv Nk h :) λw h=>G<|mA<|iM 0 10 rfl (Z yf)<|mT<|tn<|ks<|kM (h.pick 2)<|bR<|kL (h.pick 1) 0<|gf H λrF UB H=>Up (Iw (bB:=bB) (bY:=bY) (cO:=(bJ.up 4 cO)) (vP:=bJ.up 4 vP) UB h :) λFP Ku w h=>ko [Z ((rF.length:Nat):Int),U]<|G<|qd2 H λo32 H aeN=>λ_ r=>sx (λa w=>∃Xl:fP,∃Xm:Nat,∃Qw:List (aX×aX),∃GR:List aX,(Qw,GR)=o32/\∃j,kX 73 (lk [(1,Z Y),(2,.func (.func 199) #[] #[]),(3,pA b1 0),(8,.map (some b3)),(9,be Xl GR.length Xm)] j) a/\Fit z (aC (rW b1 O bB bY::mapOf dX dX b3 Qw::DY 255 2 dX (be Xl GR.length Xm) GR::L)) w) ?_ ?_
   ·refine qq r<|wb<|λ_ r=>dz (β:=Nat) id (λm a w=>∃Lc:fP,∃Nh:Nat,∃OW:List (aX×aX),∃OX:List aX,∃oI:Int,(jP K l8 yf rF m OW OX oI)=some o32/\∃j,kX 73 (lk [(1,Z Y),(2,.func (.func 199) #[] #[]),(3,pA b1 0),(8,.map (some b3)),(9,be Lc OX.length Nh),(10,pA ux 0),(11,Z yf),(48,be FP rF.length Ku),(49,Z ((rF.length:Nat):Int)),(50,Z oI)] j) a/\Fit z (aC (rW b1 O bB bY::mapOf dX dX b3 OW::DY 255 2 dX (be Lc OX.length Nh) OX::Qs ux (J l8 0)::y9 FP Ku rF::L)) w) K ⟨aeL,aeM,l5,(l8.drop 1),0,H,r.fj (h.se 5 [3,4,1,2,0])⟩<|?_;clear h r H;rintro k2 a w ⟨Lc,Nh,OW,OX,oI,H,j,r,h⟩;cases k2 with
    | zero=>exact absurd H (by simp[jP])
    | succ k2 =>
     rw[jP]at H;refine qq r<|aL [dH (oI<((rF.length:Nat):Int))]<|G<|wq<|dW H (λMc H=>?_) λMc H=>?_
     ·refine gq<|wq<|wb<|ks<|qg H λMf H=>ki (h.pick 4) Mf<|zu (Z (J rF oI.toNat)) ((h.pick 4).cG aG (f:=0) (bl Mf) rfl)<|?_;refine bR<|G<|aL kW<|kN h (#[Z 0,Z 0]) 255 λb40 w h=>kA h (gh b40 #[Z (J rF oI.toNat),Z yf] 255) λw h=>G<|wq<|aL [U]<|kM h<|λ_ r=>Xa (et:=255) (wn rfl) rfl rfl r rfl aZ (⟨(J rF oI.toNat),yf⟩:aX) aZ aZ K8 (v0:=zz) aZ (h.pick 2)<|?_;refine ko [.tuple #[xn ((yO OW (⟨(J rF oI.toNat),yf⟩:aX)).getD zz),vB (yO OW (⟨(J rF oI.toNat),yf⟩:aX)).isSome],U,U]<|kN h (#[Z 0,Z 0]) 255 λb41 w h=>kA h (Qs b41 ((yO OW (⟨(J rF oI.toNat),yf⟩:aX)).getD zz)) λw h=>bR<|G<|ig<|Em H (λC6 H=>?_) λC6 H=>?_
      ·refine wx<|te<|bh<|tn<|wl<|ko [Z (wi (oI+1)),Z (wi (oI+1))]<|G<|?_;exact λ_ r=>⟨_,⟨Lc,Nh,OW,OX,(wi (oI+1)),H,r.fj (h.se 7 [2,3,4,5,6])⟩,iI _⟩
      refine gq<|aL [U]<|kM (h.pick 1)<|kM (h.pick 5)<|qh h.m3 λh=>qg H λR3 H=>λ_ r=>Uk (t:=252) (et:=255) (wn rfl) rfl r (Or.inl rfl) aZ (⟨(J rF oI.toNat),yf⟩:aX) (J l8 0) aZ aZ aZ K8 R3 h λw h=>qq r<|G<|wl<|bR<|kM (h.pick 2)<|kV h (#[Z (J rF oI.toNat),Z yf]) 255 λQx w h=>qh h.m5 λh=>qg H λXn H=>λ_ r=>M4 (n0:=OX.length) (c:=1) (bytes:=16) (wn rfl) rfl rfl r rfl aZ aZ oF (E:=255) (xs:=OX) aZ aZ h (news:=[(⟨(J rF oI.toNat),yf⟩:aX)]) (m:=1) rfl ((h.pick 1).news rfl) Xn rfl λOY OZ w _ h r=>qq r<|bR<|kl<|bn<|tn<|wl<|ko [Z (wi (oI+1)),Z (wi (oI+1))]<|G<|?_;exact λ_ r=>⟨_,⟨OY,OZ,(OW++[((⟨(J rF oI.toNat),yf⟩:aX),J l8 0)]),(OX++[(⟨(J rF oI.toNat),yf⟩:aX)]),(wi (oI+1)),H,r.fj (h.se 8 [5,2,0,6,7])⟩,iI _⟩
     refine wx<|te<|te<|bh<|tn<|?_;exact λ_ r=>⟨Lc,Nh,OW,OX,gE H,r.fj (h.se 5 [0,1,2])⟩
   clear h r;rintro a w ⟨Xl,Xm,Qw,GR,rfl,j,r,h⟩;replace H:=kk2 aeN;refine qq r<|bn<|tn<|?_;exact λ_ r=>⟨_,⟨Xl,Xm,Qw,GR,H,r.fj h⟩,iI _⟩
  refine wx<|te<|te<|bh<|tn<|aL dk<|bW<|λ_ r=>Uh<|qq r<|?_;cases H;exact xy1 b3 (h.se 3 [1])
def pO(K:Nat)(O:aB):Nat->(List (List Int))->Int->Option ((List (List Int)))
 | 0,_,_=>none
 | k1+1,l7,g8=>(if g8<(((List.replicate O.ai.length ([]:List Int)).length:Nat):Int)then if 0<=O.bM/\O.bM*8<=140737488355328 then if bI g8 l7.length then(pO K O k1 (l7.set g8.toNat (List.replicate O.bM.toNat (0:Int))) (wi (g8+1)))else none else none else some l7)
def pP(K:Nat)(s7:Int)(yw:(aX×aX)):(List (List Int))->Option ((List (List Int)))
 | AQ=>if bI yw.1.J AQ.length then if bI s7 (J AQ yw.1.J.toNat).length then some (AQ.set yw.1.J.toNat ((J AQ yw.1.J.toNat).set s7.toNat (OG (J (J AQ yw.1.J.toNat) s7.toNat) yw.1.state)))else none else none
def pQ(K:Nat)(O:aB):Nat->(List (List Int))->Int->Option ((List (List Int)))
 | 0,_,_=>none
 | k2+1,Wv,s7=>(if s7<O.bM then ei (ei (rH K O s7) (λrF=>(ei (wK (pP K s7) Wv rF) (λAQ=>some AQ)))) (λzP=>(pQ K O k2 zP (wi (s7+1))))else some Wv)
def wR(K:Nat)(O:aB):Option ((List (List Int))):=
 if 0<=((O.ai.length:Nat):Int)/\((O.ai.length:Nat):Int)*24<=140737488355328 then ei ((pO K O K (List.replicate O.ai.length ([]:List Int)) 0)) (λl4=>(pQ K O K l4 0))else none
theorem Cr(H:wR K O=some r0)(h:iQ z (L) w)(cO:bJ L 5 cY bB O.ai)(vP:bJ L 5 gT (some ⟨1,0,none⟩) yK) :
 Calls Tryz.prog 170 #[oH #[Z O.aS,Z O.dw,Z O.bM,be bB O.ai.length bY]] w λe w=>∃y1 y2,e=.returned (be y1 r0.length y2)/\Fit z (aC (K5 y1 y2 r0::L)) w:=by
 unfold wR at H;refine ke func170 50 rfl λj=>ks<|kN h (#[Z O.aS,Z O.dw,Z O.bM,be bB O.ai.length bY]) 99 λb1 w h=>bR<|G<|aL [U]<|kL h 3<|qg H λc2 H=>ko [Z ((O.ai.length:Nat):Int)]<|λ_ r=>ED (own:=j1) (i:=((O.ai.length:Nat):Int)) (bytes:=24) (zc:=#[be none 0 0]) ([]:List Int) (wn rfl) rfl rfl r rfl aZ aZ c2 rfl (by simp[Value.oneCell']) eC (E:=28) aZ aZ rfl (λh=>iY (x:=([]:List Int)) (uO:=none) (uP:=0) (h.fM)) h λjG w _ h r=>qq r<|bR<|G<|El H λo6 H hK5=>λ_ r=>dh (β:=Unit) (λ_ a w=>∃l4:List (List Int),l4=o6/\∃j,kX 50 (lk [(1,pA b1 0),(3,be jG (List.replicate O.ai.length ([]:List Int)).length O.ai.length)] j) a/\Fit z (aC (rW b1 O bB bY::tP 28 1 j1 (be jG (List.replicate O.ai.length ([]:List Int)).length O.ai.length) l4::L)) w) ?_ ?_
 ·refine qq r<|aL [U,Z (((List.replicate O.ai.length ([]:List Int)).length:Nat):Int),U]<|G<|wb<|λ_ r=>dz (β:=Nat) id (λm a w=>∃l7:List (List Int),∃g8:Int,(pO K O m l7 g8)=some o6/\∃j,kX 50 (lk [(1,pA b1 0),(3,be jG (List.replicate O.ai.length ([]:List Int)).length O.ai.length),(12,Z (((List.replicate O.ai.length ([]:List Int)).length:Nat):Int)),(13,Z g8)] j) a/\Fit z (aC (rW b1 O bB bY::tP 28 1 j1 (be jG (List.replicate O.ai.length ([]:List Int)).length O.ai.length) l7::L)) w) K ⟨(List.replicate O.ai.length ([]:List Int)),0,H,r.fj (h.se 2 [1,0])⟩<|?_;clear h r H;rintro k1 a w ⟨l7,g8,H,j,r,h⟩;cases k1 with
  | zero=>exact absurd H (by simp[pO])
  | succ k1 =>
   rw[pO]at H;refine qq r<|aL [dH (g8<(((List.replicate O.ai.length ([]:List Int)).length:Nat):Int))]<|G<|wq<|dW H (λc9 H=>?_) λc9 H=>?_
   ·refine gq<|wq<|wb<|aL dk<|G<|wl<|ko kW<|kL h 2<|qg H λoO H=>λ_ r=>tE (i:=O.bM) (bytes:=8) (zc:=#[Z 0]) (0:Int) (wn rfl) rfl rfl r rfl aZ aZ oO aG (E:=3) aZ aZ rfl rfl h λbg w _ h r=>qq r<|qg H λD5 H=>kp (mV jG g8 1) (Hs (k:=.i64) (E:=28) rfl aZ aZ aZ aZ (h.pick 2) D5)<|?_;obtain⟨agB,h⟩:=h.m2.nq (bl D5);obtain⟨tQ,uw,Iu,h⟩:=n9 (h.m1);subst Iu;refine qh h.m1 λh=>λ_ r=>DD (wn rfl) rfl r rfl aZ aZ (v:=be bg (List.replicate O.bM.toNat (0:Int)).length O.bM.toNat) rfl rfl aZ aZ h (i:=g8.toNat) (f:=0) eC λw h=>qq r<|kl<|bn<|tn<|wl<|ko [Z (wi (g8+1)),Z (wi (g8+1))]<|G<|qh h.m2 λh=>?_;replace h:=iY (x:=(List.replicate O.bM.toNat (0:Int))) h;replace h:=(h.m1).z9;exact λ_ r=>⟨_,⟨(l7.set g8.toNat (List.replicate O.bM.toNat (0:Int))),(wi (g8+1)),H,r.fj (h.se 3 [2,0])⟩,iI _⟩
   refine wx<|te<|te<|bh<|tn<|?_;exact λ_ r=>⟨(),l7,gE H,r.fj h⟩
 clear h r;rintro _ a w ⟨l4,rfl,j,r,h⟩;replace H:=Ek hK5;refine qq r<|wq<|aL [U]<|kL h 2<|bR<|G<|wb<|λ_ r=>dz (β:=Nat) id (λm a w=>∃Wv:List (List Int),∃s7:Int,(pQ K O m Wv s7)=some r0/\∃j,kX 50 (lk [(1,pA b1 0),(3,be jG (List.replicate O.ai.length ([]:List Int)).length O.ai.length),(24,Z O.bM),(25,Z s7)] j) a/\Fit z (aC (rW b1 O bB bY::tP 28 1 j1 (be jG (List.replicate O.ai.length ([]:List Int)).length O.ai.length) Wv::L)) w) K ⟨l4,0,H,r.fj h⟩<|?_;clear h r H;rintro k2 a w ⟨Wv,s7,H,j,r,h⟩;cases k2 with
 | zero=>exact absurd H (by simp[pQ])
 | succ k2 =>
  rw[pQ]at H;refine qq r<|aL [dH (s7<O.bM)]<|G<|wq<|dW H (λs6 H=>?_) λs6 H=>?_
  ·refine gq<|El H λo22 H aeO=>λ_ r=>dh (β:=Unit) (λ_ a w=>∃zP:List (List Int),zP=o22/\∃j,kX 50 (lk [(1,pA b1 0),(3,be jG (List.replicate O.ai.length ([]:List Int)).length O.ai.length),(24,Z O.bM),(25,Z s7)] j) a/\Fit z (aC (rW b1 O bB bY::tP 28 1 j1 (be jG (List.replicate O.ai.length ([]:List Int)).length O.ai.length) zP::L)) w) ?_ ?_
   ·refine qq r<|wb<|aL dk<|G<|ks<|kM h<|gf H λrF UB H=>bR<|xc1 (C5 (bB:=bB) (bY:=bY) (cO:=(bJ.up 2 cO)) (vP:=bJ.up 2 vP) UB h :) λacu w h=>λ_ r=>Ul (kt:=255) (et:=255) (wn rfl) rfl rfl r rfl aZ aZ h λb26 w _ h r=>qq r<|G<|wb<|gf H λO0 Lf H=>λ_ r=>ON rF (pP K s7) Wv (λacv s_ a w=>∃AQ:List (List Int),AQ=s_/\∃j,kX 50 (lk [(1,pA b1 0),(3,be jG (List.replicate O.ai.length ([]:List Int)).length O.ai.length),(5,Z s7),(24,Z O.bM),(25,Z s7),(31,pA b26 0)] j) a/\Fit z (aC (rW b1 O bB bY::tP 28 1 j1 (be jG (List.replicate O.ai.length ([]:List Int)).length O.ai.length) AQ::Ij b26 acu rF.length acv::mapOf dX dX acu rF::L)) w) ⟨Wv,rfl,r.fj (h.se 4 [2,3,0,1])⟩<|?_;clear h r;rintro acv _ a w hs_ ⟨AQ,rfl,j,r,h⟩;refine qq r<|ks<|qh h.m3.m3 λh=>λ_ r=>Xb (wn rfl) rfl rfl r rfl aZ rfl h ?_ ?_
    ·clear r;intro acw a r;have e_:=hs_.done Lf acw;subst e_;refine qq r<|bR<|G<|wq<|λ_ r=>jy r (b:=false) rfl<|qq r<|wx<|te<|te<|bh<|bn<|tn<|?_;exact λ_ r=>⟨(),AQ,gE H,r.fj (h.se 4 [2,3])⟩
    clear r h;intro agC yw w a hx_ hi_ h r;obtain⟨s1_,Hs_,hp_⟩:=hs_.push Lf hx_ hi_;clear H;have H:=Hs_;rw[pP]at H;refine qq r<|bR<|G<|wq<|λ_ r=>gQ r (b:=true) rfl<|qq r<|gq<|wb<|ks<|λ_ r=>Um (wn rfl) rfl rfl r rfl aZ rfl h hx_<|?_;refine bR<|kN h (#[Z 0,Z 0]) 255 λLh w h=>kA h (Qs Lh yw.1) λw h=>G<|qg H λFH H=>?_;obtain⟨agD,h⟩:=h.m4.nq (bl FH);obtain⟨UI,acy,RV,h⟩:=n9 (h.m1);subst RV;refine qg H λMf H=>mP [(Lh,0,[Z yw.1.J]),(dQ jG,yw.1.J.toNat*1,[be UI (J AQ yw.1.J.toNat).length acy]),(dQ UI,s7.toNat*1,[Z (J (J AQ yw.1.J.toNat) s7.toNat)]),(Lh,1,[Z yw.1.state])] [1,3,6,8] 13 h (λh=>⟨⟨(h.pick 2).cell 0 rfl,bP⟩,⟨(h.pick 1).qt eC (f:=0) rfl,bP⟩,⟨h.cG aG (f:=0) (bl Mf) rfl,bP⟩,⟨(h.pick 2).cell 1 rfl,bP⟩,bP⟩) λw h hd =>mz hd 9 [(0,36,be jG (List.replicate O.ai.length ([]:List Int)).length O.ai.length),(1,37,pA Lh 0),(5,41,Z s7),(8,44,pA Lh 1)]<|eY hd 0 8 2 rfl<|ny hd 7 3 rfl (pA (dQ jG) (yw.1.J.toNat*1)) (λw=>xN (k:=.i64) (E:=28) rfl aZ aZ aZ aZ (h.pick 1) FH)<|eY hd 1 6 4 rfl<|ny hd 5 6 rfl (mV UI s7 1) (λw=>ud 3 rfl h Mf)<|eY hd 2 4 7 rfl<|eY hd 3 3 9 rfl<|ny hd 2 10 rfl (Z (OG (J (J AQ yw.1.J.toNat) s7.toNat) yw.1.state)) (λw=>ror rfl aZ aZ)<|ny hd 1 11 rfl (mV UI s7 1) (λw=>ud 3 rfl h Mf)<|λ_ r=>lD 12 rfl<|KX (wn rfl) r aG h s7.toNat 0 (Z (OG (J (J AQ yw.1.J.toNat) s7.toNat) yw.1.state)) (J (J AQ yw.1.J.toNat) s7.toNat) (OG (J (J AQ yw.1.J.toNat) s7.toNat) yw.1.state) (bl Mf) λw h=>qq r<|G<|mA<|mT<|bn<|tn<|?_;replace h:=h.KY (λq_=>Ce 28 1 j1 (be jG (List.replicate O.ai.length ([]:List Int)).length O.ai.length) AQ yw.1.J.toNat [be UI q_ acy]);replace h:=iY (x:=((J AQ yw.1.J.toNat).set s7.toNat (OG (J (J AQ yw.1.J.toNat) s7.toNat) yw.1.state))) h;replace h:=(h.m1).z9;exact λ_ r=>⟨_,_,hp_,(AQ.set yw.1.J.toNat ((J AQ yw.1.J.toNat).set s7.toNat (OG (J (J AQ yw.1.J.toNat) s7.toNat) yw.1.state))),gE H,r.fj (h.se 5 [4,0,2,3])⟩
   clear h r;rintro _ a w ⟨zP,rfl,j,r,h⟩;replace H:=Ek aeO;refine qq r<|wl<|ko [Z (wi (s7+1)),Z (wi (s7+1))]<|G<|?_;exact λ_ r=>⟨_,⟨zP,(wi (s7+1)),H,r.fj h⟩,iI _⟩
  refine wx<|te<|te<|bh<|tn<|aL dk<|bW<|λ_ r=>tA (be jG (List.replicate O.ai.length ([]:List Int)).length O.ai.length) rfl r<|qh h.m1 λh=>?_;have UF:(List.replicate O.ai.length ([]:List Int)).length=Wv.length:=h.OD;replace h:=Fit.Ia UF (λq_=>tP 28 1 j1 (be jG q_ O.ai.length) Wv) h;cases H;exact⟨jG,O.ai.length,(by first | rfl | simp only[UF]),h.se 2 [0]⟩
def jI(K:Nat)(r2:List (List Int))(g6:Int):Nat->Int->Int->Option (Int)
 | 0,_,_=>none
 | k2+1,oI,C7=>(if C7<(((J r2 g6.toNat).length:Nat):Int)then if bI C7 (J r2 g6.toNat).length then(if(iB (J (J r2 g6.toNat) C7.toNat) (2:Int))=0 then(jI K r2 g6 k2 oI (wi (C7+1)))else(jI K r2 g6 k2 56 (wi (C7+1))))else none else some oI)
def lZ(K:Nat)(O:Int)(Y:aB)(r2:List (List Int)):Nat->Int->Option ((Unit)⊕nW)
 | 0,_=>none
 | k1+1,g6=>(if g6<((Y.ai.length:Nat):Int)then zZ (if bI g6 Y.ai.length then ei ((if(J Y.ai g6.toNat).aN=5 then if bI g6 r2.length then if bI (J Y.ai g6.toNat).A (J r2 g6.toNat).length then(if(iB (J (J r2 g6.toNat) (J Y.ai g6.toNat).A.toNat) (2:Int))=0 then some 0 else some 54)else none else none else(if(J Y.ai g6.toNat).aN=7 then if bI g6 r2.length then if bI (J Y.ai g6.toNat).B (J r2 g6.toNat).length then(if(iB (J (J r2 g6.toNat) (J Y.ai g6.toNat).B.toNat) (3:Int))=0 then some 0 else some 55)else none else none else(if(J Y.ai g6.toNat).aN=9 then if bI g6 r2.length then(jI K r2 g6 K 0 0)else none else some 0)))) (λmL=>(if mL=0 then some (.inl ())else some (.inr (.inr (⟨mL,O,g6⟩:nW)))))else none) ((lZ K O Y r2 k1 (wi (g6+1))))else some (.inl ()))
def wc(K:Nat)(O:Int)(Y:aB):Option ((Unit)⊕nW):=
 ei (wR K Y) (λr2=>(lZ K O Y r2 K 0))
abbrev u6_:List Value:=[U,U,U,U,U,U]
theorem Ix{K:Nat}{O:Int}{Y:aB}{dy:fP}{dG:Nat}(H:wc K O Y=some (.inl ()))(h:iQ z (L) w)(fc:bJ L 5 cY dy Y.ai)(vP:bJ L 5 gT (some ⟨1,0,none⟩) yK) :
 nK 116 #[Z O,oH #[Z Y.aS,Z Y.dw,Z Y.bM,be dy Y.ai.length dG]] w z (.tuple #[]) (L):=by
 unfold wc at H;refine ke func116 70 rfl λj=>ks<|kN h (#[Z Y.aS,Z Y.dw,Z Y.bM,be dy Y.ai.length dG]) 99 λb1 w h=>G<|ks<|kM h<|gf H λr2 e3 H=>Up (Cr (bB:=dy) (bY:=dG) (cO:=(bJ.up 1 fc)) (vP:=bJ.up 1 vP) e3 h :) λx4 x5 w h=>bR<|G<|aL [U]<|kL (h.pick 1) 3<|ko [Z ((Y.ai.length:Nat):Int),U]<|G<|wb<|λ_ r=>dz (β:=Nat) id (λm a w=>∃g6:Int,(lZ K O Y r2 m g6)=some (.inl ())/\∃j,kX 70 (lk [(0,Z O),(4,be x4 r2.length x5),(13,be dy Y.ai.length dG),(14,Z ((Y.ai.length:Nat):Int)),(15,Z g6)] j) a/\Fit z (aC (K5 x4 x5 r2::L)) w) K ⟨0,H,r.fj (h.se 2 [0])⟩<|?_;clear h r H;rintro k1 a w ⟨g6,H,j,r,h⟩;cases k1 with
 | zero=>exact absurd H (by simp[lZ])
 | succ k1 =>
  rw[lZ]at H;refine qq r<|aL [dH (g6<((Y.ai.length:Nat):Int))]<|G<|wq<|dW H (λc7 H=>?_) λc7 H=>?_
  ·refine gq<|?_;obtain⟨o9,H,Nc⟩:=Gz H;refine λ_ r=>dh (β:=Unit) (λ_ a w=>.inl ()=o9/\∃j,kX 70 (lk [(0,Z O),(4,be x4 r2.length x5),(13,be dy Y.ai.length dG),(14,Z ((Y.ai.length:Nat):Int)),(15,Z g6)] j) a/\Fit z (aC (K5 x4 x5 r2::L)) w) ?_ ?_
   ·refine qq r<|wb<|ks<|qg H λoO H=>bR<|kj 146 dG fc oO<|yb (gZ (J Y.ai g6.toNat)) (cs:=gI (J Y.ai g6.toNat)) ⟨fc.cell oO (h.dn 1) 0 rfl,fc.cell oO (h.dn 1) 1 rfl,fc.cell oO (h.dn 1) 2 rfl,fc.cell oO (h.dn 1) 3 rfl,fc.cell oO (h.dn 1) 4 rfl,bP⟩<|?_;refine kN h (C1) 146 λOS w h=>bR<|kA h (vS OS (J Y.ai g6.toNat)) λw h=>G<|ig<|El H λo14 H Z6=>λ_ r=>dh (β:=Unit) (λ_ a w=>∃mL:Int,mL=o14/\∃j,kX 70 (lk [(0,Z O),(4,be x4 r2.length x5),(5,Z g6),(7,Z mL),(13,be dy Y.ai.length dG),(14,Z ((Y.ai.length:Nat):Int)),(15,Z g6)] j) a/\Fit z (aC (K5 x4 x5 r2::L)) w) ?_ ?_
    ·refine qq r<|aL [U]<|kL h 0<|G<|wb<|aL [vB ((J Y.ai g6.toNat).aN==5),vB ((J Y.ai g6.toNat).aN==5)]<|G<|dW H (λpJ H=>?_) λpJ H=>?_
     ·refine wq<|qg H λu7 H=>?_;obtain⟨acz,h⟩:=h.m1.nq (bl u7);obtain⟨FQ,O1,Kt,h⟩:=n9 (h.m1);subst Kt;refine qg H λsy H=>mP [(dQ x4,g6.toNat*1,[be FQ (J r2 g6.toNat).length O1]),(OS,1,[Z (J Y.ai g6.toNat).A]),(dQ FQ,(J Y.ai g6.toNat).A.toNat*1,[Z (J (J r2 g6.toNat) (J Y.ai g6.toNat).A.toNat)])] [2,4,6] 10 h (λh=>⟨⟨(h.pick 1).qt eC (f:=0) rfl,bP⟩,⟨(h.pick 2).cell 1 rfl,bP⟩,⟨h.cG aG (f:=0) (bl sy) rfl,bP⟩,bP⟩) λw h hd =>mz hd 8 [(0,24,be x4 r2.length x5),(1,25,Z g6)]<|ny hd 7 2 rfl (mV x4 g6 1) (λw=>xN (k:=.i64) (E:=28) rfl aZ aZ aZ aZ (h.pick 1) u7)<|mz hd 6 [(4,28,pA OS 1)]<|eY hd 0 5 3 rfl<|eY hd 1 4 5 rfl<|ny hd 3 6 rfl (pA (dQ FQ) ((J Y.ai g6.toNat).A.toNat*1)) (λw=>ud 3 rfl h sy)<|eY hd 2 2 7 rfl<|ny hd 1 8 rfl (Z (iB (J (J r2 g6.toNat) (J Y.ai g6.toNat).A.toNat) (2:Int))) (λw=>rand rfl aZ aZ)<|mz hd 0 [(9,33,vB ((iB (J (J r2 g6.toNat) (J Y.ai g6.toNat).A.toNat) (2:Int)) != 0))]<|mT<|tn<|rD H (λFG H=>?_) λFG H=>?_
      ·refine wk<|bn<|tn<|?_;replace h:=iY (x:=(J r2 g6.toNat)) h;replace h:=(h.m1).iK;exact λ_ r=>⟨(),0,gE H,r.fj (h.se 2 [0])⟩
      refine wl<|bR<|kl<|bn<|tn<|?_;replace h:=iY (x:=(J r2 g6.toNat)) h;replace h:=(h.m1).iK;exact λ_ r=>⟨(),54,gE H,r.fj (h.se 2 [0])⟩
     refine aL [vB ((J Y.ai g6.toNat).aN==7),vB ((J Y.ai g6.toNat).aN==7)]<|G<|dW H (λAU H=>?_) λAU H=>?_
     ·refine wq<|qg H λvh H=>?_;obtain⟨aeP,h⟩:=h.m1.nq (bl vh);obtain⟨Ad,C2,RX,h⟩:=n9 (h.m1);subst RX;refine qg H λAM H=>mP [(dQ x4,g6.toNat*1,[be Ad (J r2 g6.toNat).length C2]),(OS,2,[Z (J Y.ai g6.toNat).B]),(dQ Ad,(J Y.ai g6.toNat).B.toNat*1,[Z (J (J r2 g6.toNat) (J Y.ai g6.toNat).B.toNat)])] [2,4,6] 10 h (λh=>⟨⟨(h.pick 1).qt eC (f:=0) rfl,bP⟩,⟨(h.pick 2).cell 2 rfl,bP⟩,⟨h.cG aG (f:=0) (bl AM) rfl,bP⟩,bP⟩) λw h hd =>mz hd 8 [(0,36,be x4 r2.length x5),(1,37,Z g6)]<|ny hd 7 2 rfl (mV x4 g6 1) (λw=>xN (k:=.i64) (E:=28) rfl aZ aZ aZ aZ (h.pick 1) vh)<|mz hd 6 [(4,40,pA OS 2)]<|eY hd 0 5 3 rfl<|eY hd 1 4 5 rfl<|ny hd 3 6 rfl (pA (dQ Ad) ((J Y.ai g6.toNat).B.toNat*1)) (λw=>ud 3 rfl h AM)<|eY hd 2 2 7 rfl<|ny hd 1 8 rfl (Z (iB (J (J r2 g6.toNat) (J Y.ai g6.toNat).B.toNat) (3:Int))) (λw=>rand rfl aZ aZ)<|mz hd 0 [(9,45,vB ((iB (J (J r2 g6.toNat) (J Y.ai g6.toNat).B.toNat) (3:Int)) != 0))]<|mT<|tn<|rD H (λu3 H=>?_) λu3 H=>?_
      ·refine wk<|bn<|tn<|?_;replace h:=iY (x:=(J r2 g6.toNat)) h;replace h:=(h.m1).iK;exact λ_ r=>⟨(),0,gE H,r.fj (h.se 2 [0])⟩
      refine wl<|bR<|kl<|bn<|tn<|?_;replace h:=iY (x:=(J r2 g6.toNat)) h;replace h:=(h.m1).iK;exact λ_ r=>⟨(),55,gE H,r.fj (h.se 2 [0])⟩
     refine aL [vB ((J Y.ai g6.toNat).aN==9),vB ((J Y.ai g6.toNat).aN==9)]<|G<|dW H (λxD H=>?_) λxD H=>?_
     ·refine ks<|qg H λFo H=>ko dk<|kp (mV x4 g6 1) (Hs (k:=.i64) (E:=28) rfl aZ aZ aZ aZ (h.pick 1) Fo)<|?_;obtain⟨aeQ,h⟩:=h.m1.nq (bl Fo);obtain⟨GZ,G0,Lb,h⟩:=n9 (h.m1);subst Lb;refine zu (be GZ (J r2 g6.toNat).length G0) ((h.pick 1).qt eC (f:=0) rfl)<|?_;refine ko [Z (((J r2 g6.toNat).length:Nat):Int),U]<|G<|wb<|λ_ r=>dz (β:=Nat) id (λm a w=>∃oI:Int,∃C7:Int,(jI K r2 g6 m oI C7)=some o14/\∃j,kX 70 (lk [(0,Z O),(4,be x4 r2.length x5),(5,Z g6),(7,Z oI),(13,be dy Y.ai.length dG),(14,Z ((Y.ai.length:Nat):Int)),(15,Z g6),(51,be GZ (J r2 g6.toNat).length G0),(52,Z (((J r2 g6.toNat).length:Nat):Int)),(53,Z C7)] j) a/\Fit z (aC (Ce 28 1 j1 (be x4 r2.length x5) r2 g6.toNat [be GZ (J r2 g6.toNat).length G0]::y9 GZ G0 (J r2 g6.toNat)::L)) w) K ⟨0,0,H,r.fj (h.se 3 [1,0])⟩<|?_;clear h r H;rintro k2 a w ⟨oI,C7,H,j,r,h⟩;cases k2 with
      | zero=>exact absurd H (by simp[jI])
      | succ k2 =>
       rw[jI]at H;refine qq r<|aL [dH (C7<(((J r2 g6.toNat).length:Nat):Int))]<|G<|wq<|dW H (λMf H=>?_) λMf H=>?_
       ·refine gq<|wq<|wb<|ks<|qg H λKv H=>ki (h.pick 1) Kv<|zu (Z (J (J r2 g6.toNat) C7.toNat)) ((h.pick 1).cG aG (f:=0) (bl Kv) rfl)<|?_;refine bR<|G<|aL [U]<|kp (Z (iB (J (J r2 g6.toNat) C7.toNat) (2:Int))) (rand rfl aZ aZ)<|ko [vB ((iB (J (J r2 g6.toNat) C7.toNat) (2:Int)) != 0)]<|G<|rD H (λAf H=>?_) λAf H=>?_
        ·refine wk<|bn<|tn<|wl<|ko [Z (wi (C7+1)),Z (wi (C7+1))]<|G<|?_;exact λ_ r=>⟨_,⟨oI,(wi (C7+1)),H,r.fj h⟩,iI _⟩
        refine wl<|bR<|kl<|bn<|tn<|wl<|ko [Z (wi (C7+1)),Z (wi (C7+1))]<|G<|?_;exact λ_ r=>⟨_,⟨56,(wi (C7+1)),H,r.fj h⟩,iI _⟩
       refine wx<|te<|te<|bh<|bn<|tn<|qh h.m1 λh=>?_;replace h:=iY (x:=(J r2 g6.toNat)) h;replace h:=(h.m1).iK;exact λ_ r=>⟨(),oI,gE H,r.fj h⟩
     refine wk<|bn<|tn<|?_;exact λ_ r=>⟨(),0,gE H,r.fj (h.se 2 [1])⟩
    clear h r;rintro _ a w ⟨mL,rfl,j,r,h⟩;replace H:=Ek Z6;refine qq r<|aL [U,vB (mL != 0)]<|G<|rD H (λC6 H=>?_) λC6 H=>?_
    ·refine wk<|bn<|tn<|?_;exact λ_ r=>⟨(),gE H,r.fj h⟩
    refine wl<|ko u6_<|λ_ r=>FC (wn rfl) r rfl (T:=194) (u:=oH #[Z mL,Z O,Z g6]) aZ<|uH<|oE<|oE<|uH<|CU r<|?_;replace H:=xm H Nc;cases H
   clear h r;rintro _ a w ⟨rfl,j,r,h⟩;replace H:=GA Nc;refine qq r<|wl<|ko [Z (wi (g6+1)),Z (wi (g6+1))]<|G<|?_;exact λ_ r=>⟨_,⟨(wi (g6+1)),H,r.fj h⟩,iI _⟩
  refine wx<|te<|te<|bh<|?_;cases H;exact Il (h.se 1 [])
theorem Iy{K:Nat}{O:Int}{Y:aB}{dy:fP}{dG:Nat}{rP:nW}(H:wc K O Y=some (.inr rP))(h:iQ z (L) w)(fc:bJ L 5 cY dy Y.ai)(vP:bJ L 5 gT (some ⟨1,0,none⟩) yK) :
 Calls Tryz.prog 116 #[Z O,oH #[Z Y.aS,Z Y.dw,Z Y.bM,be dy Y.ai.length dG]] w λe w=>e=.panicked [{v:=if_ 194 (Bw rP),recovered:=false}]/\Fit z (aC (L)) w:=by
 unfold wc at H;refine ke func116 70 rfl λj=>ks<|kN h (#[Z Y.aS,Z Y.dw,Z Y.bM,be dy Y.ai.length dG]) 99 λb1 w h=>G<|ks<|kM h<|gf H λr2 e3 H=>Up (Cr (bB:=dy) (bY:=dG) (cO:=(bJ.up 1 fc)) (vP:=bJ.up 1 vP) e3 h :) λx4 x5 w h=>bR<|G<|aL [U]<|kL (h.pick 1) 3<|ko [Z ((Y.ai.length:Nat):Int),U]<|G<|wb<|λ_ r=>dz (β:=Nat) id (λm a w=>∃g6:Int,(lZ K O Y r2 m g6)=some (.inr rP)/\∃j,kX 70 (lk [(0,Z O),(4,be x4 r2.length x5),(13,be dy Y.ai.length dG),(14,Z ((Y.ai.length:Nat):Int)),(15,Z g6)] j) a/\Fit z (aC (K5 x4 x5 r2::L)) w) K ⟨0,H,r.fj (h.se 2 [0])⟩<|?_;clear h r H;rintro k1 a w ⟨g6,H,j,r,h⟩;cases k1 with
 | zero=>exact absurd H (by simp[lZ])
 | succ k1 =>
  rw[lZ]at H;refine qq r<|aL [dH (g6<((Y.ai.length:Nat):Int))]<|G<|wq<|dW H (λc7 H=>?_) λc7 H=>?_
  ·refine gq<|?_;obtain⟨o9,H,Nc⟩:=Gz H;refine λ_ r=>dh (β:=Unit) (λ_ a w=>.inl ()=o9/\∃j,kX 70 (lk [(0,Z O),(4,be x4 r2.length x5),(13,be dy Y.ai.length dG),(14,Z ((Y.ai.length:Nat):Int)),(15,Z g6)] j) a/\Fit z (aC (K5 x4 x5 r2::L)) w) ?_ ?_
   ·refine qq r<|wb<|ks<|qg H λoO H=>bR<|kj 146 dG fc oO<|yb (gZ (J Y.ai g6.toNat)) (cs:=gI (J Y.ai g6.toNat)) ⟨fc.cell oO (h.dn 1) 0 rfl,fc.cell oO (h.dn 1) 1 rfl,fc.cell oO (h.dn 1) 2 rfl,fc.cell oO (h.dn 1) 3 rfl,fc.cell oO (h.dn 1) 4 rfl,bP⟩<|?_;refine kN h (C1) 146 λOS w h=>bR<|kA h (vS OS (J Y.ai g6.toNat)) λw h=>G<|ig<|El H λo14 H Z6=>λ_ r=>dh (β:=Unit) (λ_ a w=>∃mL:Int,mL=o14/\∃j,kX 70 (lk [(0,Z O),(4,be x4 r2.length x5),(5,Z g6),(7,Z mL),(13,be dy Y.ai.length dG),(14,Z ((Y.ai.length:Nat):Int)),(15,Z g6)] j) a/\Fit z (aC (K5 x4 x5 r2::L)) w) ?_ ?_
    ·refine qq r<|aL [U]<|kL h 0<|G<|wb<|aL [vB ((J Y.ai g6.toNat).aN==5),vB ((J Y.ai g6.toNat).aN==5)]<|G<|dW H (λpJ H=>?_) λpJ H=>?_
     ·refine wq<|qg H λu7 H=>?_;obtain⟨acz,h⟩:=h.m1.nq (bl u7);obtain⟨FQ,O1,Kt,h⟩:=n9 (h.m1);subst Kt;refine qg H λsy H=>mP [(dQ x4,g6.toNat*1,[be FQ (J r2 g6.toNat).length O1]),(OS,1,[Z (J Y.ai g6.toNat).A]),(dQ FQ,(J Y.ai g6.toNat).A.toNat*1,[Z (J (J r2 g6.toNat) (J Y.ai g6.toNat).A.toNat)])] [2,4,6] 10 h (λh=>⟨⟨(h.pick 1).qt eC (f:=0) rfl,bP⟩,⟨(h.pick 2).cell 1 rfl,bP⟩,⟨h.cG aG (f:=0) (bl sy) rfl,bP⟩,bP⟩) λw h hd =>mz hd 8 [(0,24,be x4 r2.length x5),(1,25,Z g6)]<|ny hd 7 2 rfl (mV x4 g6 1) (λw=>xN (k:=.i64) (E:=28) rfl aZ aZ aZ aZ (h.pick 1) u7)<|mz hd 6 [(4,28,pA OS 1)]<|eY hd 0 5 3 rfl<|eY hd 1 4 5 rfl<|ny hd 3 6 rfl (pA (dQ FQ) ((J Y.ai g6.toNat).A.toNat*1)) (λw=>ud 3 rfl h sy)<|eY hd 2 2 7 rfl<|ny hd 1 8 rfl (Z (iB (J (J r2 g6.toNat) (J Y.ai g6.toNat).A.toNat) (2:Int))) (λw=>rand rfl aZ aZ)<|mz hd 0 [(9,33,vB ((iB (J (J r2 g6.toNat) (J Y.ai g6.toNat).A.toNat) (2:Int)) != 0))]<|mT<|tn<|rD H (λFG H=>?_) λFG H=>?_
      ·refine wk<|bn<|tn<|?_;replace h:=iY (x:=(J r2 g6.toNat)) h;replace h:=(h.m1).iK;exact λ_ r=>⟨(),0,gE H,r.fj (h.se 2 [0])⟩
      refine wl<|bR<|kl<|bn<|tn<|?_;replace h:=iY (x:=(J r2 g6.toNat)) h;replace h:=(h.m1).iK;exact λ_ r=>⟨(),54,gE H,r.fj (h.se 2 [0])⟩
     refine aL [vB ((J Y.ai g6.toNat).aN==7),vB ((J Y.ai g6.toNat).aN==7)]<|G<|dW H (λAU H=>?_) λAU H=>?_
     ·refine wq<|qg H λvh H=>?_;obtain⟨aeP,h⟩:=h.m1.nq (bl vh);obtain⟨Ad,C2,RX,h⟩:=n9 (h.m1);subst RX;refine qg H λAM H=>mP [(dQ x4,g6.toNat*1,[be Ad (J r2 g6.toNat).length C2]),(OS,2,[Z (J Y.ai g6.toNat).B]),(dQ Ad,(J Y.ai g6.toNat).B.toNat*1,[Z (J (J r2 g6.toNat) (J Y.ai g6.toNat).B.toNat)])] [2,4,6] 10 h (λh=>⟨⟨(h.pick 1).qt eC (f:=0) rfl,bP⟩,⟨(h.pick 2).cell 2 rfl,bP⟩,⟨h.cG aG (f:=0) (bl AM) rfl,bP⟩,bP⟩) λw h hd =>mz hd 8 [(0,36,be x4 r2.length x5),(1,37,Z g6)]<|ny hd 7 2 rfl (mV x4 g6 1) (λw=>xN (k:=.i64) (E:=28) rfl aZ aZ aZ aZ (h.pick 1) vh)<|mz hd 6 [(4,40,pA OS 2)]<|eY hd 0 5 3 rfl<|eY hd 1 4 5 rfl<|ny hd 3 6 rfl (pA (dQ Ad) ((J Y.ai g6.toNat).B.toNat*1)) (λw=>ud 3 rfl h AM)<|eY hd 2 2 7 rfl<|ny hd 1 8 rfl (Z (iB (J (J r2 g6.toNat) (J Y.ai g6.toNat).B.toNat) (3:Int))) (λw=>rand rfl aZ aZ)<|mz hd 0 [(9,45,vB ((iB (J (J r2 g6.toNat) (J Y.ai g6.toNat).B.toNat) (3:Int)) != 0))]<|mT<|tn<|rD H (λu3 H=>?_) λu3 H=>?_
      ·refine wk<|bn<|tn<|?_;replace h:=iY (x:=(J r2 g6.toNat)) h;replace h:=(h.m1).iK;exact λ_ r=>⟨(),0,gE H,r.fj (h.se 2 [0])⟩
      refine wl<|bR<|kl<|bn<|tn<|?_;replace h:=iY (x:=(J r2 g6.toNat)) h;replace h:=(h.m1).iK;exact λ_ r=>⟨(),55,gE H,r.fj (h.se 2 [0])⟩
     refine aL [vB ((J Y.ai g6.toNat).aN==9),vB ((J Y.ai g6.toNat).aN==9)]<|G<|dW H (λxD H=>?_) λxD H=>?_
     ·refine ks<|qg H λFo H=>ko dk<|kp (mV x4 g6 1) (Hs (k:=.i64) (E:=28) rfl aZ aZ aZ aZ (h.pick 1) Fo)<|?_;obtain⟨aeQ,h⟩:=h.m1.nq (bl Fo);obtain⟨GZ,G0,Lb,h⟩:=n9 (h.m1);subst Lb;refine zu (be GZ (J r2 g6.toNat).length G0) ((h.pick 1).qt eC (f:=0) rfl)<|?_;refine ko [Z (((J r2 g6.toNat).length:Nat):Int),U]<|G<|wb<|λ_ r=>dz (β:=Nat) id (λm a w=>∃oI:Int,∃C7:Int,(jI K r2 g6 m oI C7)=some o14/\∃j,kX 70 (lk [(0,Z O),(4,be x4 r2.length x5),(5,Z g6),(7,Z oI),(13,be dy Y.ai.length dG),(14,Z ((Y.ai.length:Nat):Int)),(15,Z g6),(51,be GZ (J r2 g6.toNat).length G0),(52,Z (((J r2 g6.toNat).length:Nat):Int)),(53,Z C7)] j) a/\Fit z (aC (Ce 28 1 j1 (be x4 r2.length x5) r2 g6.toNat [be GZ (J r2 g6.toNat).length G0]::y9 GZ G0 (J r2 g6.toNat)::L)) w) K ⟨0,0,H,r.fj (h.se 3 [1,0])⟩<|?_;clear h r H;rintro k2 a w ⟨oI,C7,H,j,r,h⟩;cases k2 with
      | zero=>exact absurd H (by simp[jI])
      | succ k2 =>
       rw[jI]at H;refine qq r<|aL [dH (C7<(((J r2 g6.toNat).length:Nat):Int))]<|G<|wq<|dW H (λMf H=>?_) λMf H=>?_
       ·refine gq<|wq<|wb<|ks<|qg H λKv H=>ki (h.pick 1) Kv<|zu (Z (J (J r2 g6.toNat) C7.toNat)) ((h.pick 1).cG aG (f:=0) (bl Kv) rfl)<|?_;refine bR<|G<|aL [U]<|kp (Z (iB (J (J r2 g6.toNat) C7.toNat) (2:Int))) (rand rfl aZ aZ)<|ko [vB ((iB (J (J r2 g6.toNat) C7.toNat) (2:Int)) != 0)]<|G<|rD H (λAf H=>?_) λAf H=>?_
        ·refine wk<|bn<|tn<|wl<|ko [Z (wi (C7+1)),Z (wi (C7+1))]<|G<|?_;exact λ_ r=>⟨_,⟨oI,(wi (C7+1)),H,r.fj h⟩,iI _⟩
        refine wl<|bR<|kl<|bn<|tn<|wl<|ko [Z (wi (C7+1)),Z (wi (C7+1))]<|G<|?_;exact λ_ r=>⟨_,⟨56,(wi (C7+1)),H,r.fj h⟩,iI _⟩
       refine wx<|te<|te<|bh<|bn<|tn<|qh h.m1 λh=>?_;replace h:=iY (x:=(J r2 g6.toNat)) h;replace h:=(h.m1).iK;exact λ_ r=>⟨(),oI,gE H,r.fj h⟩
     refine wk<|bn<|tn<|?_;exact λ_ r=>⟨(),0,gE H,r.fj (h.se 2 [1])⟩
    clear h r;rintro _ a w ⟨mL,rfl,j,r,h⟩;replace H:=Ek Z6;refine qq r<|aL [U,vB (mL != 0)]<|G<|rD H (λC6 H=>?_) λC6 H=>?_
    ·refine wk<|bn<|tn<|?_;exact λ_ r=>⟨(),gE H,r.fj h⟩
    refine wl<|ko u6_<|λ_ r=>FC (wn rfl) r rfl (T:=194) (u:=oH #[Z mL,Z O,Z g6]) aZ<|uH<|oE<|oE<|uH<|CU r<|?_;replace H:=xm H Nc;replace H:=ejR H;subst H;exact⟨rfl,h.se 1 []⟩
   clear h r;rintro _ a w ⟨rfl,j,r,h⟩;replace H:=GA Nc;refine qq r<|wl<|ko [Z (wi (g6+1)),Z (wi (g6+1))]<|G<|?_;exact λ_ r=>⟨_,⟨(wi (g6+1)),H,r.fj h⟩,iI _⟩
  refine wx<|te<|te<|bh<|λ_ r=>qm rfl r<|?_;cases H
def oY(K:Nat)(O:aE):Nat->Int->Option ((Unit)⊕(fa))
 | 0,_=>none
 | k1+1,g9=>(if g9<((O.ah.length:Nat):Int)then if bI g9 O.ah.length then ei (vy (J O.ah g9.toNat)) (λxS=>(if xS=true then(oY K O k1 (wi (g9+1)))else some (.inr (⟨51,g9,0⟩:fa))))else none else some (.inl ()))
def oZ(K:Nat)(O:aE):Nat->Int->Option ((Unit)⊕(fa))
 | 0,_=>none
 | k2+1,s7=>(if s7<((O.ah.length:Nat):Int)then if bI s7 O.ah.length then ei (oq K s7 (J O.ah s7.toNat) O.ah) (λMg=>(match Mg with | .inl q24=>(oZ K O k2 (wi (s7+1))) | .inr q25=>some (.inr (⟨q25.FE,q25.D1,q25.Ip⟩:fa))))else none else some (.inl ()))
def q7(K:Nat)(O:aE):Nat->Int->Option (fa)
 | 0,_=>none
 | k3+1,wS=>(if wS<((O.ah.length:Nat):Int)then if bI wS O.ah.length then ei (wc K wS (J O.ah wS.toNat)) (λCk=>(match Ck with | .inl q32=>(q7 K O k3 (wi (wS+1))) | .inr q33=>some (⟨q33.FE,q33.D1,q33.Ip⟩:fa)))else none else some (⟨0,0,0⟩:fa))
def yx(K:Nat)(O:aE):Option (fa):=
 zZ ((if((O.ah.length:Nat):Int)<1 then some (.inr (⟨50,0,0⟩:fa))else(if((O.ah.length:Nat):Int)>32 then some (.inr (⟨50,0,0⟩:fa))else some (.inl ())))) (zZ ((oY K O K 0)) (zZ ((oZ K O K 0)) ((q7 K O K 0))))
theorem JB(H:yx K O=some r0)(h:iQ z (L) w)(aQ:yP L aV aF O.ah)(vP:bJ L 5 gT (some ⟨1,0,none⟩) yK) :
 nK 74 #[oH #[be aV O.ah.length bu]] w z (Ci r0) (L):=by
 unfold yx at H;refine ZT func74 rfl 62 rfl rfl [(0,oH #[be aV O.ah.length bu])] ⟨rfl,bP⟩ λj _ r=>qq r<|ks<|kN h (#[be aV O.ah.length bu]) 24 λb1 w h=>kN h (#[Z 0,Z 0,Z 0]) 95 λb2 w h=>G<|aL [U]<|λ_ r=>Un (wn rfl) rfl r (q:={target:=.fn (.func 113) #[pA b2 0],args:=#[]}) aZ<|?_;refine G<|?_;obtain⟨o4,H,OT⟩:=Gz H;refine λ_ r=>dh (β:=Unit) (λ_ a w=>.inl ()=o4/\∃j,cX [MZ b2] 62 (lk [(1,pA b1 0),(2,pA b2 0)] j) a/\Fit z (aC (gh b1 #[be aV O.ah.length bu] 24::gh b2 #[Z 0,Z 0,Z 0] 95::L)) w) ?_ ?_
 ·refine qq r<|aL [U]<|kL (h.pick 1) 0<|ko [Z ((O.ah.length:Nat):Int),dH (((O.ah.length:Nat):Int)<1),dH (((O.ah.length:Nat):Int)<1)]<|qI H (λc5 H=>?_) λc5 H=>?_
  ·refine cx (dT c5) [15,16,17,18]<|oN (dT c5) (vB true)<|G<|λ_ r=>gQ r (b:=true) rfl<|qq r<|aL [U]<|kA h (gh b2 #[Z 50,Z 0,Z 0] 95) λw h=>bW<|tr<|λ_ r=>AK r rfl aZ h<|?_;replace H:=xm H OT;cases H;exact⟨rfl,h.se 2 []⟩
  refine dg (dF c5) [15] [pA b1 0]<|vM (dF c5) (h.pick 1) 0<|dg (dF c5) [17,18] [Z ((O.ah.length:Nat):Int),dH (((O.ah.length:Nat):Int)>32)]<|oC (dF c5) (dH (((O.ah.length:Nat):Int)>32))<|G<|dW H (λc6 H=>?_) λc6 H=>?_
  ·refine aL [U]<|kA h (gh b2 #[Z 50,Z 0,Z 0] 95) λw h=>bW<|tr<|λ_ r=>AK r rfl aZ h<|?_;replace H:=xm H OT;cases H;exact⟨rfl,h.se 2 []⟩
  refine gq<|?_;exact λ_ r=>⟨(),gE H,r.fj (h.se 2 [1,0])⟩
 clear h r;rintro _ a w ⟨rfl,j,r,h⟩;replace H:=GA OT;obtain⟨o8,H,Ld⟩:=Gz H;refine dh (β:=Unit) (λ_ a w=>.inl ()=o8/\∃j,cX [MZ b2] 62 (lk [(1,pA b1 0),(2,pA b2 0)] j) a/\Fit z (aC (gh b1 #[be aV O.ah.length bu] 24::gh b2 #[Z 0,Z 0,Z 0] 95::L)) w) ?_ ?_
 ·refine qq r<|aL [U]<|kL h 0<|ko [Z ((O.ah.length:Nat):Int),U]<|G<|wb<|λ_ r=>dz (β:=Nat) id (λm a w=>∃g9:Int,(oY K O m g9)=some o8/\∃j,cX [MZ b2] 62 (lk [(1,pA b1 0),(2,pA b2 0),(22,be aV O.ah.length bu),(23,Z ((O.ah.length:Nat):Int)),(24,Z g9)] j) a/\Fit z (aC (gh b1 #[be aV O.ah.length bu] 24::gh b2 #[Z 0,Z 0,Z 0] 95::L)) w) K ⟨0,H,r.fj h⟩<|?_;clear h r H;rintro k1 a w ⟨g9,H,j,r,h⟩;cases k1 with
  | zero=>exact absurd H (by simp[oY])
  | succ k1 =>
   rw[oY]at H;refine qq r<|aL [dH (g9<((O.ah.length:Nat):Int))]<|G<|wq<|dW H (λoO H=>?_) λoO H=>?_
   ·refine gq<|wq<|wb<|ks<|qg H λu6 H=>bR<|kp (pA (dQ aV) (jl aV+g9.toNat*4)) (C0 99 bu rfl rfl aQ u6)<|yb (oH #[Z (J O.ah g9.toNat).aS,Z (J O.ah g9.toNat).dw,Z (J O.ah g9.toNat).bM,be ((aF g9.toNat).1) (J O.ah g9.toNat).ai.length ((aF g9.toNat).2)]) (cs:=[Z (J O.ah g9.toNat).aS,Z (J O.ah g9.toNat).dw,Z (J O.ah g9.toNat).bM,be ((aF g9.toNat).1) (J O.ah g9.toNat).ai.length ((aF g9.toNat).2)]) ⟨aQ.cell u6 (h.dn 2) 0 rfl,aQ.cell u6 (h.dn 2) 1 rfl,aQ.cell u6 (h.dn 2) 2 rfl,aQ.cell u6 (h.dn 2) 3 rfl,bP⟩<|?_;refine kN h (#[Z 0,Z 0,Z 0,be none 0 0]) 99 λux w h=>bR<|kA h (rW ux (J O.ah g9.toNat) ((aF g9.toNat).1) ((aF g9.toNat).2)) λw h=>G<|ks<|kM h<|gf H λxS Iz H=>fh (GV (bB:=((aF g9.toNat).1)) (bY:=((aF g9.toNat).2)) (cO:=(bJ.up 3 (aQ.vp u6))) Iz h :) λw h=>ko [vB (!xS)]<|G<|FD H (λpJ H=>?_) λpJ H=>?_
    ·refine wk<|bn<|tn<|wl<|ko [Z (wi (g9+1)),Z (wi (g9+1))]<|G<|?_;exact λ_ r=>⟨_,⟨(wi (g9+1)),H,r.fj (h.se 3 [1,2])⟩,iI _⟩
    refine aL dk<|qh h.m2 λh=>kA h (gh b2 #[Z 51,Z g9,Z 0] 95) λw h=>bW<|br<|tr<|tr<|br<|tr<|λ_ r=>AK r rfl aZ h<|?_;replace H:=xm H Ld;cases H;exact⟨rfl,h.se 3 []⟩
   refine wx<|te<|te<|bh<|tn<|?_;exact λ_ r=>⟨(),gE H,r.fj h⟩
 clear h r;rintro _ a w ⟨rfl,j,r,h⟩;replace H:=GA Ld;obtain⟨Tu,H,G2⟩:=Gz H;refine dh (β:=Unit) (λ_ a w=>.inl ()=Tu/\∃j,cX [MZ b2] 62 (lk [(1,pA b1 0),(2,pA b2 0)] j) a/\Fit z (aC (gh b1 #[be aV O.ah.length bu] 24::gh b2 #[Z 0,Z 0,Z 0] 95::L)) w) ?_ ?_
 ·refine qq r<|aL [U]<|kL h 0<|ko [Z ((O.ah.length:Nat):Int),U]<|G<|wb<|λ_ r=>dz (β:=Nat) id (λm a w=>∃s7:Int,(oZ K O m s7)=some Tu/\∃j,cX [MZ b2] 62 (lk [(1,pA b1 0),(2,pA b2 0),(36,be aV O.ah.length bu),(37,Z ((O.ah.length:Nat):Int)),(38,Z s7)] j) a/\Fit z (aC (gh b1 #[be aV O.ah.length bu] 24::gh b2 #[Z 0,Z 0,Z 0] 95::L)) w) K ⟨0,H,r.fj h⟩<|?_;clear h r H;rintro k2 a w ⟨s7,H,j,r,h⟩;cases k2 with
  | zero=>exact absurd H (by simp[oZ])
  | succ k2 =>
   rw[oZ]at H;refine qq r<|aL [dH (s7<((O.ah.length:Nat):Int))]<|G<|wq<|dW H (λs6 H=>?_) λs6 H=>?_
   ·refine gq<|wq<|wb<|ks<|qg H λmW H=>bR<|kp (pA (dQ aV) (jl aV+s7.toNat*4)) (C0 99 bu rfl rfl aQ mW)<|yb (oH #[Z (J O.ah s7.toNat).aS,Z (J O.ah s7.toNat).dw,Z (J O.ah s7.toNat).bM,be ((aF s7.toNat).1) (J O.ah s7.toNat).ai.length ((aF s7.toNat).2)]) (cs:=[Z (J O.ah s7.toNat).aS,Z (J O.ah s7.toNat).dw,Z (J O.ah s7.toNat).bM,be ((aF s7.toNat).1) (J O.ah s7.toNat).ai.length ((aF s7.toNat).2)]) ⟨aQ.cell mW (h.dn 2) 0 rfl,aQ.cell mW (h.dn 2) 1 rfl,aQ.cell mW (h.dn 2) 2 rfl,aQ.cell mW (h.dn 2) 3 rfl,bP⟩<|?_;refine kN h (#[Z 0,Z 0,Z 0,be none 0 0]) 99 λb21 w h=>bR<|kA h (rW b21 (J O.ah s7.toNat) ((aF s7.toNat).1) ((aF s7.toNat).2)) λw h=>G<|wl<|bR<|kM h<|bR<|kL (h.pick 1) 0<|gf H λMg BM H=>?_;cases Mg with
    | inl q24 =>
     refine fh (BK (vA:=aV) (xh:=bu) (BT:=(xO.up 3 aQ)) (dy:=((aF s7.toNat).1)) (dG:=((aF s7.toNat).2)) (fc:=(bJ.up 3 (aQ.vp mW))) (vP:=bJ.up 3 vP) (Wu:=aF) BM h :) λw h=>kl<|bn<|tn<|wl<|ko [Z (wi (s7+1)),Z (wi (s7+1))]<|G<|?_;exact λ_ r=>⟨_,⟨(wi (s7+1)),H,r.fj (h.se 3 [1,2])⟩,iI _⟩
    | inr q25 =>
     have hc:=BL (vA:=aV) (xh:=bu) (BT:=(xO.up 3 aQ)) (dy:=((aF s7.toNat).1)) (dG:=((aF s7.toNat).2)) (fc:=(bJ.up 3 (aQ.vp mW))) (vP:=bJ.up 3 vP) (Wu:=aF) (H:=BM) (h:=h);intro _ r;refine MT (wn rfl) r (f:=115) (args:=#[Z s7,oH #[Z (J O.ah s7.toNat).aS,Z (J O.ah s7.toNat).dw,Z (J O.ah s7.toNat).bM,be ((aF s7.toNat).1) (J O.ah s7.toNat).ai.length ((aF s7.toNat).2)],be aV O.ah.length bu]) aZ hc ?_;clear hc h;rintro _ w ⟨rfl,h⟩;refine⟨_,rfl,?_⟩;refine uH<|oE<|oE<|uH<|oE<|qh h.m2 λh=>Ik r rfl aZ h λw h=>?_;replace H:=xm H G2;cases H;exact⟨rfl,h.se 3 []⟩
   refine wx<|te<|te<|bh<|tn<|?_;exact λ_ r=>⟨(),gE H,r.fj h⟩
 clear h r;rintro _ a w ⟨rfl,j,r,h⟩;replace H:=GA G2;refine qq r<|wq<|aL [U]<|kL h 0<|ko [Z ((O.ah.length:Nat):Int),U]<|G<|wb<|λ_ r=>dz (β:=Nat) id (λm a w=>∃wS:Int,(q7 K O m wS)=some r0/\∃j,cX [MZ b2] 62 (lk [(2,pA b2 0),(50,be aV O.ah.length bu),(51,Z ((O.ah.length:Nat):Int)),(52,Z wS)] j) a/\Fit z (aC (gh b2 #[Z 0,Z 0,Z 0] 95::L)) w) K ⟨0,H,r.fj (h.se 2 [1])⟩<|?_;clear h r H;rintro k3 a w ⟨wS,H,j,r,h⟩;cases k3 with
 | zero=>exact absurd H (by simp[q7])
 | succ k3 =>
  rw[q7]at H;refine qq r<|aL [dH (wS<((O.ah.length:Nat):Int))]<|G<|wq<|dW H (λsP H=>?_) λsP H=>?_
  ·refine gq<|wq<|wb<|ks<|qg H λC8 H=>bR<|kp (pA (dQ aV) (jl aV+wS.toNat*4)) (C0 99 bu rfl rfl aQ C8)<|yb (oH #[Z (J O.ah wS.toNat).aS,Z (J O.ah wS.toNat).dw,Z (J O.ah wS.toNat).bM,be ((aF wS.toNat).1) (J O.ah wS.toNat).ai.length ((aF wS.toNat).2)]) (cs:=[Z (J O.ah wS.toNat).aS,Z (J O.ah wS.toNat).dw,Z (J O.ah wS.toNat).bM,be ((aF wS.toNat).1) (J O.ah wS.toNat).ai.length ((aF wS.toNat).2)]) ⟨aQ.cell C8 (h.dn 1) 0 rfl,aQ.cell C8 (h.dn 1) 1 rfl,aQ.cell C8 (h.dn 1) 2 rfl,aQ.cell C8 (h.dn 1) 3 rfl,bP⟩<|?_;refine kN h (#[Z 0,Z 0,Z 0,be none 0 0]) 99 λb29 w h=>bR<|kA h (rW b29 (J O.ah wS.toNat) ((aF wS.toNat).1) ((aF wS.toNat).2)) λw h=>G<|wl<|bR<|kM h<|gf H λCk Ws H=>?_;cases Ck with
   | inl q32 =>
    refine fh (Ix (dy:=((aF wS.toNat).1)) (dG:=((aF wS.toNat).2)) (fc:=(bJ.up 2 (aQ.vp C8))) (vP:=bJ.up 2 vP) Ws h :) λw h=>kl<|bn<|tn<|wl<|ko [Z (wi (wS+1)),Z (wi (wS+1))]<|G<|?_;exact λ_ r=>⟨_,⟨(wi (wS+1)),H,r.fj (h.se 2 [1])⟩,iI _⟩
   | inr q33 =>
    have hc:=Iy (dy:=((aF wS.toNat).1)) (dG:=((aF wS.toNat).2)) (fc:=(bJ.up 2 (aQ.vp C8))) (vP:=bJ.up 2 vP) (H:=Ws) (h:=h);intro _ r;refine MT (wn rfl) r (f:=116) (args:=#[Z wS,oH #[Z (J O.ah wS.toNat).aS,Z (J O.ah wS.toNat).dw,Z (J O.ah wS.toNat).bM,be ((aF wS.toNat).1) (J O.ah wS.toNat).ai.length ((aF wS.toNat).2)]]) aZ hc ?_;clear hc h;rintro _ w ⟨rfl,h⟩;refine⟨_,rfl,?_⟩;refine uH<|oE<|oE<|uH<|oE<|qh h.m1 λh=>Ik r rfl aZ h λw h=>?_;cases H;exact⟨rfl,h.se 2 []⟩
  refine wx<|te<|te<|bh<|tn<|aL [U]<|kA h (gh b2 #[Z 0,Z 0,Z 0] 95) λw h=>bW<|λ_ r=>AK r rfl aZ h<|?_;cases H;exact⟨rfl,h.se 1 []⟩
def rI(O:Int):Option (Bool):=
 (if O>=1 then some (decide (O<=64))else some false)
theorem ze(H:rI O=some r0)(h:iQ z (L) w) :
 nK 75 #[Z O] w z (vB r0) (L):=by
 unfold rI at H;refine ke func75 9 rfl λj=>ig<|aL [U,dH (O>=1),dH (O>=1)]<|qI H (λc1 H=>?_) λc1 H=>?_
 ·refine dg (dT c1) [6,7] [Z O,dH (O<=64)]<|oN (dT c1) (dH (O<=64))<|ko [dH (O<=64)]<|bW<|?_;cases H;exact gj h
 refine cx (dF c1) [6,7]<|oC (dF c1) (vB false)<|bR<|bW<|?_;cases H;exact gj h
def rJ(O:eP):Option (Bool):=
 (if O.cB>=1 then(if O.cB<=4096 then(if(1:Int)<=O.dY then(if O.dY<=O.j0 then some (decide (O.j0<=4096))else some false)else some false)else some false)else some false)
theorem zg(H:rJ O=some r0)(h:iQ z (L) w) :
 nK 76 #[kU O] w z (vB r0) (L):=by
 unfold rJ at H;refine ke func76 28 rfl λj=>ks<|kN h (mg O) 27 λb1 w h=>bR<|G<|aL [U]<|kL h 0<|ko [dH (O.cB>=1),dH (O.cB>=1)]<|qI H (λc2 H=>?_) λc2 H=>?_
 ·refine dg (dT c2) [7] [pA b1 0]<|vM (dT c2) h 0<|dg (dT c2) [9] [dH (O.cB<=4096)]<|oN (dT c2) (dH (O.cB<=4096))<|ko [dH (O.cB<=4096)]<|qI H (λc3 H=>?_) λc3 H=>?_
  ·refine dg (dT c3) [12] [pA b1 1]<|vM (dT c3) h 1<|dg (dT c3) [14] [dH ((1:Int)<=O.dY)]<|oN (dT c3) (dH ((1:Int)<=O.dY))<|ko [dH ((1:Int)<=O.dY)]<|qI H (λc4 H=>?_) λc4 H=>?_
   ·refine dg (dT c4) [17] [pA b1 1]<|vM (dT c4) h 1<|dg (dT c4) [19] [pA b1 2]<|vM (dT c4) h 2<|dg (dT c4) [21] [dH (O.dY<=O.j0)]<|oN (dT c4) (dH (O.dY<=O.j0))<|ko [dH (O.dY<=O.j0)]<|qI H (λc5 H=>?_) λc5 H=>?_
    ·refine dg (dT c5) [24] [pA b1 2]<|vM (dT c5) h 2<|dg (dT c5) [26] [dH (O.j0<=4096)]<|oN (dT c5) (dH (O.j0<=4096))<|ko [dH (O.j0<=4096)]<|bW<|?_;cases H;exact gj (h.se 1 [])
    refine cx (dF c5) [24,25,26]<|oC (dF c5) (vB false)<|bR<|bW<|?_;cases H;exact gj (h.se 1 [])
   refine cx (dF c4) [17,18,19,20,21]<|oC (dF c4) (vB false)<|bR<|cx (rfl:false=false) [24,25,26]<|ko dk<|bW<|?_;cases H;exact gj (h.se 1 [])
  refine cx (dF c3) [12,13,14]<|oC (dF c3) (vB false)<|bR<|cx (rfl:false=false) [17,18,19,20,21]<|ko dk<|cx (rfl:false=false) [24,25,26]<|ko dk<|bW<|?_;cases H;exact gj (h.se 1 [])
 refine cx (dF c2) [7,8,9]<|oC (dF c2) (vB false)<|bR<|cx (rfl:false=false) [12,13,14]<|ko dk<|cx (rfl:false=false) [17,18,19,20,21]<|ko dk<|cx (rfl:false=false) [24,25,26]<|ko dk<|bW<|?_;cases H;exact gj (h.se 1 [])
def nY(K:Nat)(O:aE)(Y:List Int)(p2:Int)(p3:eP):Option (Int):=
 ei (yx K O) (λr3=>(if r3.zO=0 then if bI (0:Int) O.ah.length then(if((Y.length:Nat):Int)=(J O.ah 0).aS then ei (rI p2) (λr8=>(if r8=true then ei (rJ p3) (λu0=>(if u0=true then some 0 else some 111))else some 110))else some 61)else none else some 60))
theorem we(H:nY K O Y p2 p3=some r0)(h:iQ z (L) w)(aQ:yP L aV aF O.ah)(FL:bJ L 1 aH Ep Y)(vP:bJ L 5 gT (some ⟨1,0,none⟩) yK) :
 nK 50 #[oH #[be aV O.ah.length bu],be Ep Y.length GC,Z p2,kU p3] w z (Z r0) (L):=by
 unfold nY at H;refine ke func50 31 rfl λj=>ks<|kN h (#[be aV O.ah.length bu]) 24 λb1 w h=>kN h (mg p3) 27 λb2 w h=>bR<|G<|wq<|wb<|ks<|yb (oH #[be aV O.ah.length bu]) (cs:=[be aV O.ah.length bu]) ⟨(h.pick 1).cell 0 rfl,bP⟩<|?_;refine gf H λr3 e4 H=>fh (JB (aV:=aV) (bu:=bu) (aQ:=(xO.up 2 aQ)) (vP:=bJ.up 2 vP) (aF:=aF) e4 h :) λw h=>ko [U,vB (r3.zO != 0),vB (r3.zO != 0)]<|G<|rD H (λc5 H=>?_) λc5 H=>?_
 ·refine aL [U,Z ((Y.length:Nat):Int),U]<|kL (h.pick 1) 0<|qg H λc6 H=>kp (pA (dQ aV) (jl aV+0*4)) (C0 99 bu rfl rfl aQ c6)<|bR<|zu (Z (J O.ah 0).aS) (aQ.cell c6 (h.dn 2) 0 rfl)<|?_;refine ko [vB (((Y.length:Nat):Int) != (J O.ah 0).aS),vB (((Y.length:Nat):Int) != (J O.ah 0).aS)]<|G<|rD H (λc7 H=>?_) λc7 H=>?_
  ·refine ks<|gf H λr8 e9 H=>bR<|fh (ze e9 h :) λw h=>ko [vB (!r8),vB (!r8)]<|G<|FD H (λoO H=>?_) λoO H=>?_
   ·refine ks<|kM h<|gf H λu0 EM H=>fh (zg EM h :) λw h=>ko [vB (!u0),vB (!u0)]<|G<|FD H (λxQ H=>?_) λxQ H=>?_
    ·refine wk<|bn<|tn<|ig<|wr<|?_;cases H;exact gj (h.se 2 [])
    refine ig<|wr<|br<|tr<|?_;cases H;exact gj (h.se 2 [])
   refine ig<|wr<|br<|tr<|?_;cases H;exact gj (h.se 2 [])
  refine ig<|wr<|br<|tr<|?_;cases H;exact gj (h.se 2 [])
 refine ig<|wr<|br<|tr<|?_;cases H;exact gj (h.se 2 [])
def nr(O:af)(Y:Int):Option (Int):=
 (if Y<1 then some 21 else(if Y>(wi (O.nA-O.fE))then some 22 else some 0))
theorem AV(H:nr O Y=some r0)(h:iQ z (gO B0 O jx jB jG mc L) w) :
 nK 261 #[pA B0 0,Z Y] w z (Z r0) (gO B0 O jx jB jG mc L):=by
 unfold nr at H;refine ke func261 22 rfl λj=>ig<|wq<|aL [U,dH (Y<1)]<|G<|dW H (λc5 H=>?_) λc5 H=>?_
 ·refine ig<|wr<|tr<|?_;cases H;exact gj h
 refine gq<|wq<|wq<|mP [(B0,0,[Z O.nA]),(B0,1,[Z O.fE])] [1,5,6,9,10] 15 h (λh=>⟨⟨h.cell 0 rfl,bP⟩,⟨h.cell 1 rfl,bP⟩,bP⟩) λw h hd =>lY hd 12 7 [([0],pA B0 0),([1,2],vB false)]<|λ_ r=>CS hd 11 3 rfl (mB r (c:=false) rfl) r (Z Y)<|?_;refine λ_ r=>CS hd 10 4 rfl (mB r (c:=false) rfl) r (pA B0 0)<|?_;refine λ_ r=>CS hd 9 5 rfl (mB r (c:=false) rfl) r (pA B0 0)<|?_;refine λ_ r=>CS hd 8 6 rfl (mB r (c:=false) rfl) r (pA B0 0)<|?_;refine λ_ r=>CS hd 7 8 rfl (mB r (c:=false) rfl) r (pA B0 0)<|?_;refine λ_ r=>CS hd 6 9 rfl (mB r (c:=false) rfl) r (pA B0 0)<|?_;refine λ_ r=>CS hd 5 10 rfl (mB r (c:=false) rfl) r (pA B0 1)<|?_;refine λ_ r=>W1 hd 0 4 7 r (mB r (c:=false) rfl) rfl rfl<|?_;refine λ_ r=>W1 hd 1 3 11 r (mB r (c:=false) rfl) rfl rfl<|?_;refine λ_ r=>CS hd 2 12 rfl (mB r (c:=false) rfl) r (Z (wi (O.nA-O.fE)))<|?_;refine λ_ r=>CS hd 1 13 rfl (mB r (c:=false) rfl) r (dH (Y>(wi (O.nA-O.fE))))<|?_;refine mz hd 0 [(14,21,dH (Y>(wi (O.nA-O.fE))))]<|mT<|tn<|dW H (λc6 H=>?_) λc6 H=>?_
 ·refine ig<|wr<|tr<|?_;cases H;exact gj h
 refine gq<|ig<|wr<|?_;cases H;exact gj h
def qE(O:af)(Y:Int):Option (Int×af):=
 some (O.fE,{O with fE:=wi (O.fE+Y)})
theorem Cs(H:qE O Y=some (r0,q0))(h:iQ z (gO B0 O jx jB jG mc L) w) :
 yL 262 #[pA B0 0,Z Y] w z (Z r0) λx1 x2 x3 x4=>gO B0 q0 x1 x2 x3 x4 L:=by
 unfold qE at H;refine ke func262 19 rfl λj=>ig<|aL kW<|kL h 1<|bR<|G<|aL kW<|kL h 1<|ko [U,Z (wi (O.fE+Y)),U,U]<|kS h 1 (gh B0 #[Z O.nA,Z (wi (O.fE+Y)),be jx O.cell.length jB,be jG O.log.length mc,Z O.ua,vB O.watched] 92) λw h=>G<|aL dk<|bW<|?_;cases H;exact Jl jx jB jG mc h
def gz(O:af)(Y:Int)(p2:Int)(p3:Int)(p4:Int)(p5:Bool):Option (af):=
 (if O.watched=true then if(O.log.length+1)*48<=140737488355328 then some ({O with log:=O.log++[(⟨O.ua,Y,p2,p3,p4,p5⟩:aW)]})else none else some O)
abbrev Xo (B:Nat) (S:af) (a2:fP) (c2:Nat) (a3:fP) (c3:Nat) (q:Nat):bj:=pts B (.cells #[Z S.nA,Z S.fE,.slice a2 S.cell.length c2,.slice a3 q c3,Z S.ua,vB S.watched] 92)
theorem nu(H:gz O Y p2 p3 p4 p5=some q0)(h:iQ z (gO B0 O jx jB jG mc L) w) :
 yL 260 #[pA B0 0,Z Y,Z p2,Z p3,Z p4,vB p5] w z (.tuple #[]) λx1 x2 x3 x4=>gO B0 q0 x1 x2 x3 x4 L:=by
 unfold gz at H;refine ke func260 35 rfl λj=>aL kW<|kL h 5<|G<|Em H (λc5 H=>?_) λc5 H=>?_
 ·refine qg H λc9 H=>mP [(B0,3,[be jG O.log.length mc]),(B0,4,[Z O.ua])] [2,3,6,7,14] 20 h (λh=>⟨⟨h.cell 3 rfl,bP⟩,⟨h.cell 4 rfl,bP⟩,bP⟩) λw h hd =>lY hd 8 16 [([0,1,2,5,6],pA B0 0),([3],pA B0 3),([7],pA B0 4),([9],Z Y),([10],Z p2),([11],Z p3),([12],Z p4),([13],vB p5)]<|eY hd 0 7 4 rfl<|eY hd 1 6 8 rfl<|mz hd 5 [(14,30,oH #[Z O.ua,Z Y,Z p2,Z p3,Z p4,vB p5])]<|lJ 15 rfl<|kV h (#[Z O.ua,Z Y,Z p2,Z p3,Z p4,vB p5]) 159 λb6 w h=>G<|λ_ r=>xE<|lD 16 rfl<|qh h.m3 λh=>j8 (n0:=O.log.length) (c:=1) (bytes:=48) (wn rfl) rfl rfl r rfl aZ aZ uc (E:=159) (xs:=O.log) aZ aZ h (news:=[(⟨O.ua,Y,p2,p3,p4,p5⟩:aW)]) (m:=1) rfl ((h.pick 1).news rfl) c9 rfl λlK mo w _ h r=>qq r<|G<|mA<|iM 2 17 rfl (pA B0 0)<|iM 1 18 rfl (pA B0 3)<|lJ 19 rfl<|qh h.m2 λh=>kS h 3 (Xo B0 O jx jB lK mo ((O.log++[(⟨O.ua,Y,p2,p3,p4,p5⟩:aW)]).length)) λw h=>G<|mA<|mT<|?_;cases H;exact xv4 jx jB lK mo (h.se 4 [0,3,1])
 refine wk<|?_;cases H;exact xv4 jx jB jG mc h
def fY(O:af)(Y:Int):Option (Int×Int×af):=
 OC (some ()) (ei (nr O Y) (λr7=>(if r7=0 then tN (qE O Y) (λzw Ct=>if 0<=Y/\(Ct.cell.length+Y.toNat)*8<=140737488355328 then ei (gz ({Ct with cell:=Ct.cell++List.replicate Y.toNat (0:Int)}) 4 zw Y 0 true) (λgN=>some (zw,0,gN))else none)else some (0,r7,O))))
abbrev Hy (B:Nat) (S:af) (a2:fP) (c2:Nat) (a3:fP) (c3:Nat) (q:Nat):bj:=pts B (.cells #[Z S.nA,Z S.fE,.slice a2 q c2,.slice a3 S.log.length c3,Z S.ua,vB S.watched] 92)
theorem nh(H:fY O Y=some (r0,r1,q0))(h:iQ z (gO B0 O jx jB jG mc L) w) :
 yL 257 #[pA B0 0,Z Y] w z (.tuple #[Z r0,Z r1]) λx1 x2 x3 x4=>gO B0 q0 x1 x2 x3 x4 L:=by
 unfold fY at H;refine ke func257 37 rfl λj=>aL dk<|G<|ig<|qd0 H λo6 H hK5=>λ_ r=>dh (β:=Unit) (λ_ a w=>()=o6/\∃j,kX 37 (lk [(0,pA B0 0),(1,Z Y),(6,pA B0 0)] j) a/\Fit z (aC (gO B0 O jx jB jG mc L)) w) ?_ ?_
 ·refine qq r<|aL dk<|G<|λ_ r=>gQ r (b:=true) rfl<|qq r<|wl<|ko xR<|G<|?_;exact λ_ r=>⟨(),gE H,r.fj h⟩
 clear h r;rintro _ a w ⟨rfl,j,r,h⟩;replace H:=kk0 hK5;refine qq r<|wq<|ks<|gf H λr7 e8 H=>ko dk<|fh (AV e8 h :) λw h=>bR<|G<|aL [U,vB (r7 != 0)]<|G<|rD H (λc9 H=>?_) λc9 H=>?_
 ·refine gq<|ks<|xB H λzw Ct EM H=>ko dk<|lQ (Cs EM h :) λxj yg Cu C9 w h=>bR<|G<|aL xR<|kL h 2<|bR<|qh h.m1 λh=>qg H λs6 H=>λ_ r=>RI (kx:=.i64) (n0:=Ct.cell.length) (i:=Y) (m:=Y.toNat) (bytes:=8) (zc:=#[Z 0]) (0:Int) (wn rfl) rfl rfl r rfl aZ aZ (Int.toNat_of_nonneg s6.1).symm aG (E:=2) (xs:=Ct.cell) aZ aZ aZ rfl h s6.2 rfl λFQ O1 w _ h r=>qq r<|ko dk<|qh h.m1 λh=>kS h 2 (Hy B0 Ct FQ O1 Cu C9 ((Ct.cell++List.replicate Y.toNat (0:Int)).length)) λw h=>G<|ks<|gf H λgN Le H=>ko kW<|lQ (nu Le h :) λnZ vQ Da FP w h=>G<|aL kW<|bW<|?_;cases H;exact BU nZ vQ Da FP h
 refine aL kW<|bW<|tr<|?_;cases H;exact BU jx jB jG mc h
def sA(O:Int):Option (Int):=
 (if O<1 then some 0 else(if O>4096 then some 0 else some (wi ((1:Int)+(wi (O*10))))))
theorem xp(H:sA O=some r0)(h:iQ z (L) w) :
 nK 107 #[Z O] w z (Z r0) (L):=by
 unfold sA at H;refine ke func107 12 rfl λj=>ig<|wq<|aL [U,dH (O<1),dH (O<1)]<|qI H (λc1 H=>?_) λc1 H=>?_
 ·refine cx (dT c1) [6,7]<|oN (dT c1) (vB true)<|G<|λ_ r=>gQ r (b:=true) rfl<|qq r<|ig<|wr<|tr<|?_;cases H;exact gj h
 refine dg (dF c1) [6,7] [Z O,dH (O>4096)]<|oC (dF c1) (dH (O>4096))<|G<|dW H (λc2 H=>?_) λc2 H=>?_
 ·refine ig<|wr<|tr<|?_;cases H;exact gj h
 refine gq<|aL [U,Z (wi (O*10)),Z (wi ((1:Int)+(wi (O*10)))),Z (wi ((1:Int)+(wi (O*10))))]<|bW<|?_;cases H;exact gj h
def gU(O:bq)(Y:Int):Option (Int):=
 some (wi ((wi (O.lA+1))+(wi (Y*10))))
theorem lR(H:gU O Y=some r0)(h:iQ z (L) w) :
 nK 117 #[fQ O,Z Y] w z (Z r0) (L):=by
 unfold gU at H;refine ke func117 11 rfl λj=>ks<|kN h (iq O) 104 λb1 w h=>bR<|G<|aL [U]<|kL h 0<|ko [Z (wi (O.lA+1)),U,Z (wi (Y*10)),Z (wi ((wi (O.lA+1))+(wi (Y*10)))),Z (wi ((wi (O.lA+1))+(wi (Y*10))))]<|bW<|?_;cases H;exact gj (h.se 1 [])
def rK(O:af)(Y:Int):Option (Bool):=
 (if Y>=0 then some (decide (Y<O.fE))else some false)
theorem Db(H:rK O Y=some r0)(h:iQ z (gO B0 O jx jB jG mc L) w) :
 nK 263 #[pA B0 0,Z Y] w z (vB r0) (gO B0 O jx jB jG mc L):=by
 unfold rK at H;refine ke func263 15 rfl λj=>ig<|aL [U,dH (Y>=0),dH (Y>=0)]<|qI H (λc5 H=>?_) λc5 H=>?_
 ·refine dg (dT c5) [8,9,10,11] [Z Y,pA B0 0,pA B0 0,pA B0 1]<|vM (dT c5) h 1<|dg (dT c5) [13] [dH (Y<O.fE)]<|oN (dT c5) (dH (Y<O.fE))<|ko [dH (Y<O.fE)]<|bW<|?_;cases H;exact gj h
 refine cx (dF c5) [8,9,10,11,12,13]<|oC (dF c5) (vB false)<|bR<|bW<|?_;cases H;exact gj h
def iC(O:af)(Y:Int):Option (Bool):=
 ei (rK O Y) (λr5=>some (!r5))
theorem oT(H:iC O Y=some r0)(h:iQ z (gO B0 O jx jB jG mc L) w) :
 nK 259 #[pA B0 0,Z Y] w z (vB r0) (gO B0 O jx jB jG mc L):=by
 unfold iC at H;refine ke func259 15 rfl λj=>ig<|ks<|gf H λr5 e6 H=>ko kW<|dg (rfl:false=false) [8,9,10,11] [pA B0 0,pA B0 0,pA B0 0,Z Y]<|xg0 (rfl:false=false) (Db e6 h :) λw h=>dg (rfl:false=false) [13] [vB (!r5)]<|ko [vB (!r5),vB (!r5)]<|bW<|?_;cases H;exact gj h
def eB(O:af)(Y:Int)(p2:Int):Option (Int×af):=
 ei (iC O Y) (λr5=>(if r5=true then some (20,O)else if bI Y O.cell.length then ei (gz ({O with cell:=O.cell.set Y.toNat p2}) 1 Y p2 0 true) (λOq=>some (0,Oq))else none))
theorem _root_.Go.Proofs.YtpikpffbcjpmcaaGreatDoor.SL.Fit.IA{α:Type}{e sz cc n:Nat}{enc:α->List Value}{ca:fP}{l:List α}{z w:World}{X:List bj}{B:Nat}{S:af}{a2:fP}{c2:Nat}{a3:fP}{c3:Nat}(h:Fit z (aC (rowOf e sz enc (.slice ca n cc) l::Hy B S a2 c2 a3 c3 n::X)) w):Fit z (aC (rowOf e sz enc (.slice ca l.length cc) l::Hy B S a2 c2 a3 c3 l.length::X)) w:=h.KY (Hy B S a2 c2 a3 c3)
theorem fI(H:eB O Y p2=some (r0,q0))(h:iQ z (gO B0 O jx jB jG mc L) w) :
 yL 258 #[pA B0 0,Z Y,Z p2] w z (Z r0) λx1 x2 x3 x4=>gO B0 q0 x1 x2 x3 x4 L:=by
 unfold eB at H;refine ke func258 21 rfl λj=>ig<|wq<|ks<|gf H λr5 e6 H=>ko dk<|fh (oT e6 h :) λw h=>G<|Em H (λc7 H=>?_) λc7 H=>?_
 ·refine ig<|wr<|tr<|?_;cases H;exact Jl jx jB jG mc h
 refine gq<|aL kW<|kL h 2<|qg H λc8 H=>ko dk<|ki (h.pick 1) c8<|qh h.m1 λh=>λ_ r=>KX (wn rfl) r aG h Y.toNat 0 (Z p2) (J O.cell Y.toNat) p2 (bl c8) λw h=>qq r<|G<|aL kW<|?_;replace h:=h.IA;refine gf H λOq Xh H=>qh h.m2.m1.m2 λh=>lQ (nu Xh h :) λAW xj yg Cu w h=>G<|ig<|wr<|?_;cases H;exact Jl AW xj yg Cu h
def jQ(K:Nat)(Y:Int)(u0:Int):Nat->af->Int->Option (bq×Int×af)
 | 0,_,_=>none
 | k1+1,ES,wS=>(if wS<Y then ei (gU (⟨u0,Y⟩:bq) wS) (λAe=>tN (eB ES Ae 1) (λCk Qy=>(if Ck=0 then(jQ K Y u0 k1 Qy (wi (wS+1)))else some ((⟨0,0⟩:bq),Ck,Qy))))else some ((⟨u0,Y⟩:bq),0,ES))
def pC(K:Nat)(O:af)(Y:Int):Option (bq×Int×af):=
 ei (sA Y) (λr6=>(if r6=0 then some ((⟨0,0⟩:bq),3,O)else ei (sA Y) (λr9=>qd (fY O r9) (λu0 vx Jo=>(if vx=0 then(jQ K Y u0 K Jo 0)else some ((⟨0,0⟩:bq),vx,Jo))))))
theorem Dc(H:pC K O Y=some (r0,r1,q0))(h:iQ z (gO B0 O jx jB jG mc L) w) :
 yL 77 #[if_ 33 (pA B0 0),Z Y] w z (.tuple #[fQ r0,Z r1]) λx1 x2 x3 x4=>gO B0 q0 x1 x2 x3 x4 L:=by
 unfold pC at H;refine ke func77 53 rfl λj=>ks<|kN h (#[Z 0,Z 0]) 104 λb5 w h=>bR<|G<|wq<|aL dk<|G<|λ_ r=>jy r (b:=false) rfl<|qq r<|gq<|wq<|ks<|gf H λr6 e7 H=>bR<|fh (xp e7 h :) λw h=>ko [vB (r6==0)]<|G<|dW H (λc8 H=>?_) λc8 H=>?_
 ·refine aL [U]<|kA h (gh b5 #[Z 0,Z 0] 104) λw h=>bR<|bW<|tr<|λ_ r=>qZ [Z 0,Z 0] (Z 3) rfl r (h.held 0 rfl)<|?_;cases H;exact⟨jx,jB,jG,mc,rfl,h.se 4 [1,2,3]⟩
 refine gq<|wq<|gf H λr9 FT H=>uI H λu0 vx Jo Iz H=>mP [] [] 12 h (λ_=>trivial) λw h hd =>lY hd 7 19 [([0],if_ 33 (pA B0 0)),([1],Z Y),([3,4],.func (.method "Reserve") #[if_ 33 (pA B0 0)] #[]),([5],if_ 33 (pA B0 0))]<|lJ 2 rfl<|fh (xp FT h :) λw h=>G<|λ_ r=>xE<|lD 6 rfl<|qh h.m3.m3.m3 λh=>qq r<|lQ (nh Iz h :) λCu C9 Li IB w h=>G<|mA<|iM 4 7 rfl (.tuple #[Z u0,Z vx])<|iM 3 8 rfl (Z u0)<|iM 2 9 rfl (Z vx)<|iM 1 10 rfl (Z u0)<|iM 0 11 rfl (Z vx)<|mT<|tn<|wq<|aL [U,vB (vx != 0)]<|G<|rD H (λs6 H=>?_) λs6 H=>?_
 ·refine gq<|aL kW<|kN h (#[Z 0,Z 0]) 104 λO2 w h=>kA h (gh O2 #[Z u0,Z Y] 104) λw h=>G<|wq<|aL dk<|G<|wb<|λ_ r=>dz (β:=Nat) id (λm a w=>∃Nd:fP,∃Nf:Nat,∃uQ:fP,∃xT:Nat,∃ES:af,∃wS:Int,(jQ K Y u0 m ES wS)=some (r0,r1,q0)/\∃j,kX 53 (lk [(0,if_ 33 (pA B0 0)),(4,pA b5 0),(8,pA O2 0),(35,Z Y),(36,Z wS)] j) a/\Fit z (aC (gO B0 ES Nd Nf uQ xT (gh b5 #[Z 0,Z 0] 104::gh O2 #[Z u0,Z Y] 104::L))) w) K ⟨Cu,C9,Li,IB,Jo,0,H,r.fj (h.se 5 [1,2,3,4,0])⟩<|?_;clear h r H;rintro k1 a w ⟨Nd,Nf,uQ,xT,ES,wS,H,j,r,h⟩;cases k1 with
  | zero=>exact absurd H (by simp[jQ])
  | succ k1 =>
   rw[jQ]at H;refine qq r<|aL [dH (wS<Y)]<|G<|wq<|dW H (λsP H=>?_) λsP H=>?_
   ·refine gq<|wq<|wb<|aL dk<|G<|wq<|gf H λAe Wt H=>xB H λCk Qy OV H=>mP [(O2,0,[Z u0,Z Y])] [3,4,5] 9 h (λh=>⟨((h.pick 4).held 0 rfl),bP⟩) λw h hd =>lY hd 4 39 [([0],if_ 33 (pA B0 0)),([2],Z wS),([4,5],.func (.method "Store") #[if_ 33 (pA B0 0)] #[]),([6],if_ 33 (pA B0 0))]<|xP hd 0 3 1 rfl rfl<|lJ 3 rfl<|fh (lR Wt h :) λw h=>G<|vO ⟨((h.pick 4).held 0 rfl),bP⟩ λhd =>lJ 7 rfl<|lQ (fI OV h :) λx33 x34 x35 Hz w h=>G<|mA<|iM 0 8 rfl (Z Ck)<|mT<|tn<|aL [U,vB (Ck != 0)]<|G<|rD H (λMh H=>?_) λMh H=>?_
    ·refine wk<|bn<|tn<|wl<|ko [Z (wi (wS+1)),Z (wi (wS+1))]<|G<|?_;exact λ_ r=>⟨_,⟨x33,x34,x35,Hz,Qy,(wi (wS+1)),H,r.fj h⟩,iI _⟩
    refine aL dk<|qh h.m3 λh=>kA h (gh b5 #[Z 0,Z 0] 104) λw h=>bR<|bW<|br<|tr<|tr<|br<|tr<|λ_ r=>qZ [Z 0,Z 0] (Z Ck) rfl r (h.held 0 rfl)<|?_;cases H;exact⟨x33,x34,x35,Hz,rfl,h.se 5 [1,2,3]⟩
   refine wx<|te<|te<|bh<|tn<|ks<|kM (h.pick 4)<|qh h.m3 λh=>kA h (gh b5 #[Z u0,Z Y] 104) λw h=>bR<|bW<|λ_ r=>qZ [Z u0,Z Y] (Z 0) rfl r (h.held 0 rfl)<|?_;cases H;exact⟨Nd,Nf,uQ,xT,rfl,h.se 5 [1,2,3]⟩
 refine aL dk<|qh h.m3 λh=>kA h (gh b5 #[Z 0,Z 0] 104) λw h=>bR<|bW<|tr<|λ_ r=>qZ [Z 0,Z 0] (Z vx) rfl r (h.held 0 rfl)<|?_;cases H;exact⟨Cu,C9,Li,IB,rfl,h.se 4 [1,2,3]⟩
def nQ(O:Int):Option (Int):=
 (if O<1 then some 0 else(if O>64 then some 0 else some (wi ((2:Int)+O))))
theorem uy(H:nQ O=some r0)(h:iQ z (L) w) :
 nK 108 #[Z O] w z (Z r0) (L):=by
 unfold nQ at H;refine ke func108 11 rfl λj=>ig<|wq<|aL [U,dH (O<1),dH (O<1)]<|qI H (λc1 H=>?_) λc1 H=>?_
 ·refine cx (dT c1) [6,7]<|oN (dT c1) (vB true)<|G<|λ_ r=>gQ r (b:=true) rfl<|qq r<|ig<|wr<|tr<|?_;cases H;exact gj h
 refine dg (dF c1) [6,7] [Z O,dH (O>64)]<|oC (dF c1) (dH (O>64))<|G<|dW H (λc2 H=>?_) λc2 H=>?_
 ·refine ig<|wr<|tr<|?_;cases H;exact gj h
 refine gq<|aL [U,Z (wi ((2:Int)+O)),Z (wi ((2:Int)+O))]<|bW<|?_;cases H;exact gj h
def rL(O:af)(Y:Int):Option (fz×Int×af):=
 ei (nQ Y) (λr6=>(if r6=0 then some ((⟨0,0⟩:fz),3,O)else ei (nQ Y) (λr9=>qd (fY O r9) (λu0 vx Jo=>(if vx=0 then some ((⟨u0,Y⟩:fz),0,Jo)else some ((⟨0,0⟩:fz),vx,Jo))))))
theorem ET(H:rL O Y=some (r0,r1,q0))(h:iQ z (gO B0 O jx jB jG mc L) w) :
 yL 78 #[if_ 33 (pA B0 0),Z Y] w z (.tuple #[qX r0,Z r1]) λx1 x2 x3 x4=>gO B0 q0 x1 x2 x3 x4 L:=by
 unfold rL at H;refine ke func78 32 rfl λj=>ks<|kN h (#[Z 0,Z 0]) 106 λb5 w h=>bR<|G<|wq<|aL dk<|G<|λ_ r=>jy r (b:=false) rfl<|qq r<|gq<|wq<|ks<|gf H λr6 e7 H=>bR<|fh (uy e7 h :) λw h=>ko [vB (r6==0)]<|G<|dW H (λc8 H=>?_) λc8 H=>?_
 ·refine aL [U]<|kA h (gh b5 #[Z 0,Z 0] 106) λw h=>bR<|bW<|tr<|λ_ r=>qZ [Z 0,Z 0] (Z 3) rfl r (h.held 0 rfl)<|?_;cases H;exact⟨jx,jB,jG,mc,rfl,h.se 4 [1,2,3]⟩
 refine gq<|wq<|gf H λr9 FT H=>uI H λu0 vx Jo Iz H=>mP [] [] 12 h (λ_=>trivial) λw h hd =>lY hd 7 16 [([0],if_ 33 (pA B0 0)),([1],Z Y),([3,4],.func (.method "Reserve") #[if_ 33 (pA B0 0)] #[]),([5],if_ 33 (pA B0 0))]<|lJ 2 rfl<|fh (uy FT h :) λw h=>G<|λ_ r=>xE<|lD 6 rfl<|qh h.m3.m3.m3 λh=>qq r<|lQ (nh Iz h :) λCu C9 Li IB w h=>G<|mA<|iM 4 7 rfl (.tuple #[Z u0,Z vx])<|iM 3 8 rfl (Z u0)<|iM 2 9 rfl (Z vx)<|iM 1 10 rfl (Z u0)<|iM 0 11 rfl (Z vx)<|mT<|tn<|wq<|aL [U,vB (vx != 0)]<|G<|rD H (λs6 H=>?_) λs6 H=>?_
 ·refine gq<|aL kW<|qh h.m3 λh=>kA h (gh b5 #[Z u0,Z Y] 106) λw h=>bR<|bW<|λ_ r=>qZ [Z u0,Z Y] (Z 0) rfl r (h.held 0 rfl)<|?_;cases H;exact⟨Cu,C9,Li,IB,rfl,h.se 4 [1,2,3]⟩
 refine aL dk<|qh h.m3 λh=>kA h (gh b5 #[Z 0,Z 0] 106) λw h=>bR<|bW<|tr<|λ_ r=>qZ [Z 0,Z 0] (Z vx) rfl r (h.held 0 rfl)<|?_;cases H;exact⟨Cu,C9,Li,IB,rfl,h.se 4 [1,2,3]⟩
def tS(O:Int)(Y:Int):Option (Bool):=
 (if(1:Int)<=O then(if O<=Y then some (decide (Y<=4096))else some false)else some false)
theorem Bz(H:tS O Y=some r0)(h:iQ z (L) w) :
 nK 118 #[Z O,Z Y] w z (vB r0) (L):=by
 unfold tS at H;refine ke func118 16 rfl λj=>ig<|aL [U,dH ((1:Int)<=O),dH ((1:Int)<=O)]<|qI H (λc1 H=>?_) λc1 H=>?_
 ·refine dg (dT c1) [8,9,10] [Z O,Z Y,dH (O<=Y)]<|oN (dT c1) (dH (O<=Y))<|ko [dH (O<=Y)]<|qI H (λc2 H=>?_) λc2 H=>?_
  ·refine dg (dT c2) [13,14] [Z Y,dH (Y<=4096)]<|oN (dT c2) (dH (Y<=4096))<|ko [dH (Y<=4096)]<|bW<|?_;cases H;exact gj h
  refine cx (dF c2) [13,14]<|oC (dF c2) (vB false)<|bR<|bW<|?_;cases H;exact gj h
 refine cx (dF c1) [8,9,10]<|oC (dF c1) (vB false)<|bR<|cx (rfl:false=false) [13,14]<|ko dk<|bW<|?_;cases H;exact gj h
def qu(O:af)(Y:Int)(p2:Int):Option (cA×Int×af):=
 ei (tS Y p2) (λr6=>(if r6=true then qd (fY O (wi ((4:Int)+Y))) (λr9 zw Ct=>(if zw=0 then tN (eB Ct (wi (r9+2)) (wi (r9+3))) (λnc vi=>(if nc=0 then tN (eB vi (wi (r9+3)) Y) (λD6 Qz=>(if D6=0 then some ((⟨r9,p2⟩:cA),0,Qz)else some ((⟨0,0⟩:cA),D6,Qz)))else some ((⟨0,0⟩:cA),nc,vi)))else some ((⟨0,0⟩:cA),zw,Ct)))else some ((⟨0,0⟩:cA),30,O)))
end
open Go SL GX
section
variable {K:Nat}
theorem AX{i:Nat}(h:i<4611686018427387904):wi ((i:Int)+1)=((i+1:Nat):Int):=by rw[eO I];omega
theorem EU{α:Type}[Inhabited α]{n i:Nat}{x:α}(h:i<n):J (List.replicate n x) i=x:=by
 unfold J;rw[List.getD_eq_getElem?_getD,List.getElem?_replicate,aP h];rfl
theorem sB{α:Type}[Inhabited α]{l:List α}{i:Nat}(h:i<l.length):J l i∈l:=by
 unfold J;rw[List.getD_eq_getElem?_getD,List.getElem?_eq_getElem h];exact List.getElem_mem h
theorem Lj{α β:Type}[Inhabited α][Inhabited β](f:α->β){l:List α}{i:Nat}(h:i<l.length):J (l.map f) i=f (J l i):=by
 unfold J;rw[List.getD_eq_getElem?_getD,List.getD_eq_getElem?_getD,List.getElem?_map,List.getElem?_eq_getElem h];rfl
abbrev Pt:=Int×Int
def nx(f:aB)(a:Int):List Int:=
 if (J f.ai a.toNat).aN=3 then [(J f.ai a.toNat).A]else if(J f.ai a.toNat).aN=9 then []else if(J f.ai a.toNat).aN=4 then [a+1,(J f.ai a.toNat).B]else [a+1]
def O3(f:aB)(sl a st:Int):Int:=
 if (J f.ai a.toNat).aN=5/\(J f.ai a.toNat).A=sl then 2 else if(J f.ai a.toNat).aN=6/\st=2 then 4 else st
def nw(V:List Pt)(s:Int):List Int->List Pt
 | []=>[]
 | n::ns=>if(n,s)∈V then nw V s ns else(n,s)::nw (V++[(n,s)]) s ns
def QA(f:aB)(sl:Int):Nat->List Pt->Nat->List Pt
 | 0,V,_=>V
 | d+1,V,k=>if k<V.length then QA f sl d (V++nw V (O3 f sl (J V k).1 (J V k).2) (nx f (J V k).1)) (k+1)else V
structure O4(f:aB):Prop where
 lo:1<=f.ai.length
 hi:f.ai.length<=512
 nx:∀a:Int,0<=a->a<f.ai.length->∀n∈nx f a,0<=n/\n<f.ai.length
 kind:∀a:Int,0<=a->a<f.ai.length->0<=(J f.ai a.toNat).aN/\(J f.ai a.toNat).aN<10
def R4(s:Int):Prop:=s=1∨s=2∨s=4
structure Nl(f:aB)(V:List Pt):Prop where
 Ww:∀x∈V,0<=x.1/\x.1<f.ai.length/\R4 x.2
 nd:V.Nodup
theorem IC:∀(n:Nat) (l:List Nat),l.Nodup->(∀x∈l,x<n)->l.length<=n
 | 0,l,_,h=>by cases l with | nil=>simp | cons a l=>exact absurd (h a (by simp)) I
 | n+1,l,hd,h=>by
  by_cases e:n∈l
  ·have:=IC n (l.erase n) (hd.erase n) (λx hx=>by
    have h1:=h x (List.mem_of_mem_erase hx);have:x≠n:=λe=>by subst e;exact(List.Nodup.not_mem_erase hd) hx
    omega)
   rw[List.length_erase_of_mem e]at this;omega
  ·have:=IC n l hd (λx hx=>by
    have h1:=h x hx;have:x≠n:=λe'=>by subst e';exact e hx
    omega)
   omega
def cd(x:Pt):Nat:=x.1.toNat*3+(if x.2=1 then 0 else if x.2=2 then 1 else 2)
theorem Nl.len{f:aB}{V:List Pt}(h:Nl f V):V.length<=3*f.ai.length:=by
 have:=IC (3*f.ai.length) (V.map cd) (by
  refine List.pairwise_map.2 (h.nd.imp_of_mem λ{x y} hx hy hxy e=>hxy ?_);obtain⟨a1,a2,a3⟩:=h.Ww x hx;obtain⟨b1,b2,b3⟩:=h.Ww y hy;obtain⟨x1,x2⟩:=x;obtain⟨y1,y2⟩:=y;unfold cd at e;simp only at *;rcases a3 with rfl | rfl | rfl<;>rcases b3 with rfl | rfl | rfl<;>simp at e<;>first | omega | (obtain rfl:x1=y1:=I);rfl) (λn hn=>by
  obtain⟨x,hx,rfl⟩:=List.mem_map.1 hn;obtain⟨a1,a2,a3⟩:=h.Ww x hx;unfold cd;rcases a3 with h | h | h<;>simp only[h]<;>simp<;>omega)
 simpa using this
theorem Ll{f:aB}{s:Int}(hs:R4 s):∀(ns:List Int) (V:List Pt),Nl f V->(∀n∈ns,0<=n/\n<f.ai.length)->Nl f (V++nw V s ns)/\∀n∈ns,(n,s)∈V++nw V s ns
 | [],V,h,_=>by simp[nw];exact h
 | n::ns,V,h,hn=>by
  unfold nw;split
  ·rename_i e;obtain⟨a,b⟩:=Ll hs ns V h (λm hm=>hn m (Mt _ hm));refine⟨a,λm hm => ?_⟩;rcases List.mem_cons.1 hm with rfl | hm
   ·exact List.mem_append_left _ e
   ·exact b m hm
  ·rename_i e;have h':Nl f (V++[(n,s)]):=⟨λx hx=>by
    rcases List.mem_append.1 hx with hx | hx
    ·exact h.Ww x hx
    ·rw[List.mem_singleton.1 hx];exact⟨(hn n (by simp)).1,(hn n (by simp)).2,hs⟩,List.nodup_append.2 ⟨h.nd,by simp,λx hx y hy e'=>by rw[List.mem_singleton.1 hy]at e';subst e';exact e hx⟩⟩
   obtain⟨a,b⟩:=Ll hs ns (V++[(n,s)]) h' (λm hm=>hn m (Mt _ hm));rw[q9,Kd]at a b;refine⟨a,λm hm => ?_⟩;rcases List.mem_cons.1 hm with rfl | hm
   ·simp
   ·exact b m hm
def D8(f:aB)(sl:Int)(V:List Pt)(k:Nat):Prop:=∀j,j<k->j<V.length->∀n∈nx f (J V j).1,(n,O3 f sl (J V j).1 (J V j).2)∈V
theorem Z7{f:aB}{sl a s:Int}(h:R4 s):R4 (O3 f sl a s):=by
 unfold O3;split
 ·exact .inr (.inl rfl)
 ·split
  ·exact .inr (.inr rfl)
  ·exact h
theorem FU{f:aB}(hf:O4 f){sl:Int}{V:List Pt}{k:Nat}(h:Nl f V)(hk:k<V.length)(hc:D8 f sl V k) :
 Nl f (V++nw V (O3 f sl (J V k).1 (J V k).2) (nx f (J V k).1))/\D8 f sl (V++nw V (O3 f sl (J V k).1 (J V k).2) (nx f (J V k).1)) (k+1):=by
 obtain⟨a1,a2,a3⟩:=h.Ww _ (sB hk);obtain⟨a,b⟩:=Ll (Z7 (f:=f) (sl:=sl) (a:=(J V k).1) a3) (nx f (J V k).1) V h (hf.nx _ a1 a2);refine⟨a,λj hj hl n hn => ?_⟩;have hjV:j<V.length:=by omega
 rw[tC hjV]at hn⊢;by_cases e:j=k
 ·subst e;exact b n hn
 ·exact List.mem_append_left _ (hc j I hjV n hn)
theorem UJ{f:aB}(hf:O4 f){sl:Int}:∀(d k:Nat) (V:List Pt),k+d=3*f.ai.length->Nl f V->D8 f sl V k->k<=V.length->
 Nl f (QA f sl d V k)/\D8 f sl (QA f sl d V k) (QA f sl d V k).length/\(∀x∈V,x∈QA f sl d V k)
 | 0,k,V,hd,h,hc,hk=>by
  unfold QA;have:=h.len;obtain rfl:k=V.length:=by omega
  exact⟨h,hc,λ_ h=>h⟩
 | d+1,k,V,hd,h,hc,hk=>by
  unfold QA;split
  ·rename_i e;obtain⟨a,b⟩:=FU hf h e hc;obtain⟨r1,r2,r3⟩:=UJ hf d (k+1) _ I a b (by rw[j6];omega);exact⟨r1,r2,λx hx=>r3 x (List.mem_append_left _ hx)⟩
  ·rename_i e;obtain rfl:k=V.length:=by omega
   exact⟨h,hc,λ_ h=>h⟩
def wt(V:List Pt)(a:Int):Int:=(if(a,1)∈V then 1 else 0)+(if(a,2)∈V then 2 else 0)+(if(a,4)∈V then 4 else 0)
structure YW(f:aB)(V:List Pt)(met:List Int):Prop where
 len:met.length=f.ai.length
 val:∀a,a<f.ai.length->J met a=wt V a
theorem acA:∀(a b c:Bool) (s:Int),R4 s->((iB ((if a then 1 else 0)+(if b then 2 else 0)+(if c then 4 else 0)) s=0)↔(s=1/\a=false)∨(s=2/\b=false)∨(s=4/\c=false)):=by
 intro a b c s hs;rcases hs with rfl | rfl | rfl<;>cases a<;>cases b<;>cases c<;>decide
theorem HA{V:List Pt}{a s:Int}(hs:R4 s):iB (wt V a) s=0↔(a,s)∉V:=by
 have:=acA (decide ((a,1)∈V)) (decide ((a,2)∈V)) (decide ((a,4)∈V)) s hs;simp only[B5,decide_eq_false_iff_not]at this;unfold wt;rw[this];rcases hs with rfl | rfl | rfl<;>simp
theorem Z8{V:List Pt}{a:Int}:0<=wt V a/\wt V a<=7:=by
 unfold wt;split<;>split<;>split<;>omega
theorem Z9{V:List Pt}{n s:Int}(hs:R4 s)(hn:(n,s)∉V)(a:Int):wt (V++[(n,s)]) a=if a=n then wt V a+s else wt V a:=by
 unfold wt;by_cases e:a=n
 ·subst e;rw[aP rfl];rcases hs with rfl | rfl | rfl<;>simp[hn]<;>omega
 ·rw[cu e];simp[e]
theorem YW.add{f:aB}{V:List Pt}{met:List Int}{n s:Int}(h:YW f V met)(hs:R4 s)(hn:(n,s)∉V)(h0:0<=n)(h1:n<f.ai.length) :
 YW f (V++[(n,s)]) (met.set n.toNat (wi (J met n.toNat+s))):=by
 refine⟨by rw[hU];exact h.len,λa ha => ?_⟩;rw[Z9 hs hn];by_cases e:n.toNat=a
 ·subst e;rw[uX (by rw[h.len];omega),p7,h.val _ ha];have:=Z8 (V:=V) (a:=((n.toNat:Nat):Int));rw[eO];rcases hs with rfl | rfl | rfl<;>omega
 ·rw[zX e,ef,h.val a ha]
theorem O5{f:aB}{s:Int}(hs:R4 s){ns:List Int}(RM:∀n∈ns,0<=n/\n<f.ai.length)(hlen:f.ai.length<=512)(YX:ns.length<=2):∀(d k i:Nat) (V:List Pt) (met:List Int),i+d=ns.length->d<k->Nl f V->YW f V met->
 ∃met',gX K s ns k met (V.map (·.1)) (V.map (·.2)) (i:Int)=some (met',(V++nw V s (ns.drop i)).map (·.1),(V++nw V s (ns.drop i)).map (·.2))/\YW f (V++nw V s (ns.drop i)) met'
 | d,k,i,V,met,hd,hk,hV,hm=>by
  obtain⟨k,rfl⟩ :∃m,k=m+1:=⟨k-1,I⟩;rw[gX];have hL:=hV.len;by_cases hi:i<ns.length
  ·obtain⟨d,rfl⟩ :∃m,d=m+1:=⟨d-1,I⟩;have hdr:ns.drop i=J ns i::ns.drop (i+1):=by
    rw[Qc hi];unfold J;rw[List.getD_eq_getElem?_getD,List.getElem?_eq_getElem hi];rfl
   obtain⟨n0,n1⟩:=RM _ (sB hi);rw[p7,aP ⟨I,I⟩,cQ,aP ⟨n0,by rw[hm.len];exact n1⟩,hm.val _ I,show(((J ns i).toNat:Nat):Int)=J ns i by omega,AX I,hdr];rw[nw];by_cases e:(J ns i,s)∈V
   ·rw[cu (λh=>(HA hs).1 h e),aP e];exact O5 hs RM hlen YX d k (i+1) V met I I hV hm
   ·rw[aP ((HA hs).2 e),cu e,aP (by rw[Dw];omega),aP (by rw[Dw];omega)];have hV':Nl f (V++[(J ns i,s)]):=⟨λx hx=>by
     rcases List.mem_append.1 hx with hx | hx
     ·exact hV.Ww x hx
     ·rw[List.mem_singleton.1 hx];exact⟨n0,n1,hs⟩,List.nodup_append.2 ⟨hV.nd,by simp,λx hx y hy e'=>by rw[List.mem_singleton.1 hy]at e';subst e';exact e hx⟩⟩
    have hm':=hm.add hs e n0 n1;rw[hm.val _ I,show(((J ns i).toNat:Nat):Int)=J ns i by omega]at hm';obtain⟨met',r1,r2⟩:=O5 hs RM hlen YX d k (i+1) _ _ I I hV' hm';refine⟨met',?_,?_⟩
    ·rw[HH,HH,q9,Kd]at r1;exact r1
    ·rw[q9,Kd]at r2;exact r2
  ·rw[ef,zR I];simp only[nw,Bt];exact⟨met,rfl,hm⟩
theorem Nm{f:aB}{sl a s:Int}:qB (J f.ai a.toNat) sl s=some (O3 f sl a s)/\wP (J f.ai a.toNat) sl s=some (O3 f sl a s):=by
 unfold qB wP O3;by_cases h1:(J f.ai a.toNat).aN=5
 ·by_cases h2:(J f.ai a.toNat).A=sl
  ·simp[h1,h2]
  ·simp[h1,h2]
 ·by_cases h2:(J f.ai a.toNat).aN=6
  ·by_cases h3:s=2<;>simp[h1,h2,h3]
  ·simp[h1,h2]
theorem UK{f:aB}(hlen:f.ai.length<=512){a:Int}(h0:0<=a)(h1:a<f.ai.length):qD f a=some (nx f a):=by
 unfold qD nx;rw[aP ⟨h0,h1⟩,eO (x:=a+1) I];split
 ·rfl
 ·split
  ·rfl
  ·split<;>rfl
theorem Lm{f:aB}{a:Int}:(nx f a).length<=2:=by
 unfold nx;split
 ·simp
 split
 ·simp
 split<;>simp
theorem UL{f:aB}(hf:O4 f){sl:Int}(hK:3000<K):∀(d j k:Nat) (V:List Pt) (met:List Int),j+d=3*f.ai.length->d<k->j<=V.length->Nl f V->D8 f sl V j->YW f V met->
 ∃met',iH K f sl k met (V.map (·.1)) (V.map (·.2)) (j:Int)=some met'/\YW f (QA f sl d V j) met'
 | d,j,k,V,met,hd,hk,hj,hV,hc,hm=>by
  obtain⟨k,rfl⟩ :∃m,k=m+1:=⟨k-1,I⟩;rw[iH];have hL:=hV.len;have Ln:=hf.hi;by_cases hi:j<V.length
  ·obtain⟨d,rfl⟩ :∃m,d=m+1:=⟨d-1,I⟩;obtain⟨a1,a2,a3⟩:=hV.Ww _ (sB hi);rw[aP (by rw[Dw];omega),aP ⟨I,by rw[Dw];omega⟩,cQ,Lj _ hi,Lj _ hi,aP ⟨a1,a2⟩,aP ⟨I,by rw[Dw];omega⟩,Nm.1,au,UK Ln a1 a2,au,AX I];obtain⟨met',r1,r2⟩:=O5 (K:=K) (f:=f) (s:=O3 f sl (J V j).1 (J V j).2) (Z7 a3) (ns:=nx f (J V j).1) (hf.nx _ a1 a2) Ln Lm (nx f (J V j).1).length K 0 V met I (by have:=Lm (f:=f) (a:=(J V j).1);omega) hV hm;rw[pL]at r1;rw[r1,dr,QA,aP hi];obtain⟨b1,b2⟩:=FU hf hV hi hc;exact UL hf hK d (j+1) k _ _ I I (by rw[j6];omega) b1 b2 r2
  ·rw[cu (by rw[Dw];omega)];refine⟨met,rfl,?_⟩;cases d with
   | zero=>exact hm
   | succ d=>rw[QA,cu hi];exact hm
def reach(f:aB)(sl:Int):List Pt:=QA f sl (3*f.ai.length) [(0,1)] 0
theorem aaa{f:aB}(hf:O4 f):Nl f [(0,1)]:=⟨λx hx=>by rw[List.mem_singleton.1 hx];exact⟨eC,by have:=hf.lo;omega,.inl rfl⟩,by simp⟩
theorem ID{f:aB}(hf:O4 f)(sl:Int):Nl f (reach f sl)/\D8 f sl (reach f sl) (reach f sl).length/\(0,1)∈reach f sl:=by
 obtain⟨a,b,c⟩:=UJ hf (sl:=sl) (3*f.ai.length) 0 [(0,1)] I (aaa hf) (λj hj=>I) (by simp);exact⟨a,b,c _ (by simp)⟩
theorem O6{f:aB}(hf:O4 f)(sl:Int)(hK:3000<K) :∃met,ng K f sl=some met/\YW f (reach f sl) met:=by
 unfold ng;have h1:=hf.lo;have h2:=hf.hi;rw[aP ⟨I,I⟩,aP ⟨eC,by rw[n7];omega⟩];exact UL hf hK (3*f.ai.length) 0 K [(0,1)] _ I I (by simp) (aaa hf) (λj hj=>I) ⟨by simp,λa ha=>by
  by_cases e:a=0
  ·subst e;rw[uX (by simpa using ha)];simp[wt]
  ·rw[zX I,EU ha];unfold wt;rw[cu (by simp;omega),cu (by simp),cu (by simp)];rfl⟩
end
section
variable {K:Nat}
abbrev pt(x:Pt):aX:=⟨x.1,x.2⟩
theorem aab{x y:Pt}(h:pt x=pt y):x=y:=by
 obtain⟨a,b⟩:=x;obtain⟨c,d⟩:=y;simp only[pt,aX.mk.injEq]at h;rw[h.1,h.2]
theorem Nn{β:Type}:∀(l:List (aX×β)) (k:aX),(yO l k).isSome=true↔k∈l.map (·.1)
 | [],k=>by simp[yO]
 | (a,b)::l,k=>by
  unfold yO;by_cases e:k=a
  ·simp[e]
  ·rw[cu e,Nn l k];simp[e]
theorem mem_keys{V:List Pt}{m:List (aX×aX)}(h:m.map (·.1)=V.map pt)(x:Pt):(yO m (pt x)).isSome=true↔x∈V:=by
 rw[Nn,h,List.mem_map];exact⟨λ⟨y,hy,e⟩=>aab e▸ hy,λhx=>⟨x,hx,rfl⟩⟩
theorem Lo{f:aB}{s:Int}(hs:R4 s){ns:List Int}(l8:List aX)(RM:∀n∈ns,0<=n/\n<f.ai.length)(hlen:f.ai.length<=512)(YX:ns.length<=2):∀(d k i:Nat) (V:List Pt) (m:List (aX×aX)) (ag1:List aX),i+d=ns.length->d<k->Nl f V->m.map (·.1)=V.map pt->ag1.length<=V.length->
 ∃m',jP K l8 s ns k m ag1 (i:Int)=some (m',ag1++(nw V s (ns.drop i)).map pt)/\m'.map (·.1)=(V++nw V s (ns.drop i)).map pt
 | d,k,i,V,m,ag1,hd,hk,hV,hm,hW=>by
  obtain⟨k,rfl⟩ :∃m,k=m+1:=⟨k-1,I⟩;rw[jP];have hL:=hV.len;by_cases hi:i<ns.length
  ·obtain⟨d,rfl⟩ :∃m,d=m+1:=⟨d-1,I⟩;have hdr:ns.drop i=J ns i::ns.drop (i+1):=by
    rw[Qc hi];unfold J;rw[List.getD_eq_getElem?_getD,List.getElem?_eq_getElem hi];rfl
   obtain⟨n0,n1⟩:=RM _ (sB hi);rw[p7,aP ⟨I,I⟩,cQ,AX I,hdr,nw];by_cases e:(J ns i,s)∈V
   ·rw[aP ((mem_keys hm (J ns i,s)).2 e),aP e];exact Lo hs l8 RM hlen YX d k (i+1) V m ag1 I I hV hm hW
   ·have e0:¬(yO m (⟨J ns i,s⟩:aX)).isSome=true:=λh=>e ((mem_keys hm (J ns i,s)).1 h);have e1:yO m (⟨J ns i,s⟩:aX)=none:=by
     cases h:yO m (⟨J ns i,s⟩:aX)with
     | none=>rfl
     | some x=>rw[h]at e0;exact absurd rfl e0
    rw[cu e0,cu e,aP e1,p7];have hV':Nl f (V++[(J ns i,s)]):=⟨λx hx=>by
     rcases List.mem_append.1 hx with hx | hx
     ·exact hV.Ww x hx
     ·rw[List.mem_singleton.1 hx];exact⟨n0,n1,hs⟩,List.nodup_append.2 ⟨hV.nd,by simp,λx hx y hy e'=>by rw[List.mem_singleton.1 hy]at e';subst e';exact e hx⟩⟩
    obtain⟨m',r1,r2⟩:=Lo hs l8 RM hlen YX d k (i+1) (V++[(J ns i,s)]) (m++[((⟨J ns i,s⟩:aX),J l8 0)]) (ag1++[(⟨J ns i,s⟩:aX)]) I I hV' (by rw[HH,HH,hm];rfl) (by simp;omega);refine⟨m',?_,?_⟩
    ·rw[q9,Kd]at r1;exact r1
    ·rw[q9,Kd]at r2;exact r2
  ·rw[ef,zR I];simp only[nw,Bt,B3];exact⟨m,rfl,hm⟩
theorem aeR{k:Int}(h0:0<=k)(h1:k<10):(J yK k.toNat).next = !(decide (k=3)||decide (k=9)):=by
 rcases(by omega:k=0∨k=1∨k=2∨k=3∨k=4∨k=5∨k=6∨k=7∨k=8∨k=9)with rfl | rfl | rfl | rfl | rfl | rfl | rfl | rfl | rfl | rfl<;>rfl
theorem R5{f:aB}(hf:O4 f){a:Int}(h0:0<=a)(h1:a<f.ai.length):wQ f a=some (nx f a):=by
 have Ln:=hf.hi;obtain⟨k0,k1⟩:=hf.kind a h0 h1;have hn:=hf.nx a h0 h1;unfold wQ;rw[aP ⟨h0,h1⟩,aP ⟨k0,by exact k1⟩,aeR k0 k1,eO (x:=a+1) I];unfold nx at hn⊢;by_cases e3:(J f.ai a.toNat).aN=3
 ·simp[e3]
 ·by_cases e9:(J f.ai a.toNat).aN=9
  ·simp[e9]
  ·by_cases e4:(J f.ai a.toNat).aN=4
   ·have:a+1<f.ai.length:=by rw[cu e3,cu e9,aP e4]at hn;exact(hn (a+1) (by simp)).2
    simp[e4,this]
   ·have:a+1<f.ai.length:=by rw[cu e3,cu e9,cu e4]at hn;exact(hn (a+1) (by simp)).2
    simp[e3,e4,e9,this]
theorem QB{f:aB}(hf:O4 f){sl:Int}(hK:3000<K):∀(d j k:Nat) (V:List Pt) (m:List (aX×aX)),j+d=3*f.ai.length->d<k->j<=V.length->Nl f V->D8 f sl V j->m.map (·.1)=V.map pt->
 ∃m',lH K f sl k m ((V.drop j).map pt)=some m'/\m'.map (·.1)=(QA f sl d V j).map pt
 | d,j,k,V,m,hd,hk,hj,hV,hc,hm=>by
  obtain⟨k,rfl⟩ :∃m,k=m+1:=⟨k-1,I⟩;rw[lH];have hL:=hV.len;have Ln:=hf.hi;by_cases hi:j<V.length
  ·obtain⟨d,rfl⟩ :∃m,d=m+1:=⟨d-1,I⟩;obtain⟨a1,a2,a3⟩:=hV.Ww _ (sB hi);have hl:((V.drop j).map pt).length=V.length-j:=by simp
   have h0:J ((V.drop j).map pt) 0=pt (J V j):=by
    rw[Lj _ (by simp;omega)];congr 1;unfold J;simp[List.getD_eq_getElem?_getD]
   have h1:((V.drop j).map pt).drop 1=(V.drop (j+1)).map pt:=by rw[<-List.map_drop,List.drop_drop]
   rw[aP (by rw[hl];omega),aP ⟨eC,by rw[hl];omega⟩,aP ⟨eC,by rw[hl];omega⟩,aP (by rw[hl];omega),h0,h1,wu,au,cu eC,aP ⟨a1,a2⟩,Nm.2,au,R5 hf a1 a2,au];obtain⟨m',r1,r2⟩:=Lo (K:=K) (f:=f) (s:=O3 f sl (J V j).1 (J V j).2) (Z7 a3) (ns:=nx f (J V j).1) ((V.drop j).map pt) (hf.nx _ a1 a2) Ln Lm (nx f (J V j).1).length K 0 V m ((V.drop (j+1)).map pt) I (by have:=Lm (f:=f) (a:=(J V j).1);omega) hV hm (by simp);rw[pL]at r1;rw[r1,eR,QA,aP hi,og];rw[og]at r2;obtain⟨b1,b2⟩:=FU hf hV hi hc;rw[show(V.drop (j+1)).map pt++(nw V (O3 f sl (J V j).1 (J V j).2) (nx f (J V j).1)).map pt=((V++nw V (O3 f sl (J V j).1 (J V j).2) (nx f (J V j).1)).drop (j+1)).map pt by rw[J7 I,HH]];exact QB hf hK d (j+1) k _ m' I I (by rw[j6];omega) b1 b2 r2
  ·have:(V.drop j).map pt=[]:=by rw[zR I];rfl
   rw[this,cu (by simp)];refine⟨m,rfl,?_⟩;cases d with
   | zero=>exact hm
   | succ d=>rw[QA,cu hi];exact hm
theorem Xp{f:aB}(hf:O4 f)(sl:Int)(hK:3000<K) :∃m,rH K f sl=some m/\m.map (·.1)=(reach f sl).map pt:=by
 unfold rH;have h2:=hf.hi;exact QB hf hK (3*f.ai.length) 0 K [(0,1)] _ I I (by simp) (aaa hf) (λj hj=>I) rfl
structure QC(f:aB)(R:List (List Int))(n:Nat):Prop where
 len:R.length=f.ai.length
 wid:∀a,a<f.ai.length->(J R a).length=f.bM.toNat
 val:∀a,a<f.ai.length->∀c,c<n->c<f.bM.toNat->J (J R a) c=wt (reach f c) a
 zero:∀a,a<f.ai.length->∀c,n<=c->c<f.bM.toNat->J (J R a) c=0
theorem UM{f:aB}{R Q:List (List Int)}{n:Nat}(h:QC f R n)(k:QC f Q n):R=Q:=by
 have ext:∀{α:Type} [Inhabited α] (x y:List α),x.length=y.length->(∀i,i<x.length->J x i=J y i)->x=y:=by
  intro α _ x y hl he;refine Ms hl λi h1 h2 => ?_;have:=he i h1;unfold J at this;rw[List.getD_eq_getElem?_getD,List.getD_eq_getElem?_getD,List.getElem?_eq_getElem h1,List.getElem?_eq_getElem h2]at this;exact this
 refine ext R Q (by rw[h.len,k.len]) λi hi => ?_;rw[h.len]at hi;exact ext _ _ (by rw[h.wid i hi,k.wid i hi]) λc hc=>by
  rw[h.wid i hi]at hc;by_cases e:c<n
  ·rw[h.val i hi c e hc,k.val i hi c e hc]
  ·rw[h.zero i hi c I hc,k.zero i hi c I hc]
end
section
variable {K:Nat}
theorem rf{α:Type}[Inhabited α]{l:List α}{i k:Nat}{x:α}(h:i<l.length):J (l.set i x) k=if k=i then x else J l k:=by
 by_cases e:k=i
 ·subst e;rw[uX h,aP rfl]
 ·rw[zX (λe'=>e e'.symm),cu e]
def Zero(f:aB)(R:List (List Int))(i:Nat):Prop:=R.length=f.ai.length/\∀a,a<i->J R a=List.replicate f.bM.toNat 0
theorem QD{f:aB}(hf:O4 f)(h0:0<=f.bM)(h8:f.bM<=8):∀(d k i:Nat) (R:List (List Int)),i+d=f.ai.length->d<k->Zero f R i->
 ∃R',lE K f k R (i:Int)=some R'/\pO K f k R (i:Int)=some R'/\Zero f R' f.ai.length
 | d,k,i,R,hd,hk,hz=>by
  obtain⟨k,rfl⟩ :∃m,k=m+1:=⟨k-1,I⟩;rw[lE,pO];have h2:=hf.hi;by_cases hi:i<f.ai.length
  ·obtain⟨d,rfl⟩ :∃m,d=m+1:=⟨d-1,I⟩;rw[aP (by rw[n7];omega),aP ⟨h0,I⟩,aP ⟨I,by rw[hz.1];omega⟩,aP (by rw[n7];omega),aP ⟨h0,I⟩,aP ⟨I,by rw[hz.1];omega⟩,cQ,AX I];exact QD hf h0 h8 d k (i+1) _ I I ⟨by rw[hU];exact hz.1,λa ha=>by
    rw[rf (by rw[hz.1];exact hi)];split
    ·rfl
    ·exact hz.2 a I⟩
  ·rw[cu (by rw[n7];omega),cu (by rw[n7];omega)];obtain rfl:i=f.ai.length:=by omega
   exact⟨R,rfl,rfl,hz⟩
structure UN(f:aB)(R R':List (List Int))(c:Nat)(i:Nat)(v:Nat->Int):Prop where
 len:R'.length=f.ai.length
 wid:∀a,a<f.ai.length->(J R' a).length=f.bM.toNat
 lo:∀a,a<i->a<f.ai.length->J (J R' a) c=v a
 hi:∀a,i<=a->a<f.ai.length->J (J R' a) c=J (J R a) c
 Wx:∀a,a<f.ai.length->∀b,b≠c->J (J R' a) b=J (J R a) b
theorem UN.tab{f:aB}{R R':List (List Int)}{c:Nat}(h:QC f R c)(k:UN f R R' c f.ai.length (λa=>wt (reach f c) a)):QC f R' (c+1):=by
 refine⟨k.len,k.wid,λa ha b hb hs => ?_,λa ha b hb hs => ?_⟩
 ·by_cases e:b=c
  ·subst e;exact k.lo a ha ha
  ·rw[k.Wx a ha b e];exact h.val a ha b I hs
 ·rw[k.Wx a ha b I];exact h.zero a ha b I hs
theorem QE{f:aB}(hf:O4 f){c:Nat}(hc:c<f.bM.toNat){met:List Int}(hm:met.length=f.ai.length){R:List (List Int)}:∀(d k i:Nat) (Q:List (List Int)),i+d=f.ai.length->d<k->UN f R Q c i (λa=>J met a)->
 ∃R',lF K f (c:Int) met k Q (i:Int)=some R'/\UN f R R' c f.ai.length (λa=>J met a)
 | d,k,i,Q,hd,hk,hz=>by
  obtain⟨k,rfl⟩ :∃m,k=m+1:=⟨k-1,I⟩;rw[lF];have h2:=hf.hi;by_cases hi:i<f.ai.length
  ·obtain⟨d,rfl⟩ :∃m,d=m+1:=⟨d-1,I⟩;have hl:=hz.len;have hw:=hz.wid i hi;rw[aP (by rw[n7];omega),aP ⟨I,I⟩,aP ⟨I,I⟩,cQ,aP ⟨I,by rw[hw];omega⟩,cQ,AX I];refine QE hf hc hm d k (i+1) _ I I ⟨by rw[hU];exact hl,λa ha => ?_,λa ha hb => ?_,λa ha hb => ?_,λa ha b hb => ?_⟩
   ·rw[rf I];split
    ·rw[hU];exact hw
    ·exact hz.wid a ha
   ·rw[rf I];split
    ·rename_i e;subst e;rw[uX I]
    ·exact hz.lo a I hb
   ·rw[rf I,ef];exact hz.hi a I hb
   ·rw[rf I];split
    ·rename_i e;subst e;rw[zX (λe=>hb e.symm)];exact hz.Wx a ha b hb
    ·exact hz.Wx a ha b hb
  ·rw[cu (by rw[n7];omega)];obtain rfl:i=f.ai.length:=by omega
   exact⟨Q,rfl,hz⟩
theorem UN.zero{f:aB}{R:List (List Int)}{c n:Nat}(h:QC f R n)(v:Nat->Int):UN f R R c 0 v:=⟨h.len,h.wid,λa ha=>I,λ_ _ _=>rfl,λ_ _ _ _=>rfl⟩
theorem QF{f:aB}(hf:O4 f)(h0:0<=f.bM)(h8:f.bM<=8)(hK:3000<K):∀(d k i:Nat) (R:List (List Int)),i+d=f.bM.toNat->d<k->QC f R i->
 ∃R',lG K f k R (i:Int)=some R'/\QC f R' f.bM.toNat
 | d,k,i,R,hd,hk,hz=>by
  obtain⟨k,rfl⟩ :∃m,k=m+1:=⟨k-1,I⟩;rw[lG];have h2:=hf.hi;by_cases hi:i<f.bM.toNat
  ·obtain⟨d,rfl⟩ :∃m,d=m+1:=⟨d-1,I⟩;obtain⟨met,e1,e2⟩:=O6 (K:=K) hf (i:Int) hK;obtain⟨R',r1,r2⟩:=QE (K:=K) hf hi e2.len f.ai.length K 0 R I I (UN.zero hz _);rw[p7,e1,au,pL]at *;rw[r1,au,AX I];refine QF hf h0 h8 hK d k (i+1) R' I I (UN.tab hz ⟨r2.len,r2.wid,λa ha hb => ?_,r2.hi,r2.Wx⟩);rw[r2.lo a ha hb];exact e2.val a hb
  ·rw[ef];obtain rfl:i=f.bM.toNat:=by omega
   exact⟨R,rfl,hz⟩
theorem aac:∀(a b c:Bool) (s:Int),R4 s->(OG ((if a then 1 else 0)+(if b then 2 else 0)+(if c then 4 else 0)) s)=(if a||decide (s=1)then 1 else 0)+(if b||decide (s=2)then 2 else 0)+(if c||decide (s=4)then 4 else 0):=by
 intro a b c s hs;rcases hs with rfl | rfl | rfl<;>cases a<;>cases b<;>cases c<;>decide
theorem acB{V:List Pt}{a s:Int}(hs:R4 s):OG (wt V a) s=wt (V++[(a,s)]) a:=by
 have:=aac (decide ((a,1)∈V)) (decide ((a,2)∈V)) (decide ((a,4)∈V)) s hs;simp only[B5]at this;unfold wt;rw[this];simp only[List.mem_append,List.mem_singleton,Prod.mk.injEq,true_and];rcases hs with rfl | rfl | rfl<;>simp
theorem acC{V:List Pt}{a b s:Int}(h:a≠b):wt (V++[(b,s)]) a=wt V a:=by unfold wt;simp[h]
theorem aad{V ag1:List Pt}(h:∀x,x∈V↔x∈ag1)(a:Int):wt V a=wt ag1 a:=by unfold wt;simp only[h]
theorem QG{f:aB}(hf:O4 f){c:Nat}(hc:c<f.bM.toNat){R:List (List Int)}:∀(l:List (aX×aX)) (U:List Pt) (Q:List (List Int)),(∀x∈l,0<=x.1.J/\x.1.J<f.ai.length/\R4 x.1.state)->UN f R Q c f.ai.length (λa=>wt U a)->
 ∃R',l.foldlM (λs x=>pP K (c:Int) x s) Q=some R'/\UN f R R' c f.ai.length (λa=>wt (U++l.map (λx=>(x.1.J,x.1.state))) a)
 | [],U,Q,_,hz=>⟨Q,rfl,by simpa using hz⟩
 | x::l,U,Q,hl,hz=>by
  obtain⟨a1,a2,a3⟩:=hl x (by simp);have hL:=hz.len;have hw:=hz.wid x.1.J.toNat I;rw[List.foldlM_cons,pP,aP ⟨a1,I⟩,aP ⟨I,by rw[hw];omega⟩,cQ];have hv:J (J Q x.1.J.toNat) c=wt U ((x.1.J.toNat:Nat):Int):=hz.lo x.1.J.toNat I I;rw[hv,acB a3,show((x.1.J.toNat:Nat):Int)=x.1.J by omega];obtain⟨R',r1,r2⟩:=QG hf hc (R:=R) l (U++[(x.1.J,x.1.state)]) (Q.set x.1.J.toNat ((J Q x.1.J.toNat).set c (wt (U++[(x.1.J,x.1.state)]) x.1.J))) (λy hy=>hl y (Mt _ hy)) (by
   refine⟨by rw[hU];exact hL,λa ha => ?_,λa ha hb => ?_,λa ha hb=>I,λa ha b hb => ?_⟩
   ·rw[rf I];split
    ·rw[hU];exact hw
    ·exact hz.wid a ha
   ·rw[rf I];split
    ·rename_i e;subst e;rw[uX I,show((x.1.J.toNat:Nat):Int)=x.1.J by omega]
    ·rename_i e;rw[hz.lo a ha hb,acC I]
   ·rw[rf I];split
    ·rename_i e;subst e;rw[zX (λe=>hb e.symm)];exact hz.Wx _ ha b hb
    ·exact hz.Wx a ha b hb)
  refine⟨R',r1,?_⟩;rw[q9,Kd]at r2;exact r2
theorem Kw{f:aB}(hf:O4 f)(h0:0<=f.bM)(h8:f.bM<=8)(hK:3000<K):∀(d k i:Nat) (R:List (List Int)),i+d=f.bM.toNat->d<k->QC f R i->
 ∃R',pQ K f k R (i:Int)=some R'/\QC f R' f.bM.toNat
 | d,k,i,R,hd,hk,hz=>by
  obtain⟨k,rfl⟩ :∃m,k=m+1:=⟨k-1,I⟩;rw[pQ];by_cases hi:i<f.bM.toNat
  ·obtain⟨d,rfl⟩ :∃m,d=m+1:=⟨d-1,I⟩;obtain⟨m,e1,e2⟩:=Xp (K:=K) hf (i:Int) hK;obtain⟨v1,v2,v3⟩:=ID hf (i:Int);have key:∀l':List (aX×aX),l'.Perm m->∃R',l'.foldlM (λs x=>pP K (i:Int) x s) R=some R'/\QC f R' (i+1):=by
    intro l' hp;have hr:∀x∈l',(x.1.J,x.1.state)∈reach f (i:Int):=λx hx=>by
     have:x.1∈m.map (·.1):=List.mem_map.2 ⟨x,hp.mem_iff.1 hx,rfl⟩;rw[e2]at this;obtain⟨y,hy,e⟩:=List.mem_map.1 this;rw[<-e];exact hy
    obtain⟨R',r1,r2⟩:=QG (K:=K) hf hi (R:=R) l' [] R (λx hx=>v1.Ww _ (hr x hx)) ⟨hz.len,hz.wid,λa _ ha=>by rw[hz.zero a ha i (jU _) hi];rfl,λa _ _=>rfl,λ_ _ _ _=>rfl⟩;refine⟨R',r1,UN.tab hz ⟨r2.len,r2.wid,λa ha hb => ?_,r2.hi,r2.Wx⟩⟩;rw[r2.lo a ha hb];refine aad (λx => ?_) a;rw[AD,List.mem_map];refine⟨λ⟨y,hy,e⟩=>e▸ hr y hy,λhx => ?_⟩;have:pt x∈m.map (·.1):=by rw[e2];exact List.mem_map.2 ⟨x,hx,rfl⟩
    obtain⟨y,hy,e⟩:=List.mem_map.1 this;exact⟨y,hp.mem_iff.2 hy,by rw[e]⟩
   obtain⟨R',r1,r2⟩:=key m (List.Perm.refl _);have acD:wK (pP K (i:Int)) R m=some R':=MW λl' hp=>by
    obtain⟨R2,q1,q2⟩:=key l' hp;rw[q1,UM q2 r2]
   rw[p7,e1,au,acD,au,au,AX I];exact Kw hf h0 h8 hK d k (i+1) R' I I r2
  ·rw[ef];obtain rfl:i=f.bM.toNat:=by omega
   exact⟨R,rfl,hz⟩
end
section
variable {K:Nat}
def JC(x:Int):Prop:=-9223372036854775808<=x/\x<=9223372036854775807
structure P64(p:aE):Prop where
 f:∀f∈p.ah,JC f.aS/\JC f.dw/\JC f.bM
 c:∀f∈p.ah,∀c∈f.ai,JC c.A/\JC c.B/\JC c.C/\JC c.K
def uf(x n:Int):Bool:=decide (0<=x)&&decide (x<n)
theorem xU{x n:Int}:uf x n=true↔0<=x/\x<n:=by simp[uf]
structure Mi(f:aB):Prop where
 O:0<=f.aS
 p8:f.aS<=8
 r1:1<=f.dw
 rp:f.aS<=f.dw
 r16:f.dw<=16
 s0:0<=f.bM
 s8:f.bM<=8
 c1:1<=f.ai.length
 IE:f.ai.length<=512
theorem Np(f:aB) :∃b,kF f=some b/\vy f=some b/\(b=true->Mi f):=by
 have e:vy f=kF f:=rfl;rw[e];unfold kF;by_cases h1:f.aS<0
 ·rw[aP h1];exact⟨false,rfl,rfl,λh=>Bool.noConfusion h⟩
 rw[cu h1];by_cases h2:f.aS>8
 ·rw[aP h2];exact⟨false,rfl,rfl,λh=>Bool.noConfusion h⟩
 rw[cu h2];by_cases h3:f.dw<1
 ·rw[aP h3];exact⟨false,rfl,rfl,λh=>Bool.noConfusion h⟩
 rw[cu h3];by_cases h4:f.dw<f.aS
 ·rw[aP h4];exact⟨false,rfl,rfl,λh=>Bool.noConfusion h⟩
 rw[cu h4];by_cases h5:f.dw>16
 ·rw[aP h5];exact⟨false,rfl,rfl,λh=>Bool.noConfusion h⟩
 rw[cu h5,fA];by_cases h6:f.bM>=0
 ·rw[aP h6];by_cases h7:f.bM<=8
  ·rw[aP h7];by_cases h8:((f.ai.length:Nat):Int)>=1
   ·rw[aP h8];exact⟨_,rfl,rfl,λh=>⟨I,I,I,I,I,h6,h7,I,by have:=of_decide_eq_true h;omega⟩⟩
   ·rw[cu h8];exact⟨false,rfl,rfl,λh=>Bool.noConfusion h⟩
  ·rw[cu h7];exact⟨false,rfl,rfl,λh=>Bool.noConfusion h⟩
 ·rw[cu h6];exact⟨false,rfl,rfl,λh=>Bool.noConfusion h⟩
def nH(f:aB)(c:ct):Bool:=
 if c.aN=0∨c.aN=8∨c.aN=9 then uf c.A f.dw
 else if c.aN=1 then uf c.A f.dw&&uf c.B f.dw
 else if c.aN=2 then uf c.A f.dw&&uf c.B f.dw&&uf c.C f.dw&&uf c.K 16
 else if c.aN=3 then uf c.A f.ai.length
 else if c.aN=4 then uf c.A f.dw&&uf c.B f.ai.length
 else if c.aN=5 then uf c.A f.bM
 else if c.aN=6 then true
 else if c.aN=7 then uf c.A f.dw&&uf c.B f.bM
 else false
def wz(p:aE)(f:aB)(c:ct):Bool:=
 if c.aN=5 then uf c.B p.ah.length&&(decide ((J p.ah c.B.toNat).aS=0)||(decide (0<=c.C)&&decide (c.C<=f.dw-(J p.ah c.B.toNat).aS)))else true
theorem IF(x n:Int):gR x n=some (uf x n):=by
 unfold gR uf;by_cases h:0<=x
 ·rw[aP h];simp[h]
 ·rw[cu h];simp[h]
theorem wA(x n:Int):(if x>=0 then some (decide (x<n))else some false)=some (uf x n):=by
 unfold uf;by_cases h:0<=x
 ·rw[aP h];simp[h]
 ·rw[cu h];simp[h]
theorem Nq(f:aB)(c:ct):oh f c=some (nH f c):=by
 unfold oh nH;simp only[IF,au];by_cases h0:c.aN=0
 ·simp[h0]
 by_cases h8:c.aN=8
 ·simp[h8]
 by_cases h9:c.aN=9
 ·simp[h9]
 simp only[h0,h8,h9,if_false,au,false_or];have:((c.aN==9)=true)=False:=by simp[h9]
 simp only[this,if_false];by_cases h1:c.aN=1
 ·simp only[h1,if_true];cases uf c.A f.dw<;>simp
 by_cases h2:c.aN=2
 ·simp only[h2,if_true,cu (show ¬(2:Int)=1 by decide)];cases uf c.A f.dw<;>cases uf c.B f.dw<;>cases uf c.C f.dw<;>simp[uf];by_cases h:0<=c.K<;>simp[h]
 by_cases h3:c.aN=3
 ·simp[h3]
 by_cases h4:c.aN=4
 ·simp only[h4,if_true,cu (show ¬(4:Int)=1 by decide),cu (show ¬(4:Int)=2 by decide),cu (show ¬(4:Int)=3 by decide)];cases uf c.A f.dw<;>simp
 by_cases h5:c.aN=5
 ·simp[h5]
 by_cases h6:c.aN=6
 ·simp[h6]
 by_cases h7:c.aN=7
 ·simp only[h7,if_true,cu (show ¬(7:Int)=1 by decide),cu (show ¬(7:Int)=2 by decide),cu (show ¬(7:Int)=3 by decide),cu (show ¬(7:Int)=4 by decide),cu (show ¬(7:Int)=5 by decide),cu (show ¬(7:Int)=6 by decide)];cases uf c.A f.dw<;>simp
 simp[h1,h2,h3,h4,h5,h6,h7]
theorem R6{p:aE}{f:aB}{c:ct}(hs:∀g∈p.ah,Mi g)(hf:Mi f):pM p f c=some (wz p f c):=by
 unfold pM wz;by_cases h5:c.aN=5
 ·rw[aP h5,aP h5,IF,au];cases hb:uf c.B p.ah.length
  ·simp
  ·have hb':=xU.1 hb;have hg:=hs _ (sB (l:=p.ah) (i:=c.B.toNat) I);rw[aP rfl,aP hb'];by_cases hn:(J p.ah c.B.toNat).aS=0
   ·rw[aP hn];simp[hn]
   ·rw[cu hn,IF,au];have:=hg.O;have:=hg.p8;have:=hf.r16;cases hc:uf c.C f.dw
    ·have:¬(0<=c.C/\c.C<=f.dw-(J p.ah c.B.toNat).aS):=λh=>by
      have:uf c.C f.dw=true:=xU.2 ⟨h.1,I⟩;rw[hc]at this;exact Bool.noConfusion this
     simp[hn];intro h;omega
    ·have FV:=xU.1 hc;rw[aP rfl,eO (x:=f.dw-c.C) I];simp[hn,FV.1];omega
 ·rw[cu h5,cu h5]
theorem UO{p:aE}{f:aB}{c:ct}(hs:∀g∈p.ah,Mi g)(hf:Mi f)(hp:0<p.ah.length):vz c f p.ah=some (nH f c&&wz p f c):=by
 unfold vz nH wz;by_cases hk0:c.aN<0
 ·rw[aP hk0];simp only[KV];rw[ef,ef,ef,ef,ef,ef,ef,ef];rfl
 by_cases hk1:c.aN>=10
 ·rw[cu hk0,aP hk1];simp only[KV];rw[ef,ef,ef,ef,ef,ef,ef,ef];rfl
 rw[cu hk0,cu hk1,fA,aP ⟨I,show c.aN<10 by omega⟩,aP hp,jC];have hl:¬((p.ah.length:Nat):Int)<0:=by omega
 have hK:(if c.K<0 then(some (.inr false):Option (Unit⊕Bool))else(if c.K>=16 then some (.inr false)else some (.inl ())))=if uf c.K 16=true then some (.inl ())else some (.inr false):=by
  unfold uf;by_cases h:c.K<0
  ·rw[aP h];simp;omega
  ·rw[cu h];by_cases h':c.K>=16
   ·rw[aP h'];simp;omega
   ·rw[cu h'];simp;omega
 unfold ye;rcases(by omega:c.aN=0∨c.aN=1∨c.aN=2∨c.aN=3∨c.aN=4∨c.aN=5∨c.aN=6∨c.aN=7∨c.aN=8∨c.aN=9)with h | h | h | h | h | h | h | h | h | h
 ·simp only[h,show(J yK (0:Int).toNat)=⟨1,0,0,0,true⟩from rfl];simp[wA];cases uf c.A f.dw<;>simp[ei,zZ]
 ·simp only[h,show(J yK (1:Int).toNat)=⟨1,1,0,0,true⟩from rfl];simp[wA];cases uf c.A f.dw<;>cases uf c.B f.dw<;>simp[ei,zZ]
 ·simp only[h,show(J yK (2:Int).toNat)=⟨1,1,1,5,true⟩from rfl];simp[wA];cases uf c.A f.dw<;>cases uf c.B f.dw<;>cases uf c.C f.dw<;>simp[ei,zZ,hK];cases uf c.K 16<;>simp
 ·simp only[h,show(J yK (3:Int).toNat)=⟨3,0,0,0,false⟩from rfl];simp[wA];cases uf c.A f.ai.length<;>simp[ei,zZ]
 ·simp only[h,show(J yK (4:Int).toNat)=⟨1,3,0,0,true⟩from rfl];simp[wA];cases uf c.A f.dw<;>cases uf c.B f.ai.length<;>simp[ei,zZ]
 ·simp only[h,show(J yK (5:Int).toNat)=⟨2,4,0,0,true⟩from rfl];simp[wA,hl,hp];cases hA:uf c.A f.bM
  ·simp[ei,zZ]
  ·cases hB:uf c.B p.ah.length
   ·simp[ei,zZ]
   ·have hb':=xU.1 hB;have hg:=hs _ (sB (l:=p.ah) (i:=c.B.toNat) I);have:=hg.O;have:=hg.p8;have:=hf.r16;have:=hf.r1;rw[eO (x:=f.dw-(J p.ah c.B.toNat).aS) I];have hir:bI c.B p.ah.length:=⟨hb'.1,hb'.2⟩;simp[ei,zZ];by_cases hn:(J p.ah c.B.toNat).aS=0
    ·simp[hn];exact hir
    ·simp[hn];by_cases hc:0<=c.C<;>simp[hc]<;>exact hir
 ·simp only[h,show(J yK (6:Int).toNat)=⟨0,0,0,0,true⟩from rfl];simp[wA,ei,zZ]
 ·simp only[h,show(J yK (7:Int).toNat)=⟨1,2,0,0,true⟩from rfl];simp[wA];cases uf c.A f.dw<;>cases uf c.B f.bM<;>simp[ei,zZ]
 ·simp only[h,show(J yK (8:Int).toNat)=⟨1,0,0,0,true⟩from rfl];simp[wA];cases uf c.A f.dw<;>simp[ei,zZ]
 ·simp only[h,show(J yK (9:Int).toNat)=⟨1,0,0,0,false⟩from rfl];simp[wA];cases uf c.A f.dw<;>simp[ei,zZ]
end
section
variable {K:Nat}
def O7(f:aB):Bool:=(decide ((J f.ai (f.ai.length-1)).aN=3)||decide ((J f.ai (f.ai.length-1)).aN=9))
theorem Lp{f:aB}(hf:Mi f):nP f=some (O7 f)/\wO f=some (O7 f):=by
 have e:wO f=nP f:=rfl;rw[e,and_self];unfold nP O7;have h1:=hf.c1;have h2:=hf.IE;rw[eO I,aP ⟨I,I⟩,show(((f.ai.length:Nat):Int)-1).toNat=f.ai.length-1 by omega];split
 ·rename_i h;simp[h]
 ·rename_i h;simp[h];rfl
def QH(p:aE)(f:aB)(c:ct):Prop:=nH f c=true/\wz p f c=true
structure Code(p:aE)(f:aB):Prop where
 ins:∀a,a<f.ai.length->QH p f (J f.ai a)
 fin:O7 f=true
theorem Code.snd{p:aE}{f:aB}(hs:Mi f)(h:Code p f):O4 f:=by
 have h1:=hs.c1;have h2:=hs.IE;have kd:∀a:Nat,a<f.ai.length->0<=(J f.ai a).aN/\(J f.ai a).aN<10:=λa ha=>by
  have:=(h.ins a ha).1;unfold nH at this;by_cases e:0<=(J f.ai a).aN/\(J f.ai a).aN<10
  ·exact e
  ·rw[ef,ef,ef,ef,ef,ef,ef,ef]at this;exact Bool.noConfusion this
 have en:=h.fin;unfold O7 at en;simp only[B4,B5]at en;refine⟨h1,h2,λa h0 h1 n hn => ?_,λa h0 h1=>kd _ I⟩;have hi:=(h.ins a.toNat I).1;unfold nH at hi;have last:¬(J f.ai a.toNat).aN=3->¬(J f.ai a.toNat).aN=9->a+1<f.ai.length:=λe3 e9=>by
  by_cases e:a.toNat=f.ai.length-1
  ·rw[<-e]at en;rcases en with en | en
   ·exact absurd en e3
   ·exact absurd en e9
  ·omega
 unfold Mo.nx at hn;split at hn
 ·rename_i e;rw[ef,ef,ef,aP e]at hi;rw[List.mem_singleton.1 hn];exact xU.1 hi
 ·rename_i e3;split at hn
  ·exact absurd hn (by simp)
  ·rename_i e9;have:=last e3 e9;split at hn
   ·rename_i e4;rw[ef,ef,ef,ef,aP e4,mR]at hi;have:=xU.1 hi.2;rcases List.mem_cons.1 hn with rfl | hn
    ·omega
    ·rw[List.mem_singleton.1 hn];exact this
   ·rw[List.mem_singleton.1 hn];omega
theorem YY{p:aE}(hn:p.ah.length<=32):∀(d k i:Nat),i+d=p.ah.length->d<k->(∀a,a<i->Mi (J p.ah a))->
 (∃x:fa,jr K p k (i:Int)=some (.inr x)/\oY K p k (i:Int)=some (.inr x)/\x.zO≠0)∨
 (jr K p k (i:Int)=some (.inl ())/\oY K p k (i:Int)=some (.inl ())/\∀a,a<p.ah.length->Mi (J p.ah a))
 | d,k,i,hd,hk,h=>by
  obtain⟨k,rfl⟩ :∃m,k=m+1:=⟨k-1,I⟩;rw[jr,oY];by_cases hi:i<p.ah.length
  ·obtain⟨d,rfl⟩ :∃m,d=m+1:=⟨d-1,I⟩;obtain⟨b,e1,e2,e3⟩:=Np (J p.ah i);rw[p7,aP ⟨I,I⟩,p7,aP ⟨I,I⟩,cQ,e1,au,e2,au,AX I];cases b
   ·left;exact⟨⟨51,i,0⟩,rfl,rfl,by show(51:Int)≠0;decide⟩
   ·exact YY hn d k (i+1) I I (λa ha=>by
     by_cases e:a=i
     ·subst e;exact e3 rfl
     ·exact h a I)
  ·rw[ef,ef]
   right;exact⟨rfl,rfl,λa ha=>h a I⟩
theorem YZ{p:aE}{n:Nat}(hs:∀g∈p.ah,Mi g)(hn:n<p.ah.length):∀(d k i:Nat),i+d=(J p.ah n).ai.length->d<k->(∀a,a<i->QH p (J p.ah n) (J (J p.ah n).ai a))->
 (∃j:Int,js K p (n:Int) k (i:Int)=some (.inr (.inr (.inr ⟨52,n,j⟩)))/\gM K (n:Int) (J p.ah n) p.ah k (i:Int)=some (.inr (.inr ⟨52,n,j⟩)))∨
 (js K p (n:Int) k (i:Int)=some (.inl ())/\gM K (n:Int) (J p.ah n) p.ah k (i:Int)=some (.inl ())/\∀a,a<(J p.ah n).ai.length->QH p (J p.ah n) (J (J p.ah n).ai a))
 | d,k,i,hd,hk,h=>by
  obtain⟨k,rfl⟩ :∃m,k=m+1:=⟨k-1,I⟩;have hf:=hs _ (sB hn);have Ln:=hf.IE;rw[js,gM];by_cases hi:i<(J p.ah n).ai.length
  ·obtain⟨d,rfl⟩ :∃m,d=m+1:=⟨d-1,I⟩;rw[cQ,p7,aP ⟨I,I⟩,p7,aP ⟨I,I⟩,cQ,Nq,au,UO hs hf I,au,AX I];cases e1:nH (J p.ah n) (J (J p.ah n).ai i)
   ·left;exact⟨i,rfl,rfl⟩
   ·rw[aP rfl,R6 hs hf,au];cases e2:wz p (J p.ah n) (J (J p.ah n).ai i)
    ·left;exact⟨i,rfl,rfl⟩
    ·rw[aP rfl,Bool.true_and,aP rfl];exact YZ hs hn d k (i+1) I I (λa ha=>by
      by_cases e:a=i
      ·subst e;exact⟨e1,e2⟩
      ·exact h a I)
  ·rw[cQ,ef,ef]
   right;exact⟨rfl,rfl,λa ha=>h a I⟩
theorem Y0{p:aE}(hn:p.ah.length<=32)(hs:∀g∈p.ah,Mi g)(hK:3000<K):∀(d k i:Nat),i+d=p.ah.length->d<k->(∀a,a<i->Code p (J p.ah a))->
 (∃x:fa,jt K p k (i:Int)=some (.inr x)/\oZ K p k (i:Int)=some (.inr x)/\x.zO≠0)∨
 (jt K p k (i:Int)=some (.inl ())/\oZ K p k (i:Int)=some (.inl ())/\∀a,a<p.ah.length->Code p (J p.ah a))
 | d,k,i,hd,hk,h=>by
  obtain⟨k,rfl⟩ :∃m,k=m+1:=⟨k-1,I⟩;rw[jt,oZ];by_cases hi:i<p.ah.length
  ·obtain⟨d,rfl⟩ :∃m,d=m+1:=⟨d-1,I⟩;have hf:=hs _ (sB hi);have Ln:=hf.IE;rw[p7,aP ⟨I,I⟩,p7,aP ⟨I,I⟩,cQ];unfold oq;rcases YZ (K:=K) hs hi (J p.ah i).ai.length K 0 I I (λa ha=>I)with ⟨j,e1,e2⟩ | ⟨e1,e2,e3⟩
   ·rw[pL]at e1 e2;rw[e1,e2];left;exact⟨⟨52,i,j⟩,rfl,rfl,by show(52:Int)≠0;decide⟩
   ·rw[pL]at e1 e2;rw[e1,e2,fA,fA,(Lp hf).1,(Lp hf).2,au,au];cases e4:O7 (J p.ah i)
    ·left;exact⟨⟨53,i,wi (((J p.ah i).ai.length:Int)-1)⟩,rfl,rfl,by show(53:Int)≠0;decide⟩
    ·rw[aP rfl,aP rfl,fA,au,AX I];exact Y0 hn hs hK d k (i+1) I I (λa ha=>by
      by_cases e:a=i
      ·subst e;exact⟨e3,e4⟩
      ·exact h a I)
  ·rw[ef,ef]
   right;exact⟨rfl,rfl,λa ha=>h a I⟩
def FW(f:aB)(a:Nat):Prop:=
 ((J f.ai a).aN=5->((a:Int),2)∉reach f (J f.ai a).A)/\
 ((J f.ai a).aN=7->((a:Int),1)∉reach f (J f.ai a).B/\((a:Int),2)∉reach f (J f.ai a).B)/\
 ((J f.ai a).aN=9->∀c:Nat,c<f.bM.toNat->((a:Int),2)∉reach f c)
theorem acE:∀(a b c:Bool),((iB ((if a then 1 else 0)+(if b then 2 else 0)+(if c then 4 else 0)) 3=0)↔a=false/\b=false):=by
 intro a b c;cases a<;>cases b<;>cases c<;>decide
theorem UP{V:List Pt}{a:Int}:iB (wt V a) 3=0↔(a,1)∉V/\(a,2)∉V:=by
 have:=acE (decide ((a,1)∈V)) (decide ((a,2)∈V)) (decide ((a,4)∈V));simp only[B5,decide_eq_false_iff_not]at this;unfold wt;rw[this]
theorem Xq{p:aE}{f:aB}(hs:Mi f)(hc:Code p f)(hK:3000<K) :∃R,rG K f=some R/\wR K f=some R/\QC f R f.bM.toNat:=by
 have hf:=hc.snd hs;have h1:=hs.c1;have h2:=hs.IE;have hsd:∀(d k i:Nat),i+d=f.ai.length->d<k->jq K f k (i:Int)=some true:=by
  intro d
  induction d with
  | zero =>
   intro k i hd hk;obtain⟨k,rfl⟩ :∃m,k=m+1:=⟨k-1,I⟩;rw[jq,ef,(Lp hs).1,au,hc.fin]
  | succ d ih =>
   intro k i hd hk;obtain⟨k,rfl⟩ :∃m,k=m+1:=⟨k-1,I⟩;rw[jq,p7,aP ⟨I,I⟩,Nq,au,cQ,(hc.ins i I).1,aP rfl,AX I];exact ih k (i+1) I I
 obtain⟨b,e1,e2,e3⟩:=Np f;have hb:b=true:=by
  cases b
  ·exfalso
   unfold kF at e1;have:=hs.O;have:=hs.p8;have:=hs.r1;have:=hs.rp;have:=hs.r16;have:=hs.s0;have:=hs.s8;rw[ef,ef,ef,ef,ef,fA,p7,p7,p7,tY I]at e1;exact Bool.noConfusion (Option.some.inj e1)
  ·rfl
 unfold rG th wR;have acF:=hsd f.ai.length K 0 I I;rw[pL]at acF;rw[e1,au,hb,aP rfl,acF,au,aP rfl,aP ⟨I,I⟩,aP ⟨I,I⟩];obtain⟨R,r1,r2,r3⟩:=QD (K:=K) hf hs.s0 hs.s8 f.ai.length K 0 (List.replicate f.ai.length []) I I ⟨by simp,λa ha=>I⟩;rw[pL]at r1 r2;rw[r1,r2,au,au];have hs8:=hs.s8;have ht:QC f R 0:=⟨r3.1,λa ha=>by rw[r3.2 a ha];simp,λa ha c hc=>I,λa ha c _ hc=>by rw[r3.2 a ha,EU hc]⟩;obtain⟨R1,a1,a2⟩:=QF (K:=K) hf hs.s0 hs.s8 hK f.bM.toNat K 0 R I I ht;obtain⟨R2,b1,b2⟩:=Kw (K:=K) hf hs.s0 hs.s8 hK f.bM.toNat K 0 R I I ht;rw[pL]at a1 b1;have:=UM a2 b2;subst this;exact⟨R1,a1,b1,a2⟩
theorem UQ{f:aB}{R:List (List Int)}(ht:QC f R f.bM.toNat)(h8:f.bM<=8){a:Nat}(ha:a<f.ai.length):∀(d k i:Nat),i+d=f.bM.toNat->d<k->
 ((∃c,i<=c/\c<f.bM.toNat/\((a:Int),2)∈reach f c)->ic K (J R a) k (i:Int)=some 56/\∀g,jI K R a k g (i:Int)=some 56)/\
 ((∀c,i<=c->c<f.bM.toNat->((a:Int),2)∉reach f c)->ic K (J R a) k (i:Int)=some 0/\∀g,jI K R a k g (i:Int)=some g)
 | d,k,i,hd,hk=>by
  obtain⟨k,rfl⟩ :∃m,k=m+1:=⟨k-1,I⟩;have hw:=ht.wid a ha;simp only[ic,jI,cQ];by_cases hi:i<f.bM.toNat
  ·obtain⟨d,rfl⟩ :∃m,d=m+1:=⟨d-1,I⟩;obtain⟨Wr,ZY⟩:=UQ ht h8 ha d k (i+1) I I;have key:iB (J (J R a) i) 2=0↔((a:Int),(2:Int))∉reach f i:=by rw[ht.val a ha i hi hi];exact HA (.inr (.inl rfl))
   rw[p7,aP ⟨I,I⟩,AX I];by_cases e:((a:Int),(2:Int))∈reach f i
   ·rw[cu (λh=>key.1 h e)];refine⟨λ_=>⟨rfl,λg => ?_⟩,λh=>absurd e (h i (jU _) hi)⟩;rw[p7,aP ⟨I,I⟩,cu (λh=>key.1 h e)];by_cases e2 :∃c,i+1<=c/\c<f.bM.toNat/\((a:Int),(2:Int))∈reach f c
    ·exact(Wr e2).2 56
    ·exact(ZY (λc h1 h2 h3=>e2 ⟨c,h1,h2,h3⟩)).2 56
   ·have hb:=key.2 e;rw[aP hb];refine⟨λ⟨c,h1,h2,h3⟩ => ?_,λh => ?_⟩
    ·have:c≠i:=λe'=>by subst e';exact e h3
     obtain⟨x,y⟩:=Wr ⟨c,I,h2,h3⟩;refine⟨x,λg => ?_⟩;rw[p7,aP ⟨I,I⟩,aP hb];exact y g
    ·obtain⟨x,y⟩:=ZY (λc h1 h2=>h c I h2);refine⟨x,λg => ?_⟩;rw[p7,aP ⟨I,I⟩,aP hb];exact y g
  ·rw[ef];refine⟨λ⟨c,h1,h2,_⟩=>I,λ_=>⟨rfl,λg => ?_⟩⟩;rw[ef]
theorem QI{p:aE}{n:Nat}(hn:n<p.ah.length)(hs:Mi (J p.ah n))(hc:Code p (J p.ah n))(hK:3000<K){R:List (List Int)}(ht:QC (J p.ah n) R (J p.ah n).bM.toNat):∀(d k i:Nat),i+d=(J p.ah n).ai.length->d<k->(∀a,a<i->FW (J p.ah n) a)->
 (∃e j:Int,e≠0/\ju K p (n:Int) R k (i:Int)=some (.inr ⟨e,n,j⟩)/\lZ K (n:Int) (J p.ah n) R k (i:Int)=some (.inr ⟨e,n,j⟩))∨
 (ju K p (n:Int) R k (i:Int)=some (.inl ())/\lZ K (n:Int) (J p.ah n) R k (i:Int)=some (.inl ())/\∀a,a<(J p.ah n).ai.length->FW (J p.ah n) a)
 | d,k,i,hd,hk,h=>by
  obtain⟨k,rfl⟩ :∃m,k=m+1:=⟨k-1,I⟩;have Ln:=hs.IE;have h8:=hs.s8;rw[ju,lZ];by_cases hi:i<(J p.ah n).ai.length
  ·obtain⟨d,rfl⟩ :∃m,d=m+1:=⟨d-1,I⟩;have hl:=ht.len;have hw:=ht.wid i hi;rw[cQ,p7,aP ⟨I,I⟩,aP ⟨I,I⟩,p7,aP ⟨I,I⟩,cQ,AX I];have key :∃e:Int,nL K (J (J p.ah n).ai i) (J R i)=some e/\
    (if(J (J p.ah n).ai i).aN=5 then if bI (i:Int) R.length then if bI (J (J p.ah n).ai i).A (J R i).length then(if(iB (J (J R i) (J (J p.ah n).ai i).A.toNat) (2:Int))=0 then some 0 else some 54)else none else none else(if(J (J p.ah n).ai i).aN=7 then if bI (i:Int) R.length then if bI (J (J p.ah n).ai i).B (J R i).length then(if(iB (J (J R i) (J (J p.ah n).ai i).B.toNat) (3:Int))=0 then some 0 else some 55)else none else none else(if(J (J p.ah n).ai i).aN=9 then if bI (i:Int) R.length then(jI K R i K 0 0)else none else some 0)))=some e/\(e=0->FW (J p.ah n) i):=by
    have UR:=(hc.ins i hi).1;unfold nH at UR;unfold nL;by_cases k5:(J (J p.ah n).ai i).aN=5
    ·rw[ef,ef,ef,ef,ef,aP k5]at UR;have hA:=xU.1 UR;have key:iB (J (J R i) (J (J p.ah n).ai i).A.toNat) 2=0↔((i:Int),(2:Int))∉reach (J p.ah n) (J (J p.ah n).ai i).A:=by
      rw[ht.val i hi _ I I,show(((J (J p.ah n).ai i).A.toNat:Nat):Int)=(J (J p.ah n).ai i).A by omega];exact HA (.inr (.inl rfl))
     by_cases e:((i:Int),(2:Int))∈reach (J p.ah n) (J (J p.ah n).ai i).A
     ·rw[aP k5,aP k5,aP ⟨hA.1,I⟩,cu (λh=>key.1 h e),aP ⟨I,I⟩];exact⟨54,rfl,rfl,λh=>absurd h eC⟩
     ·rw[aP k5,aP k5,aP ⟨hA.1,I⟩,aP (key.2 e),aP ⟨I,I⟩];exact⟨0,rfl,rfl,λ_=>⟨λ_=>e,λh=>I,λh=>I⟩⟩
    rw[cu k5,cu k5];by_cases k7:(J (J p.ah n).ai i).aN=7
    ·rw[ef,ef,ef,ef,ef,ef,ef,aP k7,mR]at UR;have hB:=xU.1 UR.2;have key:iB (J (J R i) (J (J p.ah n).ai i).B.toNat) 3=0↔((i:Int),(1:Int))∉reach (J p.ah n) (J (J p.ah n).ai i).B/\((i:Int),(2:Int))∉reach (J p.ah n) (J (J p.ah n).ai i).B:=by
      rw[ht.val i hi _ I I,show(((J (J p.ah n).ai i).B.toNat:Nat):Int)=(J (J p.ah n).ai i).B by omega];exact UP
     by_cases e:iB (J (J R i) (J (J p.ah n).ai i).B.toNat) 3=0
     ·rw[aP k7,aP k7,aP ⟨hB.1,I⟩,aP e,aP ⟨I,I⟩];exact⟨0,rfl,rfl,λ_=>⟨λh=>I,λ_=>key.1 e,λh=>I⟩⟩
     ·rw[aP k7,aP k7,aP ⟨hB.1,I⟩,cu e,aP ⟨I,I⟩];exact⟨55,rfl,rfl,λh=>absurd h eC⟩
    rw[cu k7,cu k7];by_cases k9:(J (J p.ah n).ai i).aN=9
    ·rw[aP k9,aP k9,aP ⟨I,I⟩];obtain⟨o1,o2⟩:=UQ (K:=K) ht h8 hi (J p.ah n).bM.toNat K 0 I I;rw[pL]at o1 o2;by_cases e :∃c,0<=c/\c<(J p.ah n).bM.toNat/\((i:Int),(2:Int))∈reach (J p.ah n) c
     ·exact⟨56,(o1 e).1,(o1 e).2 0,λh=>absurd h eC⟩
     ·have e':∀c,0<=c->c<(J p.ah n).bM.toNat->((i:Int),(2:Int))∉reach (J p.ah n) c:=λc h1 h2 h3=>e ⟨c,h1,h2,h3⟩;exact⟨0,(o2 e').1,(o2 e').2 0,λ_=>⟨λh=>I,λh=>I,λ_ c hc=>e' c (Et _) hc⟩⟩
    ·rw[cu k9,cu k9];exact⟨0,rfl,rfl,λ_=>⟨λh=>absurd h k5,λh=>absurd h k7,λh=>absurd h k9⟩⟩
   obtain⟨e,e1,e2,e3⟩:=key;rw[e1,e2,au,au];by_cases e0:e=0
   ·rw[aP e0,aP e0,fA];exact QI hn hs hc hK ht d k (i+1) I I (λa ha=>by
     by_cases e:a=i
     ·subst e;exact e3 e0
     ·exact h a I)
   ·rw[cu e0,cu e0];left;exact⟨e,i,e0,rfl,rfl⟩
  ·rw[cQ,ef,ef]
   right;exact⟨rfl,rfl,λa ha=>h a I⟩
theorem Y1{p:aE}(hn:p.ah.length<=32)(hs:∀g∈p.ah,Mi g)(hc:∀a,a<p.ah.length->Code p (J p.ah a))(hK:3000<K):∀(d k i:Nat),i+d=p.ah.length->d<k->(∀a,a<i->∀b,b<(J p.ah a).ai.length->FW (J p.ah a) b)->
 ∃x:fa,kG K p k (i:Int)=some x/\q7 K p k (i:Int)=some x/\(x.zO=0->∀a,a<p.ah.length->∀b,b<(J p.ah a).ai.length->FW (J p.ah a) b)
 | d,k,i,hd,hk,h=>by
  obtain⟨k,rfl⟩ :∃m,k=m+1:=⟨k-1,I⟩;rw[kG,q7];by_cases hi:i<p.ah.length
  ·obtain⟨d,rfl⟩ :∃m,d=m+1:=⟨d-1,I⟩;have hf:=hs _ (sB hi);have Ln:=hf.IE;rw[p7,aP ⟨I,I⟩,p7,aP ⟨I,I⟩,cQ];unfold wc;obtain⟨R,r1,r2,r3⟩:=Xq (K:=K) hf (hc i hi) hK;rw[r1,r2,au,au];rcases QI (K:=K) hi hf (hc i hi) hK r3 (J p.ah i).ai.length K 0 I I (λa ha=>I)with ⟨e,j,e0,e1,e2⟩ | ⟨e1,e2,e3⟩
   ·rw[pL]at e1 e2;rw[e1,e2];exact⟨⟨e,i,j⟩,rfl,rfl,λh=>absurd h e0⟩
   ·rw[pL]at e1 e2;rw[e1,e2,fA,au,AX I];exact Y1 hn hs hc hK d k (i+1) I I (λa ha=>by
     by_cases e:a=i
     ·subst e;exact e3
     ·exact h a I)
  ·rw[ef,ef];exact⟨⟨0,0,0⟩,rfl,rfl,λ_ a ha=>h a I⟩
structure Valid(p:aE):Prop where
 n1:1<=p.ah.length
 n32:p.ah.length<=32
 G3:∀a,a<p.ah.length->Mi (J p.ah a)
 code:∀a,a<p.ah.length->Code p (J p.ah a)
 slot:∀a,a<p.ah.length->∀b,b<(J p.ah a).ai.length->FW (J p.ah a) b
theorem US(p:aE)(hK:3000<K) :∃x:fa,j4 K p=some x/\yx K p=some x/\(x.zO=0->Valid p):=by
 unfold j4 yx;by_cases h1:((p.ah.length:Nat):Int)<1
 ·rw[aP h1];exact⟨_,rfl,rfl,λh=>absurd h eC⟩
 rw[cu h1];by_cases h2:((p.ah.length:Nat):Int)>32
 ·rw[aP h2];exact⟨_,rfl,rfl,λh=>absurd h eC⟩
 rw[cu h2,fA,fA];rcases YY (K:=K) (p:=p) I p.ah.length K 0 I I (λa ha=>I)with ⟨x,e1,e2,e3⟩ | ⟨e1,e2,e3⟩
 ·rw[pL]at e1 e2;rw[e1,e2];exact⟨x,rfl,rfl,λh=>absurd h e3⟩
 rw[pL]at e1 e2;have hs:∀g∈p.ah,Mi g:=λg hg=>by
  obtain⟨i,hi,e⟩:=List.getElem_of_mem hg;have:=e3 i hi;unfold J at this;rw[List.getD_eq_getElem?_getD,List.getElem?_eq_getElem hi]at this;rw[<-e];exact this
 rw[e1,e2,fA,fA];rcases Y0 (K:=K) (p:=p) I hs hK p.ah.length K 0 I I (λa ha=>I)with ⟨x,a1,a2,a3⟩ | ⟨a1,a2,a3⟩
 ·rw[pL]at a1 a2;rw[a1,a2];exact⟨x,rfl,rfl,λh=>absurd h a3⟩
 rw[pL]at a1 a2;rw[a1,a2,fA,fA];obtain⟨x,b1,b2,b3⟩:=Y1 (K:=K) (p:=p) I hs a3 hK p.ah.length K 0 I I (λa ha=>I);rw[pL]at b1 b2;exact⟨x,b1,b2,λh=>⟨I,I,e3,a3,b3 h⟩⟩
end
end Mo
end
end Go.Proofs.YtpikpffbcjpmcaaGreatDoor

/- plunderlaw11.WorkerJoins answers true for every input of the bulk that the statement names, and leaves its input alone. Conditions: none. -/
import Derived.Test.YtpikpffbcjpmcaaGreatDoorV0
set_option linter.unusedVariables false
set_option linter.unusedSimpArgs false
set_option linter.unusedSectionVars false
set_option maxRecDepth 100000
set_option maxHeartbeats 4000000
set_option autoImplicit true
set_option relaxedAutoImplicit true
namespace Go.Proofs.YtpikpffbcjpmcaaGreatDoor
open Proofs.Tryz
section
namespace GX
open Go Go.RowKit SL
def Gb:Value->Value->Bool
 | .int k _,.int k' _=>k==k'
 | .bool _,.bool _=>true
 | _,_=>false
def Aw:List Value->List Value->Bool
 | [],[]=>true
 | u::us,v::vs=>Gb u v&&Aw us vs
 | _,_=>false
def R8:List Value->List Value->Bool
 | .int a _::_,.int b _::_=>a==b
 | _,_=>false
def R9:List Value->List Value->Bool
 | .bool _::_,.bool _::_=>true
 | _,_=>false
theorem K0{us vs:List Value}(h:R8 us vs=true) :∃k x y us' vs',us= .int k x::us'/\vs= .int k y::vs':=by
 unfold R8 at h;split at h
 ·simp only[vJ]at h;subst h;exact⟨_,_,_,_,_,rfl,rfl⟩
 ·cases h
theorem K1{us vs:List Value}(h:R9 us vs=true) :∃x y us' vs',us= .bool x::us'/\vs= .bool y::vs':=by
 unfold R9 at h;split at h
 ·exact⟨_,_,_,_,rfl,rfl⟩
 ·cases h
theorem PW{u v:Value}(h:Gb u v=true):(∃k x y,u= .int k x/\v= .int k y)∨∃x y,u= .bool x/\v= .bool y:=by
 unfold Gb at h;split at h
 ·simp only[vJ]at h;subst h;exact .inl ⟨_,_,_,rfl,rfl⟩
 ·exact .inr ⟨_,_,rfl,rfl⟩
 ·cases h
def yx(P:Program):Nat->Nat->List Field->List Value->List Value->Bool
 | 0,_,_,_,_=>false
 | k+1,i,fs,us,vs=>match fs with
  | []=>us.isEmpty&&vs.isEmpty
  | f::fs=>(f.name != "_")&&f.offset==i&&(match P.underlying f.type with
   | some (.int _)=>R8 us vs&&yx P k (i+1) fs us.tail vs.tail
   | some .bool=>R9 us vs&&yx P k (i+1) fs us.tail vs.tail
   | some (.struct _)=>(P.info? f.type).isSome && !(P.stoodInHeld f.type)&&Nat.ble (P.cellsOf f.type) us.length&&Nat.ble (P.cellsOf f.type) vs.length
    && yx P k 0 (P.fieldsOf f.type).toList (us.take (P.cellsOf f.type)) (vs.take (P.cellsOf f.type))&&yx P k (i+P.cellsOf f.type) fs (us.drop (P.cellsOf f.type)) (vs.drop (P.cellsOf f.type))
   | _=>false)
theorem Iy:∀{a c b d:List Value},Aw a c=true->Aw b d=true->Aw (a++b) (c++d)=true
 | [],[],_,_,_,h=>h
 | u::a,v::c,_,_,h1,h=>by
  simp only[Aw,lP]at h1;simp only[sP,Aw,lP];exact⟨h1.1,Iy h1.2 h⟩
theorem K2:∀{a c b d:List Value},Aw a c=true->tR (a++b) (c++d)=(tR a c&&tR b d)
 | [],[],_,_,_=>by simp[tR]
 | u::a,v::c,b,d,h=>by
  simp only[Aw,lP]at h;have ih:=K2 (b:=b) (d:=d) h.2;rcases PW h.1 with ⟨k,x,y,rfl,rfl⟩ | ⟨x,y,rfl,rfl⟩
  ·simp[tR,ih,Bool.and_assoc]
  ·simp[tR,ih,Bool.and_assoc]
section
variable {P:Program}{w:World}{o:Oper}{e:Nat->Value}
theorem wE:∀(k i:Nat) (fs:List Field) (us vs:List Value),yx P k i fs us vs=true->Aw us vs=true
 | 0,_,_,_,_,h=>by simp[yx]at h
 | k+1,_,[],us,vs,h=>by
  simp only[yx,lP,List.isEmpty_iff]at h;obtain⟨rfl,rfl⟩:=h
  rfl
 | k+1,i,f::fs,us,vs,h=>by
  simp only[yx,lP]at h;obtain⟨_,h⟩:=h;split at h
  ·simp only[lP]at h;obtain⟨kk,x,y,us',vs',rfl,rfl⟩:=K0 h.1;simp only[Aw,Gb,beq_self_eq_true,Bool.true_and];exact wE k _ _ _ _ h.2
  ·simp only[lP]at h;obtain⟨x,y,us',vs',rfl,rfl⟩:=K1 h.1;simp only[Aw,Gb,Bool.true_and];exact wE k _ _ _ _ h.2
  ·simp only[lP]at h;have a:=wE k _ _ _ _ h.1.2;have b:=wE k _ _ _ _ h.2;have:=Iy a b
   rwa [FG,FG]at this
  ·cases h
theorem K3{t:TypeId}{gs:Array Field}(h:P.underlying t=some (.struct gs)):P.fieldsOf t=gs:=by
 unfold Program.fieldsOf;rw[h]
theorem Iz{t:TypeId}{gs:Array Field}{cs:Array Value}{i:Nat}(h:P.underlying t=some (.struct gs))(hi:(P.info? t).isSome=true):(part t cs i).run P w= .ok (.agg (cs.extract i (i+P.cellsOf t))) w:=by
 obtain⟨q,hq⟩:=Option.isSome_iff_exists.1 hi;unfold part isAgg;simp only[mV,run_underlying h,mW,sO,if_true,run_sizeOf w hq]
theorem CU:∀(k D i:Nat) (fs:List Field) (us vs:List Value) (xs ys:Array Value),yx P k i fs us vs=true->k<=D->(∀j,us[j]? = xs[i+j]?∨us.length<=j)->(∀j,vs[j]? = ys[i+j]?∨vs.length<=j)->
 (Op.eqFields (D+1) xs ys fs).run P w= .ok (tR us vs) w
 | 0,_,_,_,_,_,_,_,h,_,_,_=>by simp[yx]at h
 | k+1,_,_,[],us,vs,_,_,h,_,_,_=>by
  simp only[yx,lP,List.isEmpty_iff]at h;obtain⟨rfl,rfl⟩:=h;simp[Op.eqFields,tR]
 | k+1,D,i,f::fs,us,vs,xs,ys,h,hD,hx,hy=>by
  simp only[yx,lP,bne_iff_ne,ne_eq,vJ]at h;obtain⟨⟨hn,ho⟩,h⟩:=h;have aH:∀(n:Nat) (zs:List Value) (cs:Array Value),(∀j,zs[j]? = cs[i+j]?∨zs.length<=j)->∀j,(zs.drop n)[j]? = cs[i+n+j]?∨(zs.drop n).length<=j:=λn zs cs hz j=>by
   rcases hz (n+j)with h | h
   ·left;rw[List.getElem?_drop,h,Ii]
   ·right;rw[Ah];omega
  split at h
  ·rename_i kk hty;simp only[lP]at h;obtain⟨a,x,y,us',vs',rfl,rfl⟩:=K0 h.1;have hx0:xs[i]? = some (.int a x):=by rcases hx 0 with h | h;simpa using h.symm;simp at h
   have hy0:ys[i]? = some (.int a y):=by rcases hy 0 with h | h;simpa using h.symm;simp at h
   have ih:=CU k D (i+1) fs us' vs' xs ys h.2 I (by simpa using aH 1 _ xs hx) (by simpa using aH 1 _ ys hy);have pa:=rJ (P:=P) (w:=w) (t:=f.type) (cs:=xs) (i:=f.offset) (v:=.int a x) (by rw[hty]) (by rw[ho];exact hx0);have pb:=rJ (P:=P) (w:=w) (t:=f.type) (cs:=ys) (i:=f.offset) (v:=.int a y) (by rw[hty]) (by rw[ho];exact hy0);rw[Op.eqFields];simp only[aP hn,mV,pa,pb,run_equalIn_int w D f.type a kk x y hty,mW];cases hab:(x==y)
   ·simp[tR,hab]
   ·simp[tR,hab,ih]
  ·rename_i hty;simp only[lP]at h;obtain⟨x,y,us',vs',rfl,rfl⟩:=K1 h.1;have hx0:xs[i]? = some (.bool x):=by rcases hx 0 with h | h;simpa using h.symm;simp at h
   have hy0:ys[i]? = some (.bool y):=by rcases hy 0 with h | h;simpa using h.symm;simp at h
   have ih:=CU k D (i+1) fs us' vs' xs ys h.2 I (by simpa using aH 1 _ xs hx) (by simpa using aH 1 _ ys hy);have pa:=rJ (P:=P) (w:=w) (t:=f.type) (cs:=xs) (i:=f.offset) (v:=.bool x) (by rw[hty]) (by rw[ho];exact hx0);have pb:=rJ (P:=P) (w:=w) (t:=f.type) (cs:=ys) (i:=f.offset) (v:=.bool y) (by rw[hty]) (by rw[ho];exact hy0);rw[Op.eqFields];simp only[aP hn,mV,pa,pb,run_equalIn_bool' w D f.type x y hty,mW];cases hab:(x==y)
   ·simp[tR,hab]
   ·simp[tR,hab,ih]
  ·rename_i gs hty;simp only[lP,Bool.not_eq_true',Nat.ble_eq]at h;obtain⟨⟨⟨⟨⟨hi,hp⟩,hu⟩,hv⟩,h1⟩,h2⟩:=h;obtain⟨D,rfl⟩ :∃m,D=m+1:=⟨D-1,I⟩;have cut:∀(zs:List Value) (cs:Array Value),P.cellsOf f.type<=zs.length->(∀j,zs[j]? = cs[i+j]?∨zs.length<=j)->∀j,(zs.take (P.cellsOf f.type))[j]? = (cs.extract i (i+P.cellsOf f.type))[0+j]?∨(zs.take (P.cellsOf f.type)).length<=j:=λzs cs hl hz j=>by
    by_cases hj:j<P.cellsOf f.type
    ·left
     rcases hz j with h | h
     ·rw[List.getElem?_take,aP hj,h,Ag,Array.getElem?_extract];split
      ·rfl
      ·rename_i hc;refine Array.getElem?_eq_none ?_;omega
     ·omega
    ·right;rw[tN];omega
   have XB:=CU k D 0 _ _ _ _ _ h1 I (cut us xs hu hx) (cut vs ys hv hy);have XC:=CU k (D+1) (i+P.cellsOf f.type) fs _ _ xs ys h2 I (aH _ _ xs hx) (aH _ _ ys hy);have pa:=Iz (P:=P) (w:=w) (cs:=xs) (i:=f.offset) hty hi;have pb:=Iz (P:=P) (w:=w) (cs:=ys) (i:=f.offset) hty hi;have heq:=run_equalIn_struct (P:=P) w (D+1) f.type (xs.extract i (i+P.cellsOf f.type)) (ys.extract i (i+P.cellsOf f.type)) (by rw[K3 hty];exact hty) hp;rw[XB]at heq;have hs:=K2 (b:=us.drop (P.cellsOf f.type)) (d:=vs.drop (P.cellsOf f.type)) (wE _ _ _ _ _ h1);rw[FG,FG]at hs;rw[Op.eqFields,hs];rw[ho]at pa pb;simp only[aP hn,mV,ho,pa,pb,heq,mW];cases hab:tR (us.take (P.cellsOf f.type)) (vs.take (P.cellsOf f.type))
   ·simp
   ·simp[XC]
  ·cases h
theorem XD{x y:Operand}{us vs:List Value}{T T':TypeId}(ho:o.op= .binOp .eql T x y T')(hx:eM e x= .agg us.toArray)(hy:eM e y= .agg vs.toArray)(hm:P.eqGuardType P.depth T=false)(hp:P.stoodInHeld T=false)
 (hu:P.underlying T=some (.struct (P.fieldsOf T))) (hf:yx P 64 0 (P.fieldsOf T).toList us vs=true):(execOp (eM e) o).run P w= .ok (.value (.bool (tR us vs))) w:=by
 unfold execOp;have h1:=run_equalIn_struct (P:=P) w 9999 T us.toArray vs.toArray hu hp;rw[CU (P:=P) (w:=w) 64 9998 0 (P.fieldsOf T).toList us vs us.toArray vs.toArray hf eF (λj=>by left;simp) (λj=>by left;simp)]at h1;simp[ho,hx,hy,run_eqGuard_agg (P:=P) w .eql T x y us.toArray vs.toArray hm,run_eql_struct,h1]
end
end GX
end
section
namespace Md
open Go Go.RowKit SL GX
noncomputable section
variable {z w:World}{L:List aZ}
abbrev xh(a:fO)(c:Nat)(l:List Int):aZ:=rowOf 3 1 cQ (.slice a l.length c) l
end
noncomputable section
variable {z w:World}{L:List aZ}
def tU(O:Int)(Y:List Int)(p2:Bool):Option (Int×Int):=
 eV ((if O=((Y.length:Nat):Int)then(if p2=true then some 0 else some O)else some O)) (λg3=>(if g3=((Y.length:Nat):Int)then some (0,g3)else if bG (wi ((wi (g3+1))-1)) Y.length then some ((J Y (wi ((wi (g3+1))-1)).toNat),wi (g3+1))else none))
theorem CV{O r0 q0:Int}{Y:List Int}{p2:Bool}{B0 B1 kr B2:Nat}{ku:fO}(H:tU O Y p2=some (r0,q0))(h:Fit z (aB (pts B0 (.cells #[Z O] 3)::pts B1 (.cells #[.slice ku Y.length kr] 28)::xh ku kr Y::pts B2 (.cells #[vB p2] 4)::L)) w) :
 Calls Tryz.prog 84 #[pA B0 0,pA B1 0,pA B2 0] w λe w=>e=.returned (Z r0)/\Fit z (aB (pts B0 (.cells #[Z q0] 3)::pts B1 (.cells #[.slice ku Y.length kr] 28)::xh ku kr Y::pts B2 (.cells #[vB p2] 4)::L)) w:=by
 unfold tU at H;refine ke func84 22 rfl λj=>ks<|ko [U]<|G<|DM H λo5 H hK4=>λ_ r=>cW (β:=Unit) (λ_ a w=>∃g3:Int,g3=o5/\∃j,kI 22 (lk [(0,pA B0 0),(1,pA B1 0)] j) a/\Fit z (aB (pts B0 (.cells #[Z g3] 3)::pts B1 (.cells #[.slice ku Y.length kr] 28)::xh ku kr Y::pts B2 (.cells #[vB p2] 4)::L)) w) ?_ ?_
 ·refine qq r<|ks<|kL h 0<|kL (h.pick 1) 0<|ko [Z ((Y.length:Nat):Int),vB (O==((Y.length:Nat):Int)),vB (O==((Y.length:Nat):Int))]<|qI H (λc6 H=>?_) λc6 H=>?_
  ·refine λ_ r=>ld (mT r (beq_iff_eq.mpr c6)) r (vB p2) ((h.pick 3).cell 0 rfl)<|?_;refine nv (beq_iff_eq.mpr c6) (vB p2)<|G<|ED H (λc7 H=>?_) λc7 H=>?_
   ·refine wl<|kS h 0 (pts B0 (.cells #[Z 0] 3)) λw h=>G<|?_;exact λ_ r=>⟨(),0,gM H,r.fj h⟩
   refine wk<|tn<|?_;exact λ_ r=>⟨(),O,gM H,r.fj h⟩
  refine bW (bN c6) [9]<|ny (bN c6) (vB false)<|G<|λ_ r=>iO r (b:=false) rfl<|qq r<|wk<|tn<|?_;exact λ_ r=>⟨(),O,gM H,r.fj h⟩
 clear h r;rintro _ a w ⟨g3,rfl,j,r,h⟩;replace H:=DJ hK4;refine qq r<|wq<|ks<|kL h 0<|kL (h.pick 1) 0<|ko [Z ((Y.length:Nat):Int),vB (g3==((Y.length:Nat):Int))]<|G<|eB H (λc8 H=>?_) λc8 H=>?_
 ·refine ks<|ko [U]<|G<|wr<|tr<|?_;cases H;exact gR h
 refine wk<|tn<|ks<|kL h 0<|ko [Z (wi (g3+1))]<|kS h 0 (pts B0 (.cells #[Z (wi (g3+1))] 3)) λw h=>G<|ks<|kL (h.pick 1) 0<|kL h 0<|qg H λc9 H=>ko [Z (wi ((wi (g3+1))-1))]<|ki (h.pick 2) c9<|λ_ r=>ld (wn rfl) r (Z (J Y (wi ((wi (g3+1))-1)).toNat)) ((h.pick 2).bL aO (f:=0) (aT c9) rfl)<|?_;refine ko [Z (J Y (wi ((wi (g3+1))-1)).toNat)]<|G<|wr<|?_;cases H;exact gR h
end
end Md
end
section
namespace Mo
open Go Go.RowKit SL GX
structure aM where
 rest:List Int
deriving Inhabited,DecidableEq
def Cl(x:aM):Int:=x.rest.headD 0
def He(x:aM):aM:=⟨x.rest.tail⟩
def vu(b:Nat)(x:aM):aZ:=exs λk:Nat=>exs λpa:Nat=>exs λpl:Nat=>exs λpg:Nat=>exs λca:fO=>exs λcc:Nat=>exs λl:List Int =>
 aB [PG (k<=l.length/\l.length*8<=140737488355328/\x.rest=l.drop k),pts b (.cells #[.func (.func 84) #[] #[pA pa 0,pA pl 0,pA pg 0]] 181),pts pa (.cells #[Z k] 3),pts pl (.cells #[.slice ca l.length cc] 28),rowOf 3 1 cQ (.slice ca l.length cc) l,pts pg (.cells #[vB false] 4)]
theorem Sa{l:List Int}{k:Nat}(hk:k<=l.length)(hb:l.length*8<=140737488355328):Md.tU (k:Int) l false=some (if k=l.length then(0,(k:Int))else(J l k,((k+1:Nat):Int))):=by
 have e1:wi ((k:Int)+1)=((k+1:Nat):Int):=by rw[eI I];omega
 have e2:wi (((k+1:Nat):Int)-1)=(k:Int):=by rw[eI I];omega
 unfold Md.tU;by_cases c:k=l.length
 ·subst c;simp[eV]
 ·have c':¬(k:Int)=((l.length:Nat):Int):=by omega
  have hi:bG (k:Int) l.length:=by unfold bG;omega
  simp only[ct c',ct c,eV,e1,e2,aP hi,cO]
theorem Sb{l:List Int}{k:Nat}{x:aM}(hk:k<=l.length)(hx:x.rest=l.drop k):(if k=l.length then(0,(k:Int))else(J l k,((k+1:Nat):Int)))=(Cl x,(((if k=l.length then k else k+1):Nat):Int))/\(if k=l.length then k else k+1)<=l.length/\(He x).rest=l.drop (if k=l.length then k else k+1):=by
 unfold Cl He;rw[hx];by_cases c:k=l.length
 ·subst c;simp
 ·have hlt:k<l.length:=by omega
  simp only[ct c];refine⟨?_,I,by rw[List.tail_drop]⟩;rw[RN hlt,N9 hlt];rfl
theorem PX{z w:World}{L:List aZ}{α:Type}{b:Nat}{E:TypeId}{sz:Nat}{enc:α->List Value}(h:Fit z (aB (pts b (.cells #[] E)::L)) w):Fit z (aB (rowOf E sz enc (.slice (some ⟨b,0,none⟩) 0 0) ([]:List α)::L)) w:=
 h.head λy hy=>.inr ⟨b,0,#[],rfl,j5 _,by simp[maxLen],by simp,by simp,hy⟩
theorem Sc{z w:World}{L:List aZ}{va:fO}{vc:Nat}{l:List Int}(hv:bE L 1 cQ va l)(h:Fit z (aB L) w)(hb:l.length*8<=140737488355328) :
 Calls Tryz.prog 83 #[.slice va l.length vc] w λe w =>∃ca cc,e= .returned (.slice ca l.length cc)/\Fit z (aB (rowOf 3 1 cQ (.slice ca l.length cc) l::L)) w:=by
 refine ke func83 8 rfl λj=>ks<|ko [U]<|G<|wq <| ?_
 cases va with
 | none =>
  have hl:l=[]:=by
   cases l with
   | nil=>rfl
   | cons x xs=>exact absurd (hv.ne (by simp)) (by simp)
  subst hl;refine ks<|ko [U,vB true]<|G<|λ_ r=>fV r (b:=true) rfl<|qq r<|ks<|ko [U]<|G<|wr<|tr <| ?_
  exact ZB none 0 h.fU
 | some ad =>
  refine ks<|ko [U,vB false]<|G<|λ_ r=>iO r (b:=false) rfl<|qq r<|wk<|tn<|ks<|λ_ r=>Xs (wn rfl) r h (λb=>.slice (some ⟨b,0,none⟩) 0 0) #[] 3 λb w _ h r => ?_;refine qq r<|ko [U]<|λ_ r=>yU (m0:=0) (n0:=0) (ca:=some ⟨b,0,none⟩) (cc:=0) (c:=vc) (va:=some ad) (bytes:=8) (wn rfl) rfl rfl r rfl bp (news:=l) bp aO (E:=3) (xs:=([]:List Int)) bp bp (PX h) hv (by simpa using hb) rfl λca cc w _ h r => ?_;rw[yQ]at h r;refine qq r<|ko [U]<|G<|wr <| ?_
  exact ZB ca cc h
theorem Gc{z w:World}{L:List aZ}{b:Nat}{x:aM}(h:Fit z (aB (vu b x::L)) w) :
 Calls Tryz.prog 264 #[pA b 0] w λe w=>e= .returned (Z (Cl x))/\Fit z (aB (vu b (He x)::L)) w:=by
 obtain⟨k,h⟩:=h.mZ;obtain⟨pa,h⟩:=h.mZ;obtain⟨pl,h⟩:=h.mZ;obtain⟨pg,h⟩:=h.mZ;obtain⟨ca,h⟩:=h.mZ;obtain⟨cc,h⟩:=h.mZ;obtain⟨l,h⟩:=h.mZ;have h:=h.sn;obtain⟨⟨hk,hb,hx⟩,h⟩:=h.yl;obtain⟨e1,e2,e3⟩:=Sb hk hx;have H:=Sa hk hb;rw[e1]at H;generalize hm:(if k=l.length then k else k+1)=m at *;refine ke func264 17 rfl λj=>ks<|ko [U]<|G<|wq<|ks<|ko [U,vB false,vB false]<|cS (rfl:false=false) [6,7,8] [pA b 0,pA b 0,pA b 0]<|tc (rfl:false=false) h 0<|cS (rfl:false=false) [10] [vB false]<|ny (rfl:false=false) (vB false)<|G<|λ_ r=>iO r (b:=false) rfl<|qq r<|wk<|tn<|ks<|ko [U,U,U]<|kL h 0<|qh h.m4.m4.m4.m4 λh=>fD (Md.CV (H:=H) (h:=h) :) λw h=>ko [U]<|G<|wr <| ?_;exact gR (Fit.jD m<|Fit.jD pa<|Fit.jD pl<|Fit.jD pg<|Fit.jD ca<|Fit.jD cc<|Fit.jD l<|Fit.rI _ L<|Fit.wo ⟨e2,hb,e3⟩ h.m4)
theorem Sd{z w:World}{L:List aZ}{va:fO}{vc:Nat}{l:List Int}(hv:bE L 1 cQ va l)(h:Fit z (aB L) w)(hb:l.length*8<=140737488355328) :
 Calls Tryz.prog 53 #[.slice va l.length vc,vB false] w λe w =>∃b,e= .returned (pA b 0)/\Fit z (aB (vu b ⟨l⟩::L)) w:=by
 refine ke func53 12 rfl λj=>ks<|kN h #[vB false] 4 λpg w h=>ko [U]<|G<|ks<|ko [U]<|Wn (Sc (va:=va) (vc:=vc) (bE.up (L':=pts pg (.cells #[vB false] 4)::L) 1 hv) h hb :) λca cc w h=>kN h #[.slice none 0 0] 28 λpl w h=>kS h 0 (pts pl (.cells #[.slice ca l.length cc] 28)) λw h=>G<|ks<|kN h #[Z 0] 3 λpa w h=>kS h 0 (pts pa (.cells #[Z 0] 3)) λw h=>G<|ks<|ko [U,U]<|kN h #[.func (.func 84) #[] #[pA pa 0,pA pl 0,pA pg 0]] 181 λb w h=>ko [U]<|G<|wr <| ?_
 exact xy1 b (Fit.jD 0<|Fit.jD pa<|Fit.jD pl<|Fit.jD pg<|Fit.jD ca<|Fit.jD cc<|Fit.jD l<|Fit.rI _ L<|Fit.wo ⟨BT _,hb,rfl⟩ h)
theorem Ax{z w:World}{L:List aZ}{va:fO}{c:Nat}{l:List Int}(h:Fit z (aB L) w)(hv:bE L 1 cQ va l)(hb:l.length*8<=140737488355328) :
 Calls Tryz.prog 18 #[.slice va l.length c] w λe w =>∃b,e= .returned (pA b 0)/\Fit z (aB (vu b ⟨l⟩::L)) w:=by
 refine ke func18 5 rfl λj=>ks<|ko [U]<|G<|ks<|ko [U]<|ZA (Sd (vc:=c) hv h hb :) λb w h=>ko [U]<|G<|wr <| ?_
 exact xy1 b h
end Mo
end
section
namespace GX
open Go Go.RowKit SL
def yy{α:Type}[Inhabited α](l:List α)(lo m:Nat):List α:=(List.range m).map λj=>J l (lo+j)
theorem CW{α:Type}[Inhabited α](l:List α)(lo m:Nat):(yy l lo m).length=m:=by simp[yy]
theorem Wo{α:Type}{enc:α->List Value}(he:sF enc 1):∀(m:List α) (k:Nat),(m.drop k).flatMap enc=(m.flatMap enc).drop k
 | [],k=>by simp
 | x::m,0=>by simp
 | x::m,k+1=>by
  obtain⟨u,hu⟩:=List.length_eq_one_iff.1 (he.len x);rw[qH,Wo he m k,MJ,hu];rfl
theorem Se{α:Type}{enc:α->List Value}(he:sF enc 1):∀(m:List α) (k:Nat),(m.take k).flatMap enc=(m.flatMap enc).take k
 | [],k=>by simp
 | x::m,0=>by simp
 | x::m,k+1=>by
  obtain⟨u,hu⟩:=List.length_eq_one_iff.1 (he.len x);rw[oI,MJ,Se he m k,MJ,hu];rfl
theorem XE{α:Type}[Inhabited α]{A:List Value}{N f lo m:Nat}{enc:α->List Value}{l:List α}(he:sF enc 1)(hA:A.length=f)(hm:lo+m<=N):((A++kO N enc l).drop (f+lo)).take m=(yy l lo m).flatMap enc:=by
 subst hA;rw[List.drop_append,N7 I,yQ,Nat.add_sub_cancel_left,Bm,<-Wo he,<-Se he]
 congr 1
 apply Kp
 ·simp[yy];omega
 ·intro i h1 h2;simp[yy]
section
variable {P:Program}{ops:Array Oper}{Q:Exit->Act->World->Prop}{a:Act}{w w0 w1:World}{rest:List Oper}{o:Oper}{n d t T T2:Nat}{v:Value}{l:List (Nat×Value)}{j e:Nat->Value}{L:List aZ}{Df:List Deferred}
theorem aaL{x y y':Operand}{k k':IntKind}{lo hi:Int}{B off N:Nat}{E:TypeId}{w':World}(ho:o.op= .slice t x (some y) (some y') none)(hx:eM e x= .pointer (some ⟨B,off,none⟩))(hy:eM e y= .int k lo)(hy':eM e y'= .int k' hi)
 (ht:P.underlying t=some (.array N E)) (hs:(P.info? E).map (·.size)=some 1) (hg:0<=lo/\lo<=hi/\hi<=N/\lo<N):(execOp (eM e) o).run P w'= .ok (.value (.slice (some ⟨B,off+lo.toNat,none⟩) (hi.toNat-lo.toNat) (N-lo.toNat))) w':=by
 obtain⟨h0,h1,h2,h3⟩:=hg;obtain⟨p,rfl⟩:=Int.eq_ofNat_of_zero_le h0;obtain⟨q,rfl⟩:=Int.eq_ofNat_of_zero_le (Int.le_trans h0 h1);have g1:p<=q:=by omega
 have g2:q<=N:=by omega
 have g6:¬N=p:=by omega
 unfold execOp;cases hq:P.info? E with
 | none=>simp[hq]at hs
 | some z =>
  simp[hq]at hs;simp[ho,hx,hy,hy',Instr.sliceAt,Instr.slice,Instr.sliceBounds,Instr.sliceBound,run_underlying ht,asIntOf,asAddr,g1,g2,g6,sizeOf,typeInfo,hq,hs,u3,Instr.sureAddr]
theorem MX{s x:Operand}{α β:Type}{sz n0 cc i f N cv i2 f2 lo m:Nat}{enc:α->List Value}{iS:β->List Value}{xs:List α}{ca:fO}{ys:List β}{E afv:TypeId}{p q p2:α}(hw:tL o ops a)(hd:o.dst=some d)(hn:Nat.blt d n=true)(hr:cK Df n (lk l j) a)
 (ho:o.op= .call {callee:=.builtin .copy,args:=#[s,x],argTypes:=#[t,t]}) (hs:eM (lk l j) s= .slice (some ⟨dW ca,i*sz+f,none⟩) N N) (hx:eM (lk l j) x= .slice (some ⟨dW ca,i2*sz+f2+lo,none⟩) m cv)
 (he:sF enc sz) (hi:sF iS 1) (hty:P.underlying t=some (.slice afv)) (hsz:(P.info? afv).map (·.size)=some 1) (hm:ys.length=m) (hlen:m<=N)
 (hF:Fit w0 (aB (rowOf E sz enc (.slice ca n0 cc) xs::L)) w) (hp2:xs[i2]? = some p2) (hcs:((enc p2).drop (f2+lo)).take m=ys.flatMap iS) (hp:xs[i]? = some p) (hfit:f+m<=sz) (hq:enc q=(enc p).take f++ys.flatMap iS++(enc p).drop (f+m))
 (k:∀w1 a,Fit w0 (aB (rowOf E sz enc (.slice ca n0 cc) (xs.set i q)::L)) w1->cK Df n (lk ((d,.int .i64 ((m:Nat):Int))::l) j) a->wpList P ops Q rest a w1):wpList P ops Q (o::rest) a w:=by
 subst hm;have Wp:=hF.F6 he (f:=f2+lo) (xs:=ys.flatMap iS) hp2 (by rw[show(ys.flatMap iS).length=ys.length by rw[hi.flat ys,Nat.mul_one]];exact hcs);rw[<-Ii]at Wp;have EL:i<xs.length:=(List.getElem?_eq_some_iff.1 hp).1;have hn':=hF.p7;obtain⟨hca,BV⟩:=hF.rW I;obtain⟨GY,EM⟩:=BV.xe;obtain⟨cur,Wc,Kz,hP⟩:=BV.oO;have hle:i*sz+sz<=xs.length*sz:=by
  have:(i+1)*sz<=xs.length*sz:=rm _ EL;rw[tM]at this;omega
 have Xg:xs.length*sz<=cc*sz:=rm _ GY;have hfl:(ys.flatMap iS).length=ys.length:=by rw[hi.flat ys,Nat.mul_one]
 have hmin:Nat.min ys.length N=ys.length:=zE hlen;have hcells:(Builtin.firstCells 1 ys.length (.slice (some ⟨dW ca,i2*sz+f2+lo,none⟩) ys.length cv)).run P w= .ok (ys.flatMap iS).toArray w:=
  run_firstCells_some (P:=P) w 1 ys.length _ _ _ (ys.flatMap iS) (by rw[hfl,Nat.mul_one]) (v5 Wp)
 have hst:=run_storeCells_at P (dW ca) (i*sz+f) E (ys.flatMap iS) 0 cur w hP.block (by rw[hfl];omega) (hi.ym ys);simp only[Ex]at hst;refine qX (w1:=w.setRow (dW ca) (cur.toList.take (i*sz+f)++ys.flatMap iS++cur.toList.drop (i*sz+f+(ys.flatMap iS).length)).toArray) (v:=.int .i64 ((ys.length:Nat):Int)) hw hd hn hr ?_ (λa hr=>k _ a (Fit.yq ?_ hca (by rw[gY];exact hn')) hr)
 ·unfold execOp;cases wz:P.info? afv with
  | none=>simp[wz]at hsz
  | some q =>
   simp[wz]at hsz;simp only[ho,resolve,invoke,builtin,mV,sO,mW,Ey,zF,Ai,hs,hx];simp[Builtin.copy_,run_underlying hty,Builtin.lenOf,sizeOf,typeInfo,wz,hsz,hmin,hcells,hst,goInt]
 ·refine(hP.turn (w':=w.setRow (dW ca) (cur.toList.take (i*sz+f)++ys.flatMap iS++cur.toList.drop (i*sz+f+(ys.flatMap iS).length)).toArray) (setRow_heap w (dW ca) cur _ E (0,0) hP.block) (λk hk _=>setRow_other w (dW ca) k _ hk) rfl rfl rfl (by simp)).head λz hz=>⟨by simpa using GY,EM,_,?_,?_,hz⟩
  ·simp only[BR,jM,tN,Ah,tO];omega
  ·have Wk:((xs.flatMap enc).drop (i*sz)).take sz=enc p:=by
    apply yh
    intro k;rw[List.getElem?_take];by_cases hk:k<sz
    ·rw[aP hk,List.getElem?_drop];exact he.get xs i k p hp hk
    ·rw[ct hk,List.getElem?_eq_none (by rw[he.len];omega)]
   rw[<-hfl]at hq hfit;generalize ys.flatMap iS=vs at hq hfit hst⊢;rw[gY,he.set xs i q EL,hq,<-Wk,Ci _ _ _ _ _ hfit (by rw[he.flat];exact hle),<-Kz];have hA:(cur.toList.take (i*sz+f)).length=i*sz+f:=by rw[tN,tO];omega
   have e1:(cur.toList.take (i*sz+f)++vs++cur.toList.drop (i*sz+f+vs.length)).take (xs.length*sz)=cur.toList.take (i*sz+f)++vs++(cur.toList.drop (i*sz+f+vs.length)).take (xs.length*sz-(i*sz+f+vs.length)):=by
    rw[Ib,Et (by rw[jM,hA];omega),jM,hA]
   rw[Ic,e1,List.take_take,zE I,Ie]
end
end GX
end
section
namespace Mo
open Go Go.RowKit SL GX
noncomputable section
variable {z w:World}{L:List aZ}
structure bZ where
 aE:Int
 A:Int
 B:Int
 C:Int
 K:Int
deriving Inhabited,DecidableEq
def cL(x:bZ):List Value:=[Z x.aE,Z x.A,Z x.B,Z x.C,Z x.K]
abbrev gK(x:bZ):List Value:=[Z x.aE,Z x.A,Z x.B,Z x.C,Z x.K]
abbrev nc(x:bZ):Array Value:=#[Z x.aE,Z x.A,Z x.B,Z x.C,Z x.K]
abbrev iJ(x:bZ):Value:=.agg #[Z x.aE,Z x.A,Z x.B,Z x.C,Z x.K]
theorem iv:sF cL 5:=⟨λ_=>rfl,λx u h=>by simp only[cL,sC,sD,sE]at h;rcases h with rfl | rfl | rfl | rfl | rfl<;>rfl,eF⟩
structure aC where
 aS:Int
 dc:Int
 bD:Int
 aq:List bZ
deriving Inhabited,DecidableEq
structure bK where
 bY:List aC
 oY:List Int
 cZ:Int
 aF:Int
 fE:Int
 gB:Int
 dy:List Int
 fz:List Int
deriving Inhabited,DecidableEq
def Sf(a:fO)(c:Nat)(x:aC):List Value:=[Z x.aS,Z x.dc,Z x.bD,.slice a x.aq.length c]
abbrev Bt(L:List aZ)(va:fO)(hs:Nat->Option Addr×Nat)(l:List aC):Prop:=yc L 4 5 Sf cL aC.aq va hs l
structure eK where
 cr:Int
 dQ:Int
 jE:Int
deriving Inhabited,DecidableEq
abbrev EO(x:eK):List Value:=[Z x.cr,Z x.dQ,Z x.jE]
abbrev k8(x:eK):Array Value:=#[Z x.cr,Z x.dQ,Z x.jE]
abbrev j4(x:eK):Value:=.agg #[Z x.cr,Z x.dQ,Z x.jE]
abbrev K4(B:Nat)(S:eK):aZ:=pts B (.cells #[Z S.cr,Z S.dQ,Z S.jE] 27)
structure aN where
 rT:Int
 aE:Int
 Addr:Int
 A:Int
 B:Int
 OK:Bool
deriving Inhabited,DecidableEq
def gS(x:aN):List Value:=[Z x.rT,Z x.aE,Z x.Addr,Z x.A,Z x.B,vB x.OK]
theorem sI:sF gS 6:=⟨λ_=>rfl,λx u h=>by simp only[gS,sC,sD,sE]at h;rcases h with rfl | rfl | rfl | rfl | rfl | rfl<;>rfl,eF⟩
structure ae where
 mq:Int
 fe:Int
 cell:List Int
 log:List aN
 sG:Int
 watched:Bool
deriving Inhabited,DecidableEq
abbrev ac4(B:Nat)(S:ae)(a2:fO)(c2:Nat)(a3:fO)(c3:Nat):aZ:=pts B (.cells #[Z S.mq,Z S.fe,.slice a2 S.cell.length c2,.slice a3 S.log.length c3,Z S.sG,vB S.watched] 92)
abbrev XF(a:fO)(c:Nat)(l:List Int):aZ:=rowOf 2 1 cQ (.slice a l.length c) l
abbrev Sg(a:fO)(c:Nat)(l:List aN):aZ:=rowOf 159 6 gS (.slice a l.length c) l
structure aJ where
 ah:List aC
deriving Inhabited,DecidableEq
abbrev qB(B:Nat)(S:aC)(a3:fO)(c3:Nat):aZ:=pts B (.cells #[Z S.aS,Z S.dc,Z S.bD,.slice a3 S.aq.length c3] 99)
structure eL where
 Ow:Int
 Func:Int
 At:Int
deriving Inhabited,DecidableEq
abbrev Ay(x:eL):Value:=.agg #[Z x.Ow,Z x.Func,Z x.At]
abbrev wF(B:Nat)(S:bZ):aZ:=pts B (.cells #[Z S.aE,Z S.A,Z S.B,Z S.C,Z S.K] 146)
abbrev xh(a:fO)(c:Nat)(l:List Int):aZ:=rowOf 3 1 cQ (.slice a l.length c) l
def jG(x:List Int)(cs:List Value):aZ:=exs λtj:fO=>exs λtu:Nat=>aB [PG (cs=[.slice tj x.length tu]),xh tj tu x]
theorem ng{x:List Int}{cs:List Value}(h:Fit z (aB (jG x cs::L)) w) :∃tj:fO,∃tu:Nat,cs=[.slice tj x.length tu]/\Fit z (aB (xh tj tu x::L)) w:=by
 unfold jG at h;obtain⟨tj,h⟩:=h.mZ;obtain⟨tu,h⟩:=h.mZ;have h:=h.sn;obtain⟨e,h⟩:=h.yl;exact⟨tj,tu,e,h⟩
theorem iC{x:List Int}{tj:fO}{tu:Nat}(h:Fit z (aB (xh tj tu x::L)) w):Fit z (aB (jG x [.slice tj x.length tu]::L)) w:=by
 unfold jG;refine Fit.jD tj<|Fit.jD tu<|Fit.rI (PG (([.slice tj x.length tu]:List Value)=[.slice tj x.length tu])::xh tj tu x::[]) L<|?_;exact h.wo rfl
abbrev Je(a:fO)(c:Nat)(l:List (List Int)):aZ:=su 28 1 jG (.slice a l.length c) l
abbrev ac5(B:Nat)(S:eL):aZ:=pts B (.cells #[Z S.Ow,Z S.Func,Z S.At] 95)
structure uH where
 a:Int
 b:Int
 c:Int
 k:Int
 next:Bool
deriving Inhabited,DecidableEq
def gF(x:uH):List Value:=[Z x.a,Z x.b,Z x.c,Z x.k,vB x.next]
abbrev Jf(x:uH):List Value:=[Z x.a,Z x.b,Z x.c,Z x.k,vB x.next]
abbrev Jg(x:uH):Value:=.agg #[Z x.a,Z x.b,Z x.c,Z x.k,vB x.next]
def wS:List uH:=[⟨1,0,0,0,true⟩,⟨1,1,0,0,true⟩,⟨1,1,1,5,true⟩,⟨3,0,0,0,false⟩,⟨1,3,0,0,true⟩,⟨2,4,0,0,true⟩,⟨0,0,0,0,true⟩,⟨1,2,0,0,true⟩,⟨1,0,0,0,true⟩,⟨1,0,0,0,false⟩]
abbrev Sh(B:Nat)(S:uH):aZ:=pts B (.cells #[Z S.a,Z S.b,Z S.c,Z S.k,vB S.next] 249)
structure mN where
 DP:Int
 Cm:Int
 Gd:Int
deriving Inhabited,DecidableEq
abbrev zK(x:mN):Value:=.agg #[Z x.DP,Z x.Cm,Z x.Gd]
structure aQ where
 J:Int
 state:Int
deriving Inhabited,DecidableEq
def dP(x:aQ):List Value:=[Z x.J,Z x.state]
abbrev EP(x:aQ):List Value:=[Z x.J,Z x.state]
abbrev ER(x:aQ):Array Value:=#[Z x.J,Z x.state]
abbrev vx(x:aQ):Value:=.agg #[Z x.J,Z x.state]
theorem nH:sF dP 2:=⟨λ_=>rfl,λx u h=>by simp only[dP,sC,sD,sE]at h;rcases h with rfl | rfl<;>rfl,eF⟩
theorem ES(x y:aQ):tR (dP x) (dP y)=decide (x=y):=by
 rw[Bool.eq_iff_iff];cases x;cases y;simp[dP,tR]
theorem Jh:KP Tryz.prog 255 dP:=⟨bp,bp,λx y=>bp,ES⟩
abbrev Ox(B:Nat)(S:aQ):aZ:=pts B (.cells #[Z S.J,Z S.state] 255)
structure aR where
 fn:Int
 J:Int
 parent:Int
 slot:Int
 bt:Int
 nA:Int
 cU:List Int
deriving Inhabited,DecidableEq
def cI(x:aR):List Value:=[Z x.fn,Z x.J,Z x.parent,Z x.slot,Z x.bt,Z x.nA]++kO 16 cQ x.cU
abbrev n4(x:aR):List Value:=[Z x.fn,Z x.J,Z x.parent,Z x.slot,Z x.bt,Z x.nA]++kO 16 cQ x.cU
theorem bI:sF (cI) 22:=yw.enc (N:=6+16*1) (λx=>(show yw (cI x) (6+16*1)from((yw.lit 6 (by rfl)).app (Fp 16 aO _)))) eF (by rfl)
abbrev rC(a:fO)(c:Nat)(l:List aR):aZ:=rowOf 114 22 cI (.slice a l.length c) l
abbrev IA(a:fO)(c:Nat)(l:List bZ):aZ:=rowOf 146 5 cL (.slice a l.length c) l
def lS(x:aC)(cs:List Value):aZ:=exs λtj:fO=>exs λtu:Nat=>aB [PG (cs=[Z x.aS,Z x.dc,Z x.bD,.slice tj x.aq.length tu]),IA tj tu x.aq]
theorem tV{x:aC}{cs:List Value}(h:Fit z (aB (lS x cs::L)) w) :∃tj:fO,∃tu:Nat,cs=[Z x.aS,Z x.dc,Z x.bD,.slice tj x.aq.length tu]/\Fit z (aB (IA tj tu x.aq::L)) w:=by
 unfold lS at h;obtain⟨tj,h⟩:=h.mZ;obtain⟨tu,h⟩:=h.mZ;have h:=h.sn;obtain⟨e,h⟩:=h.yl;exact⟨tj,tu,e,h⟩
theorem eT{x:aC}{tj:fO}{tu:Nat}(h:Fit z (aB (IA tj tu x.aq::L)) w):Fit z (aB (lS x [Z x.aS,Z x.dc,Z x.bD,.slice tj x.aq.length tu]::L)) w:=by
 unfold lS;refine Fit.jD tj<|Fit.jD tu<|Fit.rI (PG (([Z x.aS,Z x.dc,Z x.bD,.slice tj x.aq.length tu]:List Value)=[Z x.aS,Z x.dc,Z x.bD,.slice tj x.aq.length tu])::IA tj tu x.aq::[]) L<|?_;exact h.wo rfl
abbrev qb(a:fO)(c:Nat)(l:List aC):aZ:=su 99 4 lS (.slice a l.length c) l
structure ck where
 kz:Int
 jE:Int
deriving Inhabited,DecidableEq
def bj(x:ck):List Value:=[Z x.kz,Z x.jE]
abbrev lC(x:ck):List Value:=[Z x.kz,Z x.jE]
abbrev n5(x:ck):Array Value:=#[Z x.kz,Z x.jE]
abbrev gT(x:ck):Value:=.agg #[Z x.kz,Z x.jE]
theorem fQ:sF bj 2:=⟨λ_=>rfl,λx u h=>by simp only[bj,sC,sD,sE]at h;rcases h with rfl | rfl<;>rfl,eF⟩
structure bM where
 kind:Int
 J:Int
 nB:Int
 nP:Int
 v:Int
 t:Int
 b:Int
 a:Int
 c:Int
 a2:Int
 c2:Int
 i:Int
 x:Int
 Ae:Bool
 code:Int
 value:Int
deriving Inhabited,DecidableEq
def bx(x:bM):List Value:=[Z x.kind,Z x.J,Z x.nB,Z x.nP,Z x.v,Z x.t,Z x.b,Z x.a,Z x.c,Z x.a2,Z x.c2,Z x.i,Z x.x,vB x.Ae,Z x.code,Z x.value]
abbrev jk(x:bM):List Value:=[Z x.kind,Z x.J,Z x.nB,Z x.nP,Z x.v,Z x.t,Z x.b,Z x.a,Z x.c,Z x.a2,Z x.c2,Z x.i,Z x.x,vB x.Ae,Z x.code,Z x.value]
abbrev mO(x:bM):Array Value:=#[Z x.kind,Z x.J,Z x.nB,Z x.nP,Z x.v,Z x.t,Z x.b,Z x.a,Z x.c,Z x.a2,Z x.c2,Z x.i,Z x.x,vB x.Ae,Z x.code,Z x.value]
abbrev eY(x:bM):Value:=.agg #[Z x.kind,Z x.J,Z x.nB,Z x.nP,Z x.v,Z x.t,Z x.b,Z x.a,Z x.c,Z x.a2,Z x.c2,Z x.i,Z x.x,vB x.Ae,Z x.code,Z x.value]
theorem xj:sF bx 16:=⟨λ_=>rfl,λx u h=>by simp only[bx,sC,sD,sE]at h;rcases h with rfl | rfl | rfl | rfl | rfl | rfl | rfl | rfl | rfl | rfl | rfl | rfl | rfl | rfl | rfl | rfl<;>rfl,eF⟩
theorem B6(x y:bM):tR (bx x) (bx y)=decide (x=y):=by
 rw[Bool.eq_iff_iff];cases x;cases y;simp[bx,tR,and_assoc]
structure cg where
 eu:Int
 dV:Int
 gl:Int
 az:Int
 fg:Int
 lN:Int
 kind:Int
 slot:Int
 K5:Int
deriving Inhabited,DecidableEq
def mu(x:cg):List Value:=[Z x.eu,Z x.dV,Z x.gl,Z x.az,Z x.fg,Z x.lN,Z x.kind,Z x.slot,Z x.K5]
abbrev jP(x:cg):List Value:=[Z x.eu,Z x.dV,Z x.gl,Z x.az,Z x.fg,Z x.lN,Z x.kind,Z x.slot,Z x.K5]
abbrev Az(x:cg):Array Value:=#[Z x.eu,Z x.dV,Z x.gl,Z x.az,Z x.fg,Z x.lN,Z x.kind,Z x.slot,Z x.K5]
abbrev jQ(x:cg):Value:=.agg #[Z x.eu,Z x.dV,Z x.gl,Z x.az,Z x.fg,Z x.lN,Z x.kind,Z x.slot,Z x.K5]
theorem Cn:sF mu 9:=⟨λ_=>rfl,λx u h=>by simp only[mu,sC,sD,sE]at h;rcases h with rfl | rfl | rfl | rfl | rfl | rfl | rfl | rfl | rfl<;>rfl,eF⟩
theorem Ge(x y:cg):tR (mu x) (mu y)=decide (x=y):=by
 rw[Bool.eq_iff_iff];cases x;cases y;simp[mu,tR,and_assoc]
structure bR where
 bJ:Int
 bT:Int
 gp:Int
 dk:Int
 ay:Int
 dh:Int
 jy:Int
 dX:Int
 fh:Int
 dz:List ck
 look:bM
deriving Inhabited,DecidableEq
def sR(x:bR):List Value:=[Z x.bJ,Z x.bT,Z x.gp,Z x.dk,Z x.ay,Z x.dh,Z x.jy,Z x.dX,Z x.fh]++kO 64 bj x.dz++bx x.look
abbrev lT(x:bR):List Value:=[Z x.bJ,Z x.bT,Z x.gp,Z x.dk,Z x.ay,Z x.dh,Z x.jy,Z x.dX,Z x.fh]++kO 64 bj x.dz++bx x.look
abbrev nQ(x:bR):Array Value:=([Z x.bJ,Z x.bT,Z x.gp,Z x.dk,Z x.ay,Z x.dh,Z x.jy,Z x.dX,Z x.fh]++kO 64 bj x.dz++bx x.look).toArray
abbrev iF(x:bR):Value:=.agg ([Z x.bJ,Z x.bT,Z x.gp,Z x.dk,Z x.ay,Z x.dh,Z x.jy,Z x.dX,Z x.fh]++kO 64 bj x.dz++bx x.look).toArray
theorem DQ:sF (sR) 153:=yw.enc (N:=9+64*2+16) (λx=>(show yw (sR x) (9+64*2+16)from(((yw.lit 9 (by rfl)).app (Fp 64 fQ _)).app (xj.p _)))) eF (by rfl)
structure bz where
 bg:Int
 aD:Int
 au:Int
 from_:Int
 bU:Int
 done:Int
 fX:Int
 fB:Int
 bf:bM
 dK:cg
 cG:bR
 parked:Bool
deriving Inhabited,DecidableEq
def lp(B:Nat)(x:bz):List Value:=[pA B 0,Z x.bg,Z x.aD,Z x.au,Z x.from_,Z x.bU,Z x.done,Z x.fX,Z x.fB]++bx x.bf++mu x.dK++sR x.cG++[vB x.parked]
theorem ak(B:Nat):sF (lp B) 188:=yw.enc (N:=9+16+9+153+1) (λx=>(show yw (lp B x) (9+16+9+153+1)from(((((yw.lit 9 (by rfl)).app (xj.p _)).app (Cn.p _)).app (DQ.p _)).app (yw.lit 1 (by rfl))))) eF (by rfl)
structure ag where
 code:List aC
 result:Int
 dA:Int
 cJ:Int
 fl:Int
 cH:Int
 dz:List ck
 aG:List aR
 ai:List bz
 value:Int
 left:Bool
deriving Inhabited,DecidableEq
structure aY where
 kz:Int
 cr:Int
deriving Inhabited,DecidableEq
abbrev xk(x:aY):List Value:=[Z x.kz,Z x.cr]
abbrev gV(x:aY):Array Value:=#[Z x.kz,Z x.cr]
abbrev fF(x:aY):Value:=.agg #[Z x.kz,Z x.cr]
structure eZ where
 kz:Int
 cZ:Int
deriving Inhabited,DecidableEq
abbrev Hf(x:eZ):List Value:=[Z x.kz,Z x.cZ]
abbrev sS(x:eZ):Array Value:=#[Z x.kz,Z x.cZ]
abbrev pM(x:eZ):Value:=.agg #[Z x.kz,Z x.cZ]
abbrev qP(a:fO)(c:Nat)(l:List ck):aZ:=rowOf 118 2 bj (.slice a l.length c) l
abbrev qQ(B:Nat)(a:fO)(c:Nat)(l:List bz):aZ:=rowOf 131 188 (lp B) (.slice a l.length c) l
abbrev K6(B:Nat)(S:ck):aZ:=pts B (.cells #[Z S.kz,Z S.jE] 118)
abbrev iT(B:Nat)(S:cg):aZ:=pts B (.cells #[Z S.eu,Z S.dV,Z S.gl,Z S.az,Z S.fg,Z S.lN,Z S.kind,Z S.slot,Z S.K5] 124)
abbrev ux(B:Nat)(S:ag)(k0:Value)(a1:fO)(c1:Nat)(a7:fO)(c7:Nat)(a8:fO)(c8:Nat)(a9:fO)(c9:Nat):aZ:=pts B (.cells #[k0,.slice a1 S.code.length c1,Z S.result,Z S.dA,Z S.cJ,Z S.fl,Z S.cH,.slice a7 S.dz.length c7,.slice a8 S.aG.length c8,.slice a9 S.ai.length c9,Z S.value,vB S.left] 110)
abbrev CX(B:Nat)(S:bK)(a0:fO)(c0:Nat)(a1:fO)(c1:Nat)(a6:fO)(c6:Nat)(a7:fO)(c7:Nat):aZ:=pts B (.cells #[.slice a0 S.bY.length c0,.slice a1 S.oY.length c1,Z S.cZ,Z S.aF,Z S.fE,Z S.gB,.slice a6 S.dy.length c6,.slice a7 S.fz.length c7] 32)
def Oy:List Bool:=[false,false,false,false,false,false,false,false,false,false,false,false,false,true,true]
structure aj where
 At:Int
 rT:Int
 aE:Int
 Frame:Int
 X:Int
 V:Int
deriving Inhabited,DecidableEq
def gW(x:aj):List Value:=[Z x.At,Z x.rT,Z x.aE,Z x.Frame,Z x.X,Z x.V]
abbrev dB(x:aj):List Value:=[Z x.At,Z x.rT,Z x.aE,Z x.Frame,Z x.X,Z x.V]
abbrev tW(x:aj):Array Value:=#[Z x.At,Z x.rT,Z x.aE,Z x.Frame,Z x.X,Z x.V]
abbrev dZ(x:aj):Value:=.agg #[Z x.At,Z x.rT,Z x.aE,Z x.Frame,Z x.X,Z x.V]
theorem eP:sF gW 6:=⟨λ_=>rfl,λx u h=>by simp only[gW,sC,sD,sE]at h;rcases h with rfl | rfl | rfl | rfl | rfl | rfl<;>rfl,eF⟩
abbrev fC(B:Nat)(S:aj):aZ:=pts B (.cells #[Z S.At,Z S.rT,Z S.aE,Z S.Frame,Z S.X,Z S.V] 47)
abbrev dI(B:Nat)(S:bM):aZ:=pts B (.cells #[Z S.kind,Z S.J,Z S.nB,Z S.nP,Z S.v,Z S.t,Z S.b,Z S.a,Z S.c,Z S.a2,Z S.c2,Z S.i,Z S.x,vB S.Ae,Z S.code,Z S.value] 120)
abbrev ie(B:Nat)(S:bR):aZ:=pts B (.cells ([Z S.bJ,Z S.bT,Z S.gp,Z S.dk,Z S.ay,Z S.dh,Z S.jy,Z S.dX,Z S.fh]++kO 64 bj S.dz++bx S.look).toArray 129)
abbrev aaM(B:Nat)(S:eZ):aZ:=pts B (.cells #[Z S.kz,Z S.cZ] 106)
end
noncomputable section
variable {z w:World}{L:List aZ}
abbrev an (p:ag) (i:Int):=J p.ai i.toNat
abbrev pO (p:ag) (i:Int):=J p.aG (J p.ai i.toNat).au.toNat
abbrev jH (p:ag) (i:Int) (a:bz):=p.ai.set i.toNat a
theorem _root_.Go.Proofs.YtpikpffbcjpmcaaGreatDoor.SL.Fit.gb{B:Nat}{z w:World}{L:List aZ}{ca:fO}{n cc:Nat}{l:List bz}{x:bz}(h:Fit z (aB (rowOf 131 188 (lp B) (.slice ca n cc) l::L)) w)(f:Nat)(i:Int)(hx:l[i.toNat]?=some x)(xs:List Value)(hxs:(((lp B) x).drop f).take xs.length=xs:=by kernel_rfl):qJ w (dW ca) (i.toNat*188+f) xs:=h.F6 (sz:=188) (i:=i.toNat) (ak B) (f:=f) hx hxs
theorem _root_.Go.Proofs.YtpikpffbcjpmcaaGreatDoor.SL.Fit.ET{z w:World}{L:List aZ}{ca:fO}{n cc:Nat}{l:List aR}{x:aR}(h:Fit z (aB (rowOf 114 22 cI (.slice ca n cc) l::L)) w)(f:Nat)(i:Int)(hx:l[i.toNat]?=some x)(xs:List Value)(hxs:((cI x).drop f).take xs.length=xs:=by kernel_rfl):qJ w (dW ca) (i.toNat*22+f) xs:=h.F6 (sz:=22) (i:=i.toNat) bI (f:=f) hx hxs
section
variable {P:Program}{ops:Array Oper}{Q:Exit->Act->World->Prop}{a:Act}{w w0 w1:World}{rest:List Oper}{o:Oper}{n d t:Nat}{v:Value}{l:List (Nat×Value)}{j e:Nat->Value}{L:List aZ}{Df:List Deferred}{α:Type}{E:TypeId}{sz n0 cc:Nat}{enc:α->List Value}{xs:List α}{ca:fO}
theorem nI{x y:Operand}(hr:cK Df n (lk l j) a)(ho:o.op=.store t x y)(v:Value)(he:sF enc sz)(hF:Fit w0 (aB (rowOf E sz enc (.slice ca n0 cc) xs::L)) w)(i f:Nat)(p q:α)(hp:xs[i]?=some p)(k:∀ w1,Fit w0 (aB (rowOf E sz enc (.slice ca n0 cc) (xs.set i q)::L)) w1->wpList P ops Q rest a w1)(hf:f<sz:=by decide)(hx:eM (lk l j) x=.pointer (some ⟨dW ca,i*sz+f,none⟩):=by kernel_rfl)(hy:eM (lk l j) y=v:=by kernel_rfl)(hs:(P.info? t).map (·.size)=some 1:=by kernel_rfl)(hq:enc q=(enc p).set f v:=by kernel_rfl)(hw:Region.wanted o (yielded ops a.tmps)=true:=by exact wn rfl)(hd:o.dst=none:=by rfl)(hv:v.cells=#[v]:=by rfl)(h1:v.oneCell'=true:=by rfl):wpList P ops Q (o::rest) a w:=oW hw hd hr ho hx hy hv h1 hs he hF hp hf hq k
theorem tH{w':World}{x y:Operand}{i:Int}[Inhabited α](E:TypeId)(ho:o.op=.indexAddr t x y)(hF:Fit w0 (aB (rowOf E sz enc (.slice ca n cc) xs::L)) w)(hi:bG i xs.length)(hx:eM e x=.slice ca n cc:=by kernel_rfl)(hy:eM e y=.int .i64 i:=by kernel_rfl)(ht:P.underlying t=some (.slice E):=by kernel_rfl)(hs:(P.info? E).map (·.size)=some sz:=by kernel_rfl):(execOp (eM e) o).run P w'=.ok (.value (.pointer (some ⟨dW ca,i.toNat*sz,none⟩))) w':=yT ho hx hy ht hs hF hi
theorem Hg{x y:Operand}{i:Int}{b N R off:Nat}{w':World}(E:TypeId)(ho:o.op=.indexAddr t x y)(hi:bG i N)(hx:eM e x=.pointer (some ⟨b,R+off,none⟩):=by kernel_rfl)(hy:eM e y=.int .i64 i:=by kernel_rfl)(ht:P.underlying t=some (.array N E):=by kernel_rfl)(hs:(P.info? E).map (·.size)=some sz:=by kernel_rfl):(execOp (eM e) o).run P w'=.ok (.value (.pointer (some ⟨b,R+(off+i.toNat*sz),none⟩))) w':=Xv ho hx hy ht hs hi
theorem pY{fn:Func}{R:Ending->World->Prop}{t T b off u:Nat}(cs:List Value)(v:Value)(hres:fn.results=#[.cell t T,.tmp u])(hr:kI n e a)(hc:qJ w b off cs)(h:R (.returned (.tuple #[.agg cs.toArray,v])) w)(hv:e t=.pointer (some ⟨b,off,none⟩):=by kernel_rfl)(Xf:e u=v:=by kernel_rfl)(hu:tQ (P.underlying T)=true:=by kernel_rfl)(hs:(P.info? T).map (·.size)=some cs.length:=by kernel_rfl):bodyPost P fn R .ret a w:=PM hres hr hv Xf hu hs hc h
theorem iN[hp:PI Q]{D:World->Prop}{E:List Nat}{aK:Array Bool}(fuel i:Nat)(hi:ops[i]?=some o)(v:Value)(k:KK Df n ((dn o,v)::l) j (eH P .any ops Q D E fuel (aK.setIfInBounds i true)) w)(hg:o.guard=none:=by rfl)(hB:okB ops E aK i=true:=by kernel_rfl)(hrun:∀ w,(execOp (eM (lk l j)) o).run P w=.ok (.value v) w:=by intro w;kernel_rfl)(hd:o.dst=some (dn o):=by rfl)(hn:Nat.blt (dn o) n=true:=by rfl):KK Df n l j (eH P .any ops Q D E (fuel+1) aK) w:=λa r=>evs fuel i hi (wn hg) r v k hB hrun hd hn
theorem oK[hp:PI Q]{D:List (Nat×Nat×List Value)}{E:List Nat}{aK:Array Bool}(hd:HL D w)(f i:Nat)(hi:ops[i]?=some o)(v:Value)(hrun:∀ w,(execOp (eM (lk l j)) o).run P w=.ok (.value v) w)(k:KK Df n ((dn o,v)::l) j (eH P .any ops Q (HL D) E f (aK.setIfInBounds i true)) w)(hg:o.guard=none:=by rfl)(hB:Wi ops E aK i=true:=by kernel_rfl)(h1:o.dst=some (dn o):=by rfl)(hn:Nat.blt (dn o) n=true:=by rfl):KK Df n l j (eH P .any ops Q (HL D) E (f+1) aK) w:=λa r=>DA hd f i hi (wn hg) r v k hB hrun h1 hn
theorem qD{fn:Func}{R:Ending->World->Prop}(v:Value)(hres:fn.results=#[.tmp t])(hr:kI n e a)(h:R (.returned v) w)(hv:e t=v:=by kernel_rfl):bodyPost P fn R .ret a w:=yn hres hr hv h
theorem CY{fn:Func}{R:Ending->World->Prop}{t':Nat}(v v':Value)(hres:fn.results=#[.tmp t,.tmp t'])(hr:kI n e a)(h:R (.returned (.tuple #[v,v'])) w)(hv:e t=v:=by kernel_rfl)(Xf:e t'=v':=by kernel_rfl):bodyPost P fn R .ret a w:=FQ hres hr hv Xf h
theorem Ji{fn:Func}{R:Ending->World->Prop}{t1 t2 t3:Nat}(v1 v2 v3:Value)(hres:fn.results=#[.tmp t1,.tmp t2,.tmp t3])(hr:kI n e a)(h:R (.returned (.tuple #[v1,v2,v3])) w)(h1:e t1=v1:=by kernel_rfl)(h2:e t2=v2:=by kernel_rfl)(h3:e t3=v3:=by kernel_rfl):bodyPost P fn R .ret a w:=FW hres hr h1 h2 h3 h
theorem u7{x y:Operand}{i i':Int}(ho:o.op=.index t x y)(hi:i=i')(hy:eM e y=.int .i64 i:=by kernel_rfl)(hrun:(Instr.index t (eM e x) (.int .i64 i')).run P w=.ok v w:=by kernel_rfl):(execOp (eM e) o).run P w=.ok (.value v) w:=ac1 ho hy hi hrun
theorem DR{β:Type}[Inhabited α]{x y:Operand}{i:Int}{m rU:Nat}{enc:fO->Nat->α->List Value}{iS:β->List Value}{um:α->List β}{va:fO}{hs:Nat->Option Addr×Nat}(E:TypeId)(cc:Nat)(ho:o.op=.indexAddr t x y)(GZ:m=xs.length)(hF:yc L sz rU enc iS um va hs xs)(hi:bG i xs.length)(hx:eM e x=.slice va m cc:=by kernel_rfl)(hy:eM e y=.int .i64 i:=by kernel_rfl)(ht:P.underlying t=some (.slice E):=by kernel_rfl)(hs':(P.info? E).map (·.size)=some sz:=by kernel_rfl):(execOp (eM e) o).run P w=.ok (.value (.pointer (some ⟨dW va,j6 va+i.toNat*sz,none⟩))) w:=aaH ho hx hy GZ ht hs' hF hi
theorem EU[Inhabited α]{x y:Operand}{i:Int}{m:Nat}{va:fO}(E:TypeId)(cc:Nat)(ho:o.op=.indexAddr t x y)(GZ:m=xs.length)(hF:bE L sz enc va xs)(hi:bG i xs.length)(hx:eM e x=.slice va m cc:=by kernel_rfl)(hy:eM e y=.int .i64 i:=by kernel_rfl)(ht:P.underlying t=some (.slice E):=by kernel_rfl)(hs:(P.info? E).map (·.size)=some sz:=by kernel_rfl):(execOp (eM e) o).run P w=.ok (.value (.pointer (some ⟨dW va,j6 va+i.toNat*sz,none⟩))) w:=Wf ho hx hy GZ ht hs hF hi
end
abbrev jb(z:World)(l:List aZ)(w:World):Prop:=Fit z (aB l) w
abbrev nR(f:FuncId)(a:Array Value)(w z:World)(v:Value)(l:List aZ):Prop:=Calls Tryz.prog f a w λe w=>e=.returned v/\Fit z (aB l) w
abbrev c1_{α:Type}(f:FuncId)(a:Array Value)(w z:World)(v:Value)(l:α->List aZ):Prop:=Calls Tryz.prog f a w λe w=>∃x,e=.returned v/\Fit z (aB (l x)) w
abbrev c2_{α β:Type}(f:FuncId)(a:Array Value)(w z:World)(v:Value)(l:α->β->List aZ):Prop:=Calls Tryz.prog f a w λe w=>∃x y,e=.returned v/\Fit z (aB (l x y)) w
abbrev wT{α β γ δ:Type}(f:FuncId)(a:Array Value)(w z:World)(v:Value)(l:α->β->γ->δ->List aZ):Prop:=Calls Tryz.prog f a w λe w=>∃x y x' y',e=.returned v/\Fit z (aB (l x y x' y')) w
section
variable {P:Program}{ops:Array Oper}{Q:Exit->Act->World->Prop}{a:Act}{w w0 w1:World}{rest:List Oper}{o:Oper}{n d t:Nat}{v:Value}{l:List (Nat×Value)}{j e:Nat->Value}{L:List aZ}{Df:List Deferred}{α:Type}{E:TypeId}{sz n0 cc:Nat}{enc:α->List Value}{xs:List α}{ca:fO}
theorem mM{i:Nat}{E:List Nat}{D:World->Prop}{X:Act->World->Prop}(k:KK Df n l j X w)(hB:¬i∈E:=by decide):KK Df n l j (λa w=>(i∈E->D w)/\X a w) w:=λa r=>⟨λh=>absurd h hB,k a r⟩
theorem nJ{E:List Nat}{aK:Array Bool}{D:World->Prop}{fuel:Nat}(k:KK Df n l j (Q .normal) w)(hrd:Region.ready .any ops aK=[]:=by kernel_rfl):KK Df n l j (eH P .any ops Q D E fuel aK) w:=λa r=>yb (k a r) hrd
theorem lI{E:List Nat}{aK:Array Bool}(i:Nat){D:World->Prop}{fuel:Nat}(hi:ops[i]?=some o)(k:KK Df n l j (wpList P ops (Exit.then (λa w=>(i∈E->D w)/\eH P .any ops Q D E fuel (aK.setIfInBounds i true) a w) Q) [o]) w)(hrd:Region.ready .any ops aK=[i]:=by kernel_rfl):KK Df n l j (eH P .any ops Q D E (fuel+1) aK) w:=λa r=>lM i hi (k a r) hrd
theorem uI{i:Nat}{E:List Nat}{D:World->Prop}{X:Act->World->Prop}(hd:D w)(k:D w->KK Df n l j X w):KK Df n l j (λa w=>(i∈E->D w)/\X a w) w:=λa r=>⟨λ_=>hd,k hd a r⟩
theorem nK{id:Nat}{lo:List Oper}{H:aZ}(D:List (Nat×Nat×List Value))(E:List Nat)(N:Nat)(hF:Fit w0 H w)(hd:∀{w},Fit w0 H w->HL D w)(k:∀w,Fit w0 H w->HL D w->KK Df n l j (eH P .any lo.toArray Q (HL D) E N (Array.replicate N false)) w)(hm:P.follows .mixedOrders=true:=by kernel_rfl)(hN:lo.toArray.size=N:=by rfl):KK Df n l j ((Code.region id lo.toArray true).wp P Q) w:=λa r=>Ch D E N hF hd (λw h hd=>k w h hd a r) hm hN
theorem xl{x:Operand}{ad:Addr}(v:Value)(hc:w.cell? ad=some v)(k:KK Df n ((d,v)::l) j (wpList P ops Q rest) w)(hw:o.guard=none:=by rfl)(hd:o.dst=some d:=by rfl)(hn:Nat.blt d n=true:=by rfl)(ho:o.op=.load t x:=by rfl)(hx:eM (lk l j) x=.pointer (some ad):=by kernel_rfl)(hu:wu (P.underlying t)=true:=by kernel_rfl):KK Df n l j (wpList P ops Q (o::rest)) w:=λ_ r=>ld (wn hw) r v hc k hd hn ho hx hu
theorem xm{x:Operand}{b off:Nat}{cs:List Value}(v:Value)(hc:qJ w b off cs)(k:KK Df n ((d,v)::l) j (wpList P ops Q rest) w)(hv:.agg cs.toArray=v:=by rfl)(hw:o.guard=none:=by rfl)(hd:o.dst=some d:=by rfl)(hn:Nat.blt d n=true:=by rfl)(ho:o.op=.load t x:=by rfl)(hx:eM (lk l j) x=.pointer (some ⟨b,off,none⟩):=by kernel_rfl)(hu:tQ (P.underlying t)=true:=by kernel_rfl)(hs:(P.info? t).map (·.size)=some cs.length:=by kernel_rfl):KK Df n l j (wpList P ops Q (o::rest)) w:=λ_ r=>ldm (wn hw) r v hc k hv hd hn ho hx hu hs
def XG(b:Nat)(afu:List (List Nat×Value)):List (Nat×Nat×Value):=afu.flatMap λg=>g.1.map λk=>(k,b+k,g.2)
theorem mU{E:List Nat}{aK:Array Bool}{N:Nat}{D:List (Nat×Nat×List Value)}[hp:PI Q](hd:HL D w)(f b:Nat)(afu:List (List Nat×Value))(k:KK Df n (RI (XG b afu) l) j (eH P .any ops Q (HL D) E f (RH (XG b afu) aK)) w)(hN:f+(XG b afu).length=N:=by kernel_rfl)(hB:Zx ops E n (XG b afu) aK=true:=by kernel_rfl)(hrun:∀w,I8 P ops (XG b afu) l j w=CN (XG b afu) w:=by intro w;kernel_rfl):KK Df n l j (eH P .any ops Q (HL D) E N aK) w:=nl hd f (XG b afu) k hN hB hrun
theorem bS{os:List Oper}(k:KK Df n (adA P j os [U] l) j (wpList P ops Q (os.drop 1)) w)(hrun:Xy P n j w os [U] l=Xz P j w os [U] l:=by kernel_rfl):KK Df n l j (wpList P ops Q os) w:=ko [U] k hrun
theorem aL{RF:Nat}{y:Code}{os:List Oper}(vs:List Value)(k:KK Df n (adA P j os vs l) j (wpList P os.toArray (Exit.then (y.wp P Q) Q) (os.drop vs.length)) w)(hrun:Xy P n j w os vs l=Xz P j w os vs l:=by kernel_rfl):KK Df n l j ((Code.seq (.region RF os.toArray false) y).wp P Q) w:=ks (ko vs k hrun)
theorem iq{RF:Nat}{y:Code}{o:Oper}(k:KK Df n (adA P j [o] [U] l) j (y.wp P Q) w)(hrun:Xy P n j w [o] [U] l=Xz P j w [o] [U] l:=by kernel_rfl):KK Df n l j ((Code.seq (.region RF [o].toArray false) y).wp P Q) w:=ks (ko [U] (G k) hrun)
theorem cu(k:KK Df n l j (Q .ret) w):KK Df n l j (wpList P ops (Exit.then (Code.ret.wp P Q) Q) []) w:=G (wr k)
theorem gw{K:Act->World->Prop}(k:KK Df n l j K w):KK Df n l j (Code.skip.wp P (Exit.then K Q)) w:=wk (tn k)
theorem fW{E:List Nat}{aK:Array Bool}{D:List (Nat×Nat×List Value)}{v:Value}[hp:PI Q](hd:HL D w)(q f i:Nat){b off:Nat}{x:Operand}(h:(ops[i]?,D[q]?)=(some o,some (b,off,[v])))(k:KK Df n ((dn o,v)::l) j (eH P .any ops Q (HL D) E f (aK.setIfInBounds i true)) w)(hg:o.guard=none:=by rfl)(hB:(okB ops E aK i&&BZ .any ops E aK i)=true:=by kernel_rfl)(ho:o.op=.load t x:=by rfl)(hx:eM (lk l j) x=.pointer (some ⟨b,off,none⟩):=by kernel_rfl)(hu:wu (P.underlying t)=true:=by kernel_rfl)(h1:o.dst=some (dn o):=by rfl)(hn:Nat.blt (dn o) n=true:=by rfl):KK Df n l j (eH P .any ops Q (HL D) E (f+1) aK) w:=kx hd q f i (mX (·.1) h) (mX (·.2) h) k hg hB ho hx hu h1 hn
end
abbrev mg(a:fO)(i:Int)(s:Nat):Value:=pA (dW a) (i.toNat*s)
abbrev aW(a:fO)(n c:Nat):Value:=.slice a n c
abbrev if_(n:Nat)(v:Value):Value:=.iface n v
abbrev oQ(a:Array Value):Value:=.agg a
abbrev gG(b:Nat)(c:Array Value)(t:Nat):aZ:=pts b (.cells c t)
abbrev sU(a:fO)(i:Int)(s f:Nat):Value:=pA (dW a) (i.toNat*s+f)
abbrev er (p:ag) (i:Int):aR:={pO p i with J:=wi ((pO p i).J+1)}
abbrev Co (p:ag) (i:Int):aC:=J p.code (pO p i).fn.toNat
abbrev fA (p:ag) (i:Int):bZ:=J (Co p i).aq (pO p i).J.toNat
abbrev CZ (p:ag) (i:Int) (a:aR):=p.aG.set (an p i).au.toNat a
def j7(O:eK):Option (Bool):=
 (if O.cr<1 then some true else(if O.cr>4096 then some true else(if O.dQ<1 then some true else(if O.dQ>O.jE then some true else some (decide (O.jE>4096))))))
abbrev dm:List Value:=[U,U]
theorem wW(H:j7 O=some r0)(h:jb z (L) w) :
 nR 47 #[j4 O] w z (vB r0) (L):=by
 unfold j7 at H;refine ke func47 28 rfl λj=>ks<|kN h (k8 O) 27 λb1 w h=>bS<|G<|aL [U]<|kL h 0<|ko [dx (O.cr<1),dx (O.cr<1)]<|qI H (λc2 H=>?_) λc2 H=>?_
 ·refine bW (dT c2) [7,8,9]<|nv (dT c2) (vB true)<|bS<|bW (rfl:true=true) [12,13,14]<|ko dm<|bW (rfl:true=true) [17,18,19,20,21]<|ko dm<|bW (rfl:true=true) [24,25,26]<|ko dm<|cu<|?_;cases H;exact gR (h.se 1 [])
 refine cS (dF c2) [7] [pA b1 0]<|tc (dF c2) h 0<|cS (dF c2) [9] [dx (O.cr>4096)]<|ny (dF c2) (dx (O.cr>4096))<|ko [dx (O.cr>4096)]<|qI H (λc3 H=>?_) λc3 H=>?_
 ·refine bW (dT c3) [12,13,14]<|nv (dT c3) (vB true)<|bS<|bW (rfl:true=true) [17,18,19,20,21]<|ko dm<|bW (rfl:true=true) [24,25,26]<|ko dm<|cu<|?_;cases H;exact gR (h.se 1 [])
 refine cS (dF c3) [12] [pA b1 1]<|tc (dF c3) h 1<|cS (dF c3) [14] [dx (O.dQ<1)]<|ny (dF c3) (dx (O.dQ<1))<|ko [dx (O.dQ<1)]<|qI H (λc4 H=>?_) λc4 H=>?_
 ·refine bW (dT c4) [17,18,19,20,21]<|nv (dT c4) (vB true)<|bS<|bW (rfl:true=true) [24,25,26]<|ko dm<|cu<|?_;cases H;exact gR (h.se 1 [])
 refine cS (dF c4) [17] [pA b1 1]<|tc (dF c4) h 1<|cS (dF c4) [19] [pA b1 2]<|tc (dF c4) h 2<|cS (dF c4) [21] [dx (O.dQ>O.jE)]<|ny (dF c4) (dx (O.dQ>O.jE))<|ko [dx (O.dQ>O.jE)]<|qI H (λc5 H=>?_) λc5 H=>?_
 ·refine bW (dT c5) [24,25,26]<|nv (dT c5) (vB true)<|bS<|cu<|?_;cases H;exact gR (h.se 1 [])
 refine cS (dF c5) [24] [pA b1 2]<|tc (dF c5) h 2<|cS (dF c5) [26] [dx (O.jE>4096)]<|ny (dF c5) (dx (O.jE>4096))<|ko [dx (O.jE>4096)]<|cu<|?_;cases H;exact gR (h.se 1 [])
def lU(K:Nat)(Y:Int):Nat->Int->Int->Option (Int)
 | 0,_,_=>none
 | k1+1,g1,g2=>(if g2<Y then(lU K Y k1 (wi ((wi (g1+1))+(if Y<(wi ((2:Int)*g2))then Y else(wi ((2:Int)*g2))))) (if Y<(wi ((2:Int)*g2))then Y else(wi ((2:Int)*g2))))else some g1)
def tC(K:Nat)(O:Int)(Y:Int):Option (Int):=
 (lU K Y K (wi ((4:Int)+O)) O)
def xn(K:Nat)(O:Int)(Y:eK):Option (Int):=
 xF ((if O<1 then some (.inr 0)else(if O>64 then some (.inr 0)else eV (j7 Y) (λr6=>(if r6=true then some (.inr 0)else some (.inl ())))))) (eV (tC K Y.dQ Y.jE) (λr9=>some (wi ((wi ((wi ((wi ((2:Int)+(wi (Y.cr*10))))+2))+O))+(wi (O*r9))))))
def yW(O:Int):Option (Bool):=
 (if O>=0 then some (decide (O<=1048576))else some false)
theorem B7(H:yW O=some r0)(h:jb z (L) w) :
 nR 46 #[Z O] w z (vB r0) (L):=by
 unfold yW at H;refine ke func46 9 rfl λj=>iq<|aL [U,dx (O>=0),dx (O>=0)]<|qI H (λc1 H=>?_) λc1 H=>?_
 ·refine cS (dT c1) [6,7] [Z O,dx (O<=1048576)]<|nv (dT c1) (dx (O<=1048576))<|ko [dx (O<=1048576)]<|cu<|?_;cases H;exact gR h
 refine bW (dF c1) [6,7]<|ny (dF c1) (vB false)<|bS<|cu<|?_;cases H;exact gR h
def v9(O:Int):Option ((Option ae)×Int):=
 eV (yW O) (λr1=>(if r1=true then some (some (⟨O,0,([]:List Int),([]:List aN),0,false⟩:ae),0)else some (none,3)))
abbrev lJ:List Value:=[U,U,U]
abbrev gz (B:Nat) (S:ae) (a:fO) (c:Nat) (d:fO) (e:Nat) (L:List aZ):List aZ:=ac4 B S a c d e::XF a c S.cell::Sg d e S.log::L
theorem Hh{O r1:Int}{r0:ae}(H:v9 O=some ((some r0),r1))(h:jb z (L) w) :
 Calls Tryz.prog 14 #[Z O] w λe w=>∃Wq y1 y2 y3 y4,e=.returned (.tuple #[pA Wq 0,Z r1])/\Fit z (aB (gz Wq r0 y1 y2 y3 y4 L)) w:=by
 unfold v9 at H;refine ke func14 11 rfl λj=>aL dm<|G<|wq<|ks<|gy H λr1 e2 H=>bS<|fD (B7 e2 h :) λw h=>ko [vB (!r1)]<|G<|DN H (λc3 H=>?_) λc3 H=>?_
 ·refine gw<|aL lJ<|kN h (#[Z O,Z 0,aW none 0 0,aW none 0 0,Z 0,vB false]) 92 λb4 w h=>ko dm<|cu<|λ_ r=>CY (pA b4 0) (Z 0) rfl r<|?_;replace h:=h.fU (e:=2) (sz:=1) (enc:=cQ);replace h:=h.fU (e:=159) (sz:=6) (enc:=gS);cases H;exact⟨b4,none,0,none,0,rfl,h.se 3 [2,1,0]⟩
 refine aL dm<|cu<|tr<|λ_ r=>CY pN (Z 3) rfl r<|?_;cases H
theorem Hj{O r1:Int}(H:v9 O=some (none,r1))(h:jb z (L) w) :
 nR 14 #[Z O] w z (.tuple #[pN,Z r1]) (L):=by
 unfold v9 at H;refine ke func14 11 rfl λj=>aL dm<|G<|wq<|ks<|gy H λr1 e2 H=>bS<|fD (B7 e2 h :) λw h=>ko [vB (!r1)]<|G<|DN H (λc3 H=>?_) λc3 H=>?_
 ·refine gw<|aL lJ<|kN h (#[Z O,Z 0,aW none 0 0,aW none 0 0,Z 0,vB false]) 92 λb4 w h=>ko dm<|cu<|λ_ r=>CY (pA b4 0) (Z 0) rfl r<|?_;replace h:=h.fU (e:=2) (sz:=1) (enc:=cQ);replace h:=h.fU (e:=159) (sz:=6) (enc:=gS);cases H
 refine aL dm<|cu<|tr<|?_;cases H;exact MV h
def jR(O:aC):Option (Bool):=
 xF ((if O.aS<0 then some (.inr false)else(if O.aS>8 then some (.inr false)else(if O.dc<1 then some (.inr false)else(if O.dc<O.aS then some (.inr false)else(if O.dc>16 then some (.inr false)else some (.inl ()))))))) ((if O.bD>=0 then(if O.bD<=8 then(if((O.aq.length:Nat):Int)>=1 then some (decide (((O.aq.length:Nat):Int)<=512))else some false)else some false)else some false))
theorem uy(H:jR O=some r0)(h:jb z (L) w)(cE:bE L 5 cL bl O.aq) :
 nR 68 #[oQ #[Z O.aS,Z O.dc,Z O.bD,aW bl O.aq.length bO]] w z (vB r0) (L):=by
 unfold jR at H;refine ke func68 48 rfl λj=>ks<|kN h (#[Z O.aS,Z O.dc,Z O.bD,aW bl O.aq.length bO]) 99 λb1 w h=>bS<|G<|?_;obtain⟨o3,H,EE⟩:=Dx H;refine λ_ r=>cW (β:=Unit) (λ_ a w=>.inl ()=o3/\∃j,kI 48 (lk [(1,pA b1 0)] j) a/\Fit z (aB (qB b1 O bl bO::L)) w) ?_ ?_
 ·refine qq r<|aL [U]<|kL h 0<|ko [dx (O.aS<0),dx (O.aS<0)]<|qI H (λc4 H=>?_) λc4 H=>?_
  ·refine bW (dT c4) [7,8,9]<|nv (dT c4) (vB true)<|bS<|bW (rfl:true=true) [12,13,14]<|ko dm<|bW (rfl:true=true) [17,18,19,20,21]<|ko dm<|bW (rfl:true=true) [24,25,26]<|bS<|G<|λ_ r=>fV r (b:=true) rfl<|qq r<|iq<|wr<|tr<|λ_ r=>qD (vB false) rfl r<|?_;replace H:=uD H EE;cases H;exact⟨rfl,h.se 1 []⟩
  refine cS (dF c4) [7] [pA b1 0]<|tc (dF c4) h 0<|cS (dF c4) [9] [dx (O.aS>8)]<|ny (dF c4) (dx (O.aS>8))<|ko [dx (O.aS>8)]<|qI H (λc5 H=>?_) λc5 H=>?_
  ·refine bW (dT c5) [12,13,14]<|nv (dT c5) (vB true)<|bS<|bW (rfl:true=true) [17,18,19,20,21]<|ko dm<|bW (rfl:true=true) [24,25,26]<|bS<|G<|λ_ r=>fV r (b:=true) rfl<|qq r<|iq<|wr<|tr<|λ_ r=>qD (vB false) rfl r<|?_;replace H:=uD H EE;cases H;exact⟨rfl,h.se 1 []⟩
  refine cS (dF c5) [12] [pA b1 1]<|tc (dF c5) h 1<|cS (dF c5) [14] [dx (O.dc<1)]<|ny (dF c5) (dx (O.dc<1))<|ko [dx (O.dc<1)]<|qI H (λc6 H=>?_) λc6 H=>?_
  ·refine bW (dT c6) [17,18,19,20,21]<|nv (dT c6) (vB true)<|bS<|bW (rfl:true=true) [24,25,26]<|bS<|G<|λ_ r=>fV r (b:=true) rfl<|qq r<|iq<|wr<|tr<|λ_ r=>qD (vB false) rfl r<|?_;replace H:=uD H EE;cases H;exact⟨rfl,h.se 1 []⟩
  refine cS (dF c6) [17] [pA b1 1]<|tc (dF c6) h 1<|cS (dF c6) [19] [pA b1 0]<|tc (dF c6) h 0<|cS (dF c6) [21] [dx (O.dc<O.aS)]<|ny (dF c6) (dx (O.dc<O.aS))<|ko [dx (O.dc<O.aS)]<|qI H (λc7 H=>?_) λc7 H=>?_
  ·refine bW (dT c7) [24,25,26]<|nv (dT c7) (vB true)<|G<|λ_ r=>fV r (b:=true) rfl<|qq r<|iq<|wr<|tr<|λ_ r=>qD (vB false) rfl r<|?_;replace H:=uD H EE;cases H;exact⟨rfl,h.se 1 []⟩
  refine cS (dF c7) [24] [pA b1 1]<|tc (dF c7) h 1<|cS (dF c7) [26] [dx (O.dc>16)]<|ny (dF c7) (dx (O.dc>16))<|G<|eB H (λc8 H=>?_) λc8 H=>?_
  ·refine iq<|wr<|tr<|λ_ r=>qD (vB false) rfl r<|?_;replace H:=uD H EE;cases H;exact⟨rfl,h.se 1 []⟩
  refine gw<|?_;exact λ_ r=>⟨(),gM H,r.fj h⟩
 clear h r;rintro _ a w ⟨rfl,j,r,h⟩;replace H:=Dy EE;refine qq r<|aL [U]<|kL h 2<|ko [dx (O.bD>=0),dx (O.bD>=0)]<|qI H (λc9 H=>?_) λc9 H=>?_
 ·refine cS (dT c9) [32] [pA b1 2]<|tc (dT c9) h 2<|cS (dT c9) [34] [dx (O.bD<=8)]<|nv (dT c9) (dx (O.bD<=8))<|ko [dx (O.bD<=8)]<|qI H (λod H=>?_) λod H=>?_
  ·refine cS (dT od) [37] [pA b1 3]<|tc (dT od) h 3<|cS (dT od) [39,40] [Z ((O.aq.length:Nat):Int),dx (((O.aq.length:Nat):Int)>=1)]<|nv (dT od) (dx (((O.aq.length:Nat):Int)>=1))<|ko [dx (((O.aq.length:Nat):Int)>=1)]<|qI H (λuS H=>?_) λuS H=>?_
   ·refine cS (dT uS) [43] [pA b1 3]<|tc (dT uS) h 3<|cS (dT uS) [45,46] [Z ((O.aq.length:Nat):Int),dx (((O.aq.length:Nat):Int)<=512)]<|nv (dT uS) (dx (((O.aq.length:Nat):Int)<=512))<|ko [dx (((O.aq.length:Nat):Int)<=512)]<|cu<|?_;cases H;exact gR (h.se 1 [])
   refine bW (dF uS) [43,44,45,46]<|ny (dF uS) (vB false)<|bS<|cu<|?_;cases H;exact gR (h.se 1 [])
  refine bW (dF od) [37,38,39,40]<|ny (dF od) (vB false)<|bS<|bW (rfl:false=false) [43,44,45,46]<|ko dm<|cu<|?_;cases H;exact gR (h.se 1 [])
 refine bW (dF c9) [32,33,34]<|ny (dF c9) (vB false)<|bS<|bW (rfl:false=false) [37,38,39,40]<|ko dm<|bW (rfl:false=false) [43,44,45,46]<|ko dm<|cu<|?_;cases H;exact gR (h.se 1 [])
def gC(O:Int)(Y:Int):Option (Bool):=
 (if O>=0 then some (decide (O<Y))else some false)
theorem ik(H:gC O Y=some r0)(h:jb z (L) w) :
 nR 110 #[Z O,Z Y] w z (vB r0) (L):=by
 unfold gC at H;refine ke func110 12 rfl λj=>iq<|aL [U,dx (O>=0),dx (O>=0)]<|qI H (λc1 H=>?_) λc1 H=>?_
 ·refine cS (dT c1) [8,9,10] [Z O,Z Y,dx (O<Y)]<|nv (dT c1) (dx (O<Y))<|ko [dx (O<Y)]<|cu<|?_;cases H;exact gR h
 refine bW (dF c1) [8,9,10]<|ny (dF c1) (vB false)<|bS<|cu<|?_;cases H;exact gR h
def nn(O:aC)(Y:bZ):Option (Bool):=
 eV (gC Y.A O.dc) (λr3=>eV (gC Y.B O.dc) (λr5=>eV ((if Y.aE=0 then some (Y.aE==0)else(if Y.aE=8 then some (Y.aE==8)else some (Y.aE==9)))) (λg7=>(if g7=true then some r3 else(if Y.aE=1 then(if r3=true then some r5 else some false)else(if Y.aE=2 then(if r3=true then(if r5=true then eV (gC Y.C O.dc) (λlV=>(if lV=true then(if Y.K>=0 then some (decide (Y.K<16))else some false)else some false))else some false)else some false)else(if Y.aE=3 then eV (gC Y.A ((O.aq.length:Nat):Int)) (λqZ=>some qZ)else(if Y.aE=4 then(if r3=true then eV (gC Y.B ((O.aq.length:Nat):Int)) (λMA=>some MA)else some false)else(if Y.aE=5 then eV (gC Y.A O.bD) (λAA=>some AA)else(if Y.aE=6 then some true else(if Y.aE=7 then(if r3=true then eV (gC Y.B O.bD) (λCD=>some CD)else some false)else some false)))))))))))
theorem rX(H:nn O Y=some r0)(h:jb z (L) w)(cE:bE L 5 cL bl O.aq) :
 nR 69 #[oQ #[Z O.aS,Z O.dc,Z O.bD,aW bl O.aq.length bO],iJ Y] w z (vB r0) (L):=by
 unfold nn at H;refine ke func69 91 rfl λj=>ks<|kN h (#[Z O.aS,Z O.dc,Z O.bD,aW bl O.aq.length bO]) 99 λb1 w h=>kN h (nc Y) 146 λb2 w h=>bS<|G<|aL [U]<|kL h 1<|bS<|kL (h.pick 1) 1<|gy H λr3 e4 H=>fD (ik e4 h :) λw h=>bS<|G<|aL [U]<|kL h 2<|bS<|kL (h.pick 1) 1<|gy H λr5 e6 H=>fD (ik e6 h :) λw h=>bS<|G<|wq<|aL [U]<|kL h 0<|G<|wb<|DM H λo9 H K7=>λ_ r=>cW (β:=Unit) (λ_ a w=>∃g7:Bool,g7=o9/\∃j,kI 91 (lk [(2,pA b1 0),(3,pA b2 0),(5,vB r3),(6,vB r5),(18,Z Y.aE),(19,vB g7)] j) a/\Fit z (aB (qB b1 O bl bO::wF b2 Y::L)) w) ?_ ?_
 ·refine qq r<|aL [vB (Y.aE==0),vB (Y.aE==0)]<|G<|eB H (λod H=>?_) λod H=>?_
  ·refine gw<|?_;exact λ_ r=>⟨(),(Y.aE==0),gM H,r.fj (h.se 2 [1,0])⟩
  refine aL [vB (Y.aE==8),vB (Y.aE==8)]<|G<|eB H (λuS H=>?_) λuS H=>?_
  ·refine gw<|?_;exact λ_ r=>⟨(),(Y.aE==8),gM H,r.fj (h.se 2 [1,0])⟩
  refine wl<|ko [vB (Y.aE==9),vB (Y.aE==9)]<|G<|?_;exact λ_ r=>⟨(),(Y.aE==9),gM H,r.fj (h.se 2 [1,0])⟩
 clear h r;rintro _ a w ⟨g7,rfl,j,r,h⟩;replace H:=DJ K7;refine qq r<|ED H (λCE H=>?_) λCE H=>?_
 ·refine aL dm<|cu<|br<|tr<|?_;cases H;exact gR (h.se 2 [])
 refine aL [vB (Y.aE==1),vB (Y.aE==1)]<|G<|eB H (λyz H=>?_) λyz H=>?_
 ·refine aL dm<|qI H (λwX H=>?_) λwX H=>?_
  ·refine cS (wX) [28] [vB r5]<|nv (wX) (vB r5)<|bS<|cu<|br<|tr<|?_;cases H;exact gR (h.se 2 [])
  refine bW (bF wX) [28]<|ny (bF wX) (vB false)<|bS<|cu<|br<|tr<|?_;cases H;exact gR (h.se 2 [])
 refine aL [vB (Y.aE==2),vB (Y.aE==2)]<|G<|eB H (λpU H=>?_) λpU H=>?_
 ·refine aL dm<|qI H (λwY H=>?_) λwY H=>?_
  ·refine cS (wY) [34] [vB r5]<|nv (wY) (vB r5)<|bS<|qI H (λBo H=>?_) λBo H=>?_
   ·refine cS (Bo) [37] [pA b2 3]<|λ_ r=>ld (mT r (Bo)) r (Z Y.C) ((h.pick 1).cell 3 rfl)<|?_;refine cS (Bo) [39] [pA b1 1]<|λ_ r=>ld (mT r (Bo)) r (Z O.dc) (h.cell 1 rfl)<|?_;refine gy H λlV IB H=>?_;have hc:=ik (H:=IB) (h:=h);intro _ r;refine cl (mT r (Bo)) r hc ?_;clear hc h;rintro _ w ⟨rfl,h⟩;refine⟨_,rfl,?_⟩;refine nv (Bo) (vB lV)<|bS<|qI H (λlO H=>?_) λlO H=>?_
    ·refine cS (lO) [44] [pA b2 4]<|λ_ r=>ld (mT r (lO)) r (Z Y.K) ((h.pick 1).cell 4 rfl)<|?_;refine cS (lO) [46] [dx (Y.K>=0)]<|nv (lO) (dx (Y.K>=0))<|ko [dx (Y.K>=0)]<|qI H (λsv H=>?_) λsv H=>?_
     ·refine cS (dT sv) [49] [pA b2 4]<|tc (dT sv) (h.pick 1) 4<|cS (dT sv) [51] [dx (Y.K<16)]<|nv (dT sv) (dx (Y.K<16))<|ko [dx (Y.K<16)]<|cu<|br<|tr<|?_;cases H;exact gR (h.se 2 [])
     refine bW (dF sv) [49,50,51]<|ny (dF sv) (vB false)<|bS<|cu<|br<|tr<|?_;cases H;exact gR (h.se 2 [])
    refine bW (bF lO) [44,45,46]<|ny (bF lO) (vB false)<|bS<|bW (rfl:false=false) [49,50,51]<|ko dm<|cu<|br<|tr<|?_;cases H;exact gR (h.se 2 [])
   refine bW (bF Bo) [37,38,39,40,41]<|ny (bF Bo) (vB false)<|bS<|bW (rfl:false=false) [44,45,46]<|ko dm<|bW (rfl:false=false) [49,50,51]<|ko dm<|cu<|br<|tr<|?_;cases H;exact gR (h.se 2 [])
  refine bW (bF wY) [34]<|ny (bF wY) (vB false)<|bS<|bW (rfl:false=false) [37,38,39,40,41]<|ko dm<|bW (rfl:false=false) [44,45,46]<|ko dm<|bW (rfl:false=false) [49,50,51]<|ko dm<|cu<|br<|tr<|?_;cases H;exact gR (h.se 2 [])
 refine aL [vB (Y.aE==3),vB (Y.aE==3)]<|G<|eB H (λC0 H=>?_) λC0 H=>?_
 ·refine aL [U]<|kL (h.pick 1) 1<|bS<|kL h 3<|gy H λqZ UO H=>ko [Z ((O.aq.length:Nat):Int)]<|fD (ik UO h :) λw h=>bS<|cu<|br<|tr<|?_;cases H;exact gR (h.se 2 [])
 refine aL [vB (Y.aE==4),vB (Y.aE==4)]<|G<|eB H (λxH H=>?_) λxH H=>?_
 ·refine aL dm<|qI H (λBp H=>?_) λBp H=>?_
  ·refine cS (Bp) [65] [pA b2 2]<|λ_ r=>ld (mT r (Bp)) r (Z Y.B) ((h.pick 1).cell 2 rfl)<|?_;refine cS (Bp) [67] [pA b1 3]<|λ_ r=>ld (mT r (Bp)) r (aW bl O.aq.length bO) (h.cell 3 rfl)<|?_;refine gy H λMA PY H=>cS (Bp) [69] [Z ((O.aq.length:Nat):Int)]<|?_;have hc:=ik (H:=PY) (h:=h);intro _ r;refine cl (mT r (Bp)) r hc ?_;clear hc h;rintro _ w ⟨rfl,h⟩;refine⟨_,rfl,?_⟩;refine nv (Bp) (vB MA)<|bS<|cu<|br<|tr<|?_;cases H;exact gR (h.se 2 [])
  refine bW (bF Bp) [65,66,67,68,69,70]<|ny (bF Bp) (vB false)<|bS<|cu<|br<|tr<|?_;cases H;exact gR (h.se 2 [])
 refine aL [vB (Y.aE==5),vB (Y.aE==5)]<|G<|eB H (λB8 H=>?_) λB8 H=>?_
 ·refine aL [U]<|kL (h.pick 1) 1<|bS<|kL h 2<|gy H λAA T6 H=>fD (ik T6 h :) λw h=>bS<|cu<|br<|tr<|?_;cases H;exact gR (h.se 2 [])
 refine aL [vB (Y.aE==6),vB (Y.aE==6)]<|G<|eB H (λGf H=>?_) λGf H=>?_
 ·refine iq<|wr<|br<|tr<|?_;cases H;exact gR (h.se 2 [])
 refine aL [vB (Y.aE==7),vB (Y.aE==7)]<|G<|eB H (λBu H=>?_) λBu H=>?_
 ·refine aL dm<|qI H (λDS H=>?_) λDS H=>?_
  ·refine cS (DS) [85] [pA b2 2]<|λ_ r=>ld (mT r (DS)) r (Z Y.B) ((h.pick 1).cell 2 rfl)<|?_;refine cS (DS) [87] [pA b1 2]<|λ_ r=>ld (mT r (DS)) r (Z O.bD) (h.cell 2 rfl)<|?_;refine gy H λCD Si H=>?_;have hc:=ik (H:=Si) (h:=h);intro _ r;refine cl (mT r (DS)) r hc ?_;clear hc h;rintro _ w ⟨rfl,h⟩;refine⟨_,rfl,?_⟩;refine nv (DS) (vB CD)<|bS<|cu<|br<|tr<|?_;cases H;exact gR (h.se 2 [])
  refine bW (bF DS) [85,86,87,88,89]<|ny (bF DS) (vB false)<|bS<|cu<|br<|tr<|?_;cases H;exact gR (h.se 2 [])
 refine wk<|bn<|tn<|iq<|wr<|?_;cases H;exact gR (h.se 2 [])
def oe(O:aJ)(Y:aC)(p2:bZ):Option (Bool):=
 (if p2.aE=5 then eV (gC p2.B ((O.ah.length:Nat):Int)) (λr5=>(if r5=true then if bG p2.B O.ah.length then(if(J O.ah p2.B.toNat).aS=0 then some true else eV (gC p2.C Y.dc) (λAB=>(if AB=true then some (decide ((J O.ah p2.B.toNat).aS<=(wi (Y.dc-p2.C))))else some false)))else none else some false))else some true)
theorem zU(H:oe O Y p2=some r0)(h:jb z (L) w)(aV:Bt L bu aI O.ah)(eN:bE L 5 cL de Y.aq) :
 nR 70 #[oQ #[aW bu O.ah.length bV],oQ #[Z Y.aS,Z Y.dc,Z Y.bD,aW de Y.aq.length di],iJ p2] w z (vB r0) (L):=by
 unfold oe at H;refine ke func70 43 rfl λj=>ks<|kN h (#[aW bu O.ah.length bV]) 24 λb1 w h=>kN h (#[Z Y.aS,Z Y.dc,Z Y.bD,aW de Y.aq.length di]) 99 λb2 w h=>kN h (nc p2) 146 λb3 w h=>bS<|G<|wq<|aL [U]<|kL h 0<|ko [vB (p2.aE != 5)]<|G<|qx H (λc4 H=>?_) λc4 H=>?_
 ·refine gw<|wq<|aL [U]<|kL h 2<|bS<|kL (h.pick 2) 0<|gy H λr5 e6 H=>ko [Z ((O.ah.length:Nat):Int)]<|fD (ik e6 h :) λw h=>ko [vB (!r5)]<|G<|DN H (λc7 H=>?_) λc7 H=>?_
  ·refine gw<|aL [U]<|kL (h.pick 2) 0<|bS<|kL h 2<|qg H λc8 H=>kp (pA (dW bu) (j6 bu+p2.B.toNat*4)) (DR 99 bV rfl rfl aV c8)<|bS<|xl (Z (J O.ah p2.B.toNat).aS) (aV.cell c8 (h.dn 3) 0 rfl)<|?_;refine bS<|G<|aL [U,vB ((J O.ah p2.B.toNat).aS==0),vB ((J O.ah p2.B.toNat).aS==0)]<|qI H (λc9 H=>?_) λc9 H=>?_
   ·refine bW (beq_iff_eq.mpr c9) [28,29,30,31,32,33]<|KW true [34,35,36,37,38,39,40]<|bW (beq_iff_eq.mpr c9) [41]<|nv (beq_iff_eq.mpr c9) (vB true)<|bS<|cu<|?_;cases H;exact gR (h.se 3 [])
   refine cS (bN c9) [28] [pA b3 3]<|tc (bN c9) h 3<|cS (bN c9) [30] [pA b2 1]<|tc (bN c9) (h.pick 1) 1<|gy H λAB UP H=>Zz (bN c9) (ik UP h :) λw h=>cS (bN c9) [33] [vB AB]<|qI H (λCE H=>?_) λCE H=>?_
   ·refine cS (CE) [34,35] [Z (J O.ah p2.B.toNat).aS,pA b2 1]<|λ_ r=>ld (mT r (CE)) r (Z Y.dc) ((h.pick 1).cell 1 rfl)<|?_;refine cS (CE) [37] [pA b3 3]<|λ_ r=>ld (mT r (CE)) r (Z p2.C) (h.cell 3 rfl)<|?_;refine cS (CE) [39,40] [Z (wi (Y.dc-p2.C)),dx ((J O.ah p2.B.toNat).aS<=(wi (Y.dc-p2.C)))]<|λ_ r=>My (mT r (bN c9)) r (dx ((J O.ah p2.B.toNat).aS<=(wi (Y.dc-p2.C)))) (G7 (b:=AB) rfl bp (CE) bp)<|?_;refine ny (bN c9) (dx ((J O.ah p2.B.toNat).aS<=(wi (Y.dc-p2.C))))<|ko [dx ((J O.ah p2.B.toNat).aS<=(wi (Y.dc-p2.C)))]<|cu<|?_;cases H;exact gR (h.se 3 [])
   refine bW (bF CE) [34,35,36,37,38,39,40]<|λ_ r=>My (mT r (bN c9)) r (vB false) (I1 (b:=AB) rfl bp (bF CE) bp)<|?_;refine ny (bN c9) (vB false)<|bS<|cu<|?_;cases H;exact gR (h.se 3 [])
  refine iq<|wr<|tr<|?_;cases H;exact gR (h.se 3 [])
 refine iq<|wr<|tr<|?_;cases H;exact gR (h.se 3 [])
def mG(O:aC):Option (Bool):=
 if bG (wi (((O.aq.length:Nat):Int)-1)) O.aq.length then(if(J O.aq (wi (((O.aq.length:Nat):Int)-1)).toNat).aE=3 then some true else some ((J O.aq (wi (((O.aq.length:Nat):Int)-1)).toNat).aE==9))else none
theorem vL(H:mG O=some r0)(h:jb z (L) w)(cE:bE L 5 cL bl O.aq) :
 nR 71 #[oQ #[Z O.aS,Z O.dc,Z O.bD,aW bl O.aq.length bO]] w z (vB r0) (L):=by
 unfold mG at H;refine ke func71 19 rfl λj=>ks<|kN h (#[Z O.aS,Z O.dc,Z O.bD,aW bl O.aq.length bO]) 99 λb1 w h=>bS<|G<|aL [U]<|kL h 3<|bS<|kL h 3<|qg H λc2 H=>ko [Z ((O.aq.length:Nat):Int),Z (wi (((O.aq.length:Nat):Int)-1))]<|kj 146 bO cE c2<|ko [pA (dW bl) (j6 bl+(wi (((O.aq.length:Nat):Int)-1)).toNat*5)]<|xl (Z (J O.aq (wi (((O.aq.length:Nat):Int)-1)).toNat).aE) (cE.cell c2 (h.dn 1) 0 rfl)<|?_;refine ko [Z (J O.aq (wi (((O.aq.length:Nat):Int)-1)).toNat).aE]<|G<|aL [Z (J O.aq (wi (((O.aq.length:Nat):Int)-1)).toNat).aE,vB ((J O.aq (wi (((O.aq.length:Nat):Int)-1)).toNat).aE==3),vB ((J O.aq (wi (((O.aq.length:Nat):Int)-1)).toNat).aE==3)]<|qI H (λc3 H=>?_) λc3 H=>?_
 ·refine bW (beq_iff_eq.mpr c3) [16,17]<|nv (beq_iff_eq.mpr c3) (vB true)<|bS<|cu<|?_;cases H;exact gR (h.se 1 [])
 refine cS (bN c3) [16,17] [Z (J O.aq (wi (((O.aq.length:Nat):Int)-1)).toNat).aE,vB ((J O.aq (wi (((O.aq.length:Nat):Int)-1)).toNat).aE==9)]<|ny (bN c3) (vB ((J O.aq (wi (((O.aq.length:Nat):Int)-1)).toNat).aE==9))<|ko [vB ((J O.aq (wi (((O.aq.length:Nat):Int)-1)).toNat).aE==9)]<|cu<|?_;cases H;exact gR (h.se 1 [])
def iU(K:Nat)(O:aC):Nat->Int->Option (Bool)
 | 0,_=>none
 | k1+1,g5=>(if g5<((O.aq.length:Nat):Int)then if bG g5 O.aq.length then eV (nn O (J O.aq g5.toNat)) (λr8=>(if r8=true then(iU K O k1 (wi (g5+1)))else some false))else none else eV (mG O) (λvy=>some vy))
def rO(K:Nat)(O:aC):Option (Bool):=
 eV (jR O) (λr2=>(if r2=true then(iU K O K 0)else some false))
theorem AD(H:rO K O=some r0)(h:jb z (L) w)(cE:bE L 5 cL bl O.aq) :
 nR 111 #[oQ #[Z O.aS,Z O.dc,Z O.bD,aW bl O.aq.length bO]] w z (vB r0) (L):=by
 unfold rO at H;refine ke func111 26 rfl λj=>ks<|kN h (#[Z O.aS,Z O.dc,Z O.bD,aW bl O.aq.length bO]) 99 λb1 w h=>bS<|G<|wq<|ks<|kM h<|gy H λr2 e3 H=>fD (uy (bl:=bl) (bO:=bO) (cE:=(bE.up 1 cE)) e3 h :) λw h=>ko [vB (!r2)]<|G<|DN H (λc4 H=>?_) λc4 H=>?_
 ·refine gw<|wq<|iq<|wb<|λ_ r=>dO (β:=Nat) id (λm a w=>∃g5:Int,(iU K O m g5)=some r0/\∃j,kI 26 (lk [(1,pA b1 0),(3,Z g5)] j) a/\Fit z (aB (qB b1 O bl bO::L)) w) K ⟨0,H,r.fj h⟩<|?_;clear h r H;rintro k1 a w ⟨g5,H,j,r,h⟩;cases k1 with
  | zero=>exact absurd H (by simp[iU])
  | succ k1 =>
   rw[iU]at H;refine qq r<|wq<|aL dm<|kL h 3<|ko [Z ((O.aq.length:Nat):Int),dx (g5<((O.aq.length:Nat):Int))]<|G<|eB H (λc6 H=>?_) λc6 H=>?_
   ·refine gw<|wq<|wb<|wq<|qg H λc7 H=>gy H λr8 e9 H=>nK [(b1,0,[Z O.aS,Z O.dc,Z O.bD,aW bl O.aq.length bO]),(b1,3,[aW bl O.aq.length bO]),(dW bl,j6 bl+g5.toNat*5,gK (J O.aq g5.toNat))] [1,4] 8 h (λh=>⟨(h.held 0 rfl),⟨h.cell 3 rfl,cz⟩,⟨cE.cell c7 (h.dn 1) 0 rfl,cE.cell c7 (h.dn 1) 1 rfl,cE.cell c7 (h.dn 1) 2 rfl,cE.cell c7 (h.dn 1) 3 rfl,cE.cell c7 (h.dn 1) 4 rfl,cz⟩,cz⟩) λw h hd =>nl hd 6 [(1,16,pA b1 3),(3,18,Z g5)]<|wD hd 0 5 0 rfl rfl<|fW hd 1 4 2 rfl<|oK hd 3 4 rfl (pA (dW bl) (j6 bl+g5.toNat*5)) (λw=>EU 146 bO rfl rfl cE c7)<|wD hd 2 2 5 rfl rfl<|lI 6 rfl<|fD (rX (bl:=bl) (bO:=bO) (cE:=(bE.up 1 cE)) e9 h :) λw h=>G<|mM<|iN 0 7 rfl (vB r8)<|nJ<|tn<|aL [U,vB (!r8)]<|G<|DN H (λod H=>?_) λod H=>?_
    ·refine wk<|bn<|tn<|wl<|ko [U,Z (wi (g5+1)),Z (wi (g5+1))]<|G<|?_;exact λ_ r=>⟨_,⟨(wi (g5+1)),H,r.fj h⟩,gU _⟩
    refine iq<|wr<|br<|tr<|tr<|br<|tr<|?_;cases H;exact gR (h.se 1 [])
   refine wx<|te<|te<|bh<|tn<|ks<|kM h<|gy H λvy DU H=>fD (vL (bl:=bl) (bO:=bO) (cE:=(bE.up 1 cE)) DU h :) λw h=>bS<|cu<|?_;cases H;exact gR (h.se 1 [])
 refine iq<|wr<|tr<|?_;cases H;exact gR (h.se 1 [])
def oZ(O:bZ)(Y:Int)(p2:Int):Option (Int):=
 (if O.aE=5 then(if O.A=Y then some 2 else(if O.aE=6 then(if p2=2 then some 4 else some p2)else some p2))else(if O.aE=6 then(if p2=2 then some 4 else some p2)else some p2))
theorem AE(H:oZ O Y p2=some r0)(h:jb z (L) w) :
 nR 166 #[iJ O,Z Y,Z p2] w z (Z r0) (L):=by
 unfold oZ at H;refine ke func166 24 rfl λj=>ks<|kN h (nc O) 146 λb1 w h=>bS<|G<|wq<|aL [U]<|kL h 0<|ko [vB (O.aE==5),vB (O.aE==5)]<|qI H (λc2 H=>?_) λc2 H=>?_
 ·refine cS (beq_iff_eq.mpr c2) [11] [pA b1 1]<|λ_ r=>ld (mT r (beq_iff_eq.mpr c2)) r (Z O.A) (h.cell 1 rfl)<|?_;refine cS (beq_iff_eq.mpr c2) [13,14] [Z Y,vB (O.A==Y)]<|nv (beq_iff_eq.mpr c2) (vB (O.A==Y))<|G<|eB H (λc3 H=>?_) λc3 H=>?_
  ·refine iq<|wr<|tr<|?_;cases H;exact gR (h.se 1 [])
  refine gw<|wq<|aL [U]<|kL h 0<|ko [vB (O.aE==6),vB (O.aE==6)]<|qI H (λc4 H=>?_) λc4 H=>?_
  ·refine cS (beq_iff_eq.mpr c4) [20,21] [Z p2,vB (p2==2)]<|nv (beq_iff_eq.mpr c4) (vB (p2==2))<|G<|eB H (λc5 H=>?_) λc5 H=>?_
   ·refine iq<|wr<|tr<|?_;cases H;exact gR (h.se 1 [])
   refine gw<|aL dm<|cu<|?_;cases H;exact gR (h.se 1 [])
  refine bW (bN c4) [20,21]<|ny (bN c4) (vB false)<|G<|λ_ r=>iO r (b:=false) rfl<|qq r<|gw<|aL dm<|cu<|?_;cases H;exact gR (h.se 1 [])
 refine bW (bN c2) [11,12,13,14]<|ny (bN c2) (vB false)<|G<|λ_ r=>iO r (b:=false) rfl<|qq r<|gw<|wq<|aL [U]<|kL h 0<|ko [vB (O.aE==6),vB (O.aE==6)]<|qI H (λc6 H=>?_) λc6 H=>?_
 ·refine cS (beq_iff_eq.mpr c6) [20,21] [Z p2,vB (p2==2)]<|nv (beq_iff_eq.mpr c6) (vB (p2==2))<|G<|eB H (λc7 H=>?_) λc7 H=>?_
  ·refine iq<|wr<|tr<|?_;cases H;exact gR (h.se 1 [])
  refine gw<|aL dm<|cu<|?_;cases H;exact gR (h.se 1 [])
 refine bW (bN c6) [20,21]<|ny (bN c6) (vB false)<|G<|λ_ r=>iO r (b:=false) rfl<|qq r<|gw<|aL dm<|cu<|?_;cases H;exact gR (h.se 1 [])
def pe(O:aC)(Y:Int):Option ((List Int)):=
 if bG Y O.aq.length then(if(J O.aq Y.toNat).aE=3 then some ([(J O.aq Y.toNat).A])else(if(J O.aq Y.toNat).aE=9 then some ([]:List Int)else(if(J O.aq Y.toNat).aE=4 then some ([wi (Y+1),(J O.aq Y.toNat).B])else some ([wi (Y+1)]))))else none
abbrev K8:Array Value:=#[Z 0,Z 0,Z 0,Z 0,Z 0]
theorem AF(H:pe O Y=some r0)(h:jb z (L) w)(cE:bE L 5 cL bl O.aq) :
 Calls Tryz.prog 167 #[oQ #[Z O.aS,Z O.dc,Z O.bD,aW bl O.aq.length bO],Z Y] w λe w=>∃y1 y2,e=.returned (aW y1 r0.length y2)/\Fit z (aB (xh y1 y2 r0::L)) w:=by
 unfold pe at H;refine ke func167 30 rfl λj=>ks<|kN h (#[Z O.aS,Z O.dc,Z O.bD,aW bl O.aq.length bO]) 99 λb1 w h=>bS<|G<|aL [U]<|kL h 3<|qg H λc2 H=>bS<|kj 146 bO cE c2<|xm (iJ (J O.aq Y.toNat)) (cs:=gK (J O.aq Y.toNat)) ⟨cE.cell c2 (h.dn 1) 0 rfl,cE.cell c2 (h.dn 1) 1 rfl,cE.cell c2 (h.dn 1) 2 rfl,cE.cell c2 (h.dn 1) 3 rfl,cE.cell c2 (h.dn 1) 4 rfl,cz⟩<|?_;refine kN h (K8) 146 λb3 w h=>kA h (wF b3 (J O.aq Y.toNat)) λw h=>G<|wq<|aL [U]<|kL h 0<|G<|wb<|aL [vB ((J O.aq Y.toNat).aE==3),vB ((J O.aq Y.toNat).aE==3)]<|G<|eB H (λc4 H=>?_) λc4 H=>?_
 ·refine aL [U]<|kL h 1<|kV h (#[Z (J O.aq Y.toNat).A]) 3 λb5 w h=>?_;replace h:=Fit.Bl (n:=1) (l:=[(J O.aq Y.toNat).A]) (by rfl) (by rfl) aO eF h;refine bS<|cu<|br<|tr<|λ_ r=>qD (aW (some ⟨b5,0,none⟩) 1 1) rfl r<|?_;have hn5:1=([(J O.aq Y.toNat).A]).length:=h.p7;replace h:=Fit.F2 hn5 (λq_=>rowOf 3 1 cQ (aW (some ⟨b5,0,none⟩) q_ 1) ([(J O.aq Y.toNat).A])) h;cases H;exact⟨(some ⟨b5,0,none⟩),1,(by first | rfl | simp only[hn5]),h.se 3 [0]⟩
 refine aL [vB ((J O.aq Y.toNat).aE==9),vB ((J O.aq Y.toNat).aE==9)]<|G<|eB H (λc7 H=>?_) λc7 H=>?_
 ·refine iq<|wr<|br<|tr<|λ_ r=>qD (aW none 0 0) rfl r<|?_;replace h:=h.fU (e:=3) (sz:=1) (enc:=cQ);cases H;exact⟨none,0,rfl,h.se 3 [0]⟩
 refine aL [vB ((J O.aq Y.toNat).aE==4),vB ((J O.aq Y.toNat).aE==4)]<|G<|eB H (λc8 H=>?_) λc8 H=>?_
 ·refine aL [U,Z (wi (Y+1)),U]<|kL h 2<|λ_ r=>Xs (wn rfl) r h (λb=>aW (some ⟨b,0,none⟩) 2 2) (#[Z (wi (Y+1)),Z (J O.aq Y.toNat).B]) 3 λb9 w _ h r=>qq r<|?_;replace h:=Fit.Bl (n:=2) (l:=[wi (Y+1),(J O.aq Y.toNat).B]) (by rfl) (by rfl) aO eF h;refine bS<|cu<|br<|tr<|λ_ r=>qD (aW (some ⟨b9,0,none⟩) 2 2) rfl r<|?_;have hn9:2=([wi (Y+1),(J O.aq Y.toNat).B]).length:=h.p7;replace h:=Fit.F2 hn9 (λq_=>rowOf 3 1 cQ (aW (some ⟨b9,0,none⟩) q_ 2) ([wi (Y+1),(J O.aq Y.toNat).B])) h;cases H;exact⟨(some ⟨b9,0,none⟩),2,(by first | rfl | simp only[hn9]),h.se 3 [0]⟩
 refine wk<|bn<|tn<|aL [U,Z (wi (Y+1))]<|kV h (#[Z (wi (Y+1))]) 3 λMY w h=>?_;replace h:=Fit.Bl (n:=1) (l:=[wi (Y+1)]) (by rfl) (by rfl) aO eF h;refine bS<|cu<|λ_ r=>qD (aW (some ⟨MY,0,none⟩) 1 1) rfl r<|?_;have aaN:1=([wi (Y+1)]).length:=h.p7;replace h:=Fit.F2 aaN (λq_=>rowOf 3 1 cQ (aW (some ⟨MY,0,none⟩) q_ 1) ([wi (Y+1)])) h;cases H;exact⟨(some ⟨MY,0,none⟩),1,(by first | rfl | simp only[aaN]),h.se 3 [0]⟩
def gI(K:Nat)(sk:Int)(tX:List Int):Nat->(List Int)->(List Int)->(List Int)->Int->Option ((List Int)×(List Int)×(List Int))
 | 0,_,_,_,_=>none
 | k2+1,G2,Oz,OA,rQ=>(if rQ<((tX.length:Nat):Int)then if bG rQ tX.length then if bG (J tX rQ.toNat) G2.length then(if(iI (J G2 (J tX rQ.toNat).toNat) sk)=0 then if(Oz.length+1)*8<=140737488355328 then if(OA.length+1)*8<=140737488355328 then(gI K sk tX k2 (G2.set (J tX rQ.toNat).toNat (wi ((J G2 (J tX rQ.toNat).toNat)+sk))) (Oz++[(J tX rQ.toNat)]) (OA++[sk]) (wi (rQ+1)))else none else none else(gI K sk tX k2 G2 Oz OA (wi (rQ+1))))else none else none else some (G2,Oz,OA))
def ic(K:Nat)(O:aC)(Y:Int):Nat->(List Int)->(List Int)->(List Int)->Int->Option ((List Int))
 | 0,_,_,_,_=>none
 | k1+1,l9,Gg,Gh,u9=>(if u9<((Gg.length:Nat):Int)then pL (if bG u9 Gg.length then if bG (J Gg u9.toNat) O.aq.length then if bG u9 Gh.length then eV (oZ (J O.aq (J Gg u9.toNat).toNat) Y (J Gh u9.toNat)) (λsk=>eV (pe O (J Gg u9.toNat)) (λtX=>(gI K sk tX K l9 Gg Gh 0)))else none else none else none) (λWr XH OB=>(ic K O Y k1 Wr XH OB (wi (u9+1))))else some l9)
def lW(K:Nat)(O:aC)(Y:Int):Option ((List Int)):=
 if 0<=((O.aq.length:Nat):Int)/\((O.aq.length:Nat):Int)*8<=140737488355328 then if bG (0:Int) (List.replicate O.aq.length (0:Int)).length then(ic K O Y K ((List.replicate O.aq.length (0:Int)).set 0 1) ([0]) ([1]) 0)else none else none
theorem wZ(H:lW K O Y=some r0)(h:jb z (L) w)(cE:bE L 5 cL bl O.aq) :
 Calls Tryz.prog 112 #[oQ #[Z O.aS,Z O.dc,Z O.bD,aW bl O.aq.length bO],Z Y] w λe w=>∃y1 y2,e=.returned (aW y1 r0.length y2)/\Fit z (aB (xh y1 y2 r0::L)) w:=by
 unfold lW at H;refine ke func112 91 rfl λj=>ks<|kN h (#[Z O.aS,Z O.dc,Z O.bD,aW bl O.aq.length bO]) 99 λb1 w h=>bS<|G<|aL [U]<|kL h 3<|qg H λc2 H=>ko [Z ((O.aq.length:Nat):Int)]<|λ_ r=>oX (i:=((O.aq.length:Nat):Int)) (bytes:=8) (zc:=#[Z 0]) (0:Int) (wn rfl) rfl rfl r rfl bp bp c2 aO (E:=3) bp bp rfl rfl h λji w _ h r=>qq r<|bS<|G<|ks<|kV h (#[Z 0]) 3 λb4 w h=>?_;replace h:=Fit.Bl (n:=1) (l:=[0]) (by rfl) (by rfl) aO eF h;refine bS<|G<|ks<|kV h (#[Z 1]) 3 λb5 w h=>?_;replace h:=Fit.Bl (n:=1) (l:=[1]) (by rfl) (by rfl) aO eF h;refine bS<|G<|ks<|qg H λc6 H=>bS<|kp (pA (dW ji) (0*1)) (yT (i:=(0:Int)) (k:=.i64) (E:=3) rfl bp bp bp bp (h.pick 2) c6)<|qh h.m2 λh=>λ_ r=>EN (wn rfl) r aO h 0 0 (Z 1) (J (List.replicate O.aq.length (0:Int)) 0) 1 (aT c6) λw h=>qq r<|G<|wq<|iq<|wb<|?_;have aaO:(List.replicate O.aq.length (0:Int)).length=((List.replicate O.aq.length (0:Int)).set 0 1).length:=h.p7;replace h:=Fit.F2 aaO (λq_=>rowOf 3 1 cQ (aW ji q_ O.aq.length) ((List.replicate O.aq.length (0:Int)).set 0 1)) h;intro _ r;replace r:=r.re 5 (mX (λq_=>Value.slice ji q_ O.aq.length) aaO);refine qh h.m2 λh=>?_;have aaP:1=([0]).length:=h.p7;replace h:=Fit.F2 aaP (λq_=>rowOf 3 1 cQ (aW (some ⟨b4,0,none⟩) q_ 1) ([0])) h;replace r:=r.re 6 (mX (λq_=>Value.slice (some ⟨b4,0,none⟩) q_ 1) aaP);refine qh h.m2 λh=>?_;have aaQ:1=([1]).length:=h.p7;replace h:=Fit.F2 aaQ (λq_=>rowOf 3 1 cQ (aW (some ⟨b5,0,none⟩) q_ 1) ([1])) h;replace r:=r.re 7 (mX (λq_=>Value.slice (some ⟨b5,0,none⟩) q_ 1) aaQ);refine dO (β:=Nat) id (λm a w=>∃kJ:fO,∃lq:Nat,∃Hl:fO,∃PZ:Nat,∃nh:fO,∃sV:Nat,∃l9:List Int,∃Gg:List Int,∃Gh:List Int,∃u9:Int,(ic K O Y m l9 Gg Gh u9)=some r0/\∃j,kI 91 (lk [(1,Z Y),(2,pA b1 0),(5,aW kJ l9.length lq),(6,aW Hl Gg.length PZ),(7,aW nh Gh.length sV),(8,Z u9)] j) a/\Fit z (aB (qB b1 O bl bO::xh kJ lq l9::xh Hl PZ Gg::xh nh sV Gh::L)) w) K ⟨ji,O.aq.length,(some ⟨b4,0,none⟩),1,(some ⟨b5,0,none⟩),1,((List.replicate O.aq.length (0:Int)).set 0 1),[0],[1],0,H,r.fj (h.se 4 [3,2,1,0])⟩<|?_;clear h r H;rintro k1 a w ⟨kJ,lq,Hl,PZ,nh,sV,l9,Gg,Gh,u9,H,j,r,h⟩;cases k1 with
 | zero=>exact absurd H (by simp[ic])
 | succ k1 =>
  rw[ic]at H;refine qq r<|wq<|aL [U,U,Z ((Gg.length:Nat):Int),dx (u9<((Gg.length:Nat):Int))]<|G<|eB H (λlO H=>?_) λlO H=>?_
  ·refine gw<|qd3 H λo29 H XI=>λ_ r=>cW (β:=Unit) (λ_ a w=>∃K9:fO,∃La:Nat,∃yA:fO,∃Bv:Nat,∃Wr:List Int,∃XH:List Int,∃OB:List Int,(Wr,XH,OB)=o29/\∃j,kI 91 (lk [(1,Z Y),(2,pA b1 0),(5,aW kJ l9.length lq),(6,aW K9 XH.length La),(7,aW yA OB.length Bv),(8,Z u9)] j) a/\Fit z (aB (qB b1 O bl bO::rowOf 3 1 cQ (aW kJ l9.length lq) Wr::xh K9 La XH::xh yA Bv OB::L)) w) ?_ ?_
   ·refine qq r<|wb<|wq<|qg H λtd H=>qg H λuT H=>nK [(b1,3,[aW bl O.aq.length bO]),(dW Hl,u9.toNat*1,[Z (J Gg u9.toNat)]),(dW bl,j6 bl+(J Gg u9.toNat).toNat*5,gK (J O.aq (J Gg u9.toNat).toNat))] [0,4,6] 10 h (λh=>⟨⟨h.cell 3 rfl,cz⟩,⟨(h.pick 2).bL aO (f:=0) (aT td) rfl,cz⟩,⟨cE.cell uT (h.dn 4) 0 rfl,cE.cell uT (h.dn 4) 1 rfl,cE.cell uT (h.dn 4) 2 rfl,cE.cell uT (h.dn 4) 3 rfl,cE.cell uT (h.dn 4) 4 rfl,cz⟩,cz⟩) λw h hd =>nl hd 7 [(0,27,pA b1 3),(2,29,aW Hl Gg.length PZ),(3,30,Z u9)]<|oK hd 6 4 rfl (mg Hl u9 1) (λw=>tH 3 rfl (h.pick 2) td)<|fW hd 0 5 1 rfl<|fW hd 1 4 5 rfl<|oK hd 3 6 rfl (pA (dW bl) (j6 bl+(J Gg u9.toNat).toNat*5)) (λw=>EU 146 bO rfl rfl cE uT)<|wD hd 2 2 7 rfl rfl<|lI 8 rfl<|kN h (K8) 146 λb32 w h=>G<|λ_ r=>xE<|lM 9 rfl<|qq r<|kA h (wF b32 (J O.aq (J Gg u9.toNat).toNat)) λw h=>G<|mM<|nJ<|tn<|wq<|qg H λBu H=>gy H λsk Jj H=>nK [(b32,0,gK (J O.aq (J Gg u9.toNat).toNat)),(dW nh,u9.toNat*1,[Z (J Gh u9.toNat)])] [4] 8 h (λh=>⟨(h.held 0 rfl),⟨(h.pick 4).bL aO (f:=0) (aT Bu) rfl,cz⟩,cz⟩) λw h hd =>nl hd 5 [(1,36,Z Y),(2,37,aW nh Gh.length sV),(3,38,Z u9)]<|oK hd 4 4 rfl (mg nh u9 1) (λw=>tH 3 rfl (h.pick 4) Bu)<|wD hd 0 3 0 rfl rfl<|fW hd 1 2 5 rfl<|lI 6 rfl<|fD (AE Jj h :) λw h=>G<|mM<|iN 0 7 rfl (Z sk)<|nJ<|tn<|wq<|gy H λtX P0 H=>nK [(b1,0,[Z O.aS,Z O.dc,Z O.bD,aW bl O.aq.length bO]),(dW Hl,u9.toNat*1,[Z (J Gg u9.toNat)])] [3] 7 h (λh=>⟨((h.pick 1).held 0 rfl),⟨(h.pick 3).bL aO (f:=0) (aT td) rfl,cz⟩,cz⟩) λw h hd =>nl hd 5 [(1,43,aW Hl Gg.length PZ),(2,44,Z u9)]<|oK hd 4 3 rfl (mg Hl u9 1) (λw=>tH 3 rfl (h.pick 3) td)<|wD hd 0 3 0 rfl rfl<|fW hd 1 2 4 rfl<|lI 5 rfl<|Wn (AF (bl:=bl) (bO:=bO) (cE:=(bE.up 5 cE)) P0 h :) λFs DV w h=>G<|mM<|iN 0 6 rfl (aW Fs tX.length DV)<|nJ<|tn<|iq<|wb<|λ_ r=>dO (β:=Nat) id (λm a w=>∃Sj:fO,∃Sk:Nat,∃Lb:fO,∃Lc:Nat,∃G2:List Int,∃Oz:List Int,∃OA:List Int,∃rQ:Int,(gI K sk tX m G2 Oz OA rQ)=some o29/\∃j,kI 91 (lk [(1,Z Y),(2,pA b1 0),(5,aW kJ l9.length lq),(6,aW Sj Oz.length Sk),(7,aW Lb OA.length Lc),(8,Z u9),(10,Z sk),(11,aW Fs tX.length DV),(12,Z rQ)] j) a/\Fit z (aB (qB b1 O bl bO::rowOf 3 1 cQ (aW kJ l9.length lq) G2::xh Sj Sk Oz::xh Lb Lc OA::xh Fs DV tX::L)) w) K ⟨Hl,PZ,nh,sV,l9,Gg,Gh,0,H,r.fj (h.se 6 [2,3,4,5,0])⟩<|?_;clear h r H;rintro k2 a w ⟨Sj,Sk,Lb,Lc,G2,Oz,OA,rQ,H,j,r,h⟩;cases k2 with
    | zero=>exact absurd H (by simp[gI])
    | succ k2 =>
     rw[gI]at H;refine qq r<|wq<|aL [U,U,Z ((tX.length:Nat):Int),dx (rQ<((tX.length:Nat):Int))]<|G<|eB H (λKc H=>?_) λKc H=>?_
     ·refine gw<|wq<|wb<|ks<|qg H λEV H=>ko lJ<|ki (h.pick 4) EV<|xl (Z (J tX rQ.toNat)) ((h.pick 4).bL aO (f:=0) (aT EV) rfl)<|?_;refine qg H λOC H=>ki (h.pick 1) OC<|xl (Z (J G2 (J tX rQ.toNat).toNat)) ((h.pick 1).bL aO (f:=0) (aT OC) rfl)<|?_;refine bS<|kp (Z (iI (J G2 (J tX rQ.toNat).toNat) sk)) (rand rfl bp bp)<|ko [vB ((iI (J G2 (J tX rQ.toNat).toNat) sk)==0)]<|G<|eB H (λc51 H=>?_) λc51 H=>?_
      ·refine wq<|nK [(dW Fs,rQ.toNat*1,[Z (J tX rQ.toNat)]),(dW Fs,rQ.toNat*1,[Z (J tX rQ.toNat)]),(dW kJ,(J tX rQ.toNat).toNat*1,[Z (J G2 (J tX rQ.toNat).toNat)])] [3,8,10,13] 16 h (λh=>⟨⟨(h.pick 4).bL aO (f:=0) (aT EV) rfl,cz⟩,⟨(h.pick 4).bL aO (f:=0) (aT EV) rfl,cz⟩,⟨(h.pick 1).bL aO (f:=0) (aT OC) rfl,cz⟩,cz⟩) λw h hd =>nl hd 13 [(0,64,aW kJ l9.length lq),(1,65,aW Fs tX.length DV),(2,66,Z rQ)]<|oK hd 12 3 rfl (mg Fs rQ 1) (λw=>tH 3 rfl (h.pick 4) EV)<|nl hd 9 [(5,69,aW kJ l9.length lq),(6,70,aW Fs tX.length DV),(7,71,Z rQ)]<|oK hd 8 8 rfl (mg Fs rQ 1) (λw=>tH 3 rfl (h.pick 4) EV)<|nl hd 7 [(12,76,Z sk)]<|fW hd 0 6 4 rfl<|fW hd 1 5 9 rfl<|oK hd 4 10 rfl (pA (dW kJ) ((J tX rQ.toNat).toNat*1)) (λw=>tH 3 rfl (h.pick 1) OC)<|fW hd 2 3 11 rfl<|nl hd 2 [(13,77,Z (wi ((J G2 (J tX rQ.toNat).toNat)+sk)))]<|oK hd 1 14 rfl (pA (dW kJ) ((J tX rQ.toNat).toNat*1)) (λw=>tH 3 rfl (h.pick 1) OC)<|λ_ r=>lM 15 rfl<|qh h.m1 λh=>EN (wn rfl) r aO h (J tX rQ.toNat).toNat 0 (Z (wi ((J G2 (J tX rQ.toNat).toNat)+sk))) (J G2 (J tX rQ.toNat).toNat) (wi ((J G2 (J tX rQ.toNat).toNat)+sk)) (aT OC) λw h=>qq r<|G<|mM<|nJ<|tn<|aL lJ<|ki (h.pick 4) EV<|xl (Z (J tX rQ.toNat)) ((h.pick 4).bL aO (f:=0) (aT EV) rfl)<|?_;refine kV h (#[Z (J tX rQ.toNat)]) 3 λb52 w h=>qh h.m3 λh=>qg H λXJ H=>λ_ r=>kQ (n0:=Oz.length) (c:=1) (bytes:=8) (wn rfl) rfl rfl r rfl bp bp aO (E:=3) (xs:=Oz) bp bp h (news:=[(J tX rQ.toNat)]) (m:=1) rfl ((h.pick 1).news rfl) XJ rfl λac6 ac7 w _ h r=>qq r<|bS<|G<|wl<|ko dm<|kV h (#[Z sk]) 3 λb56 w h=>qh h.m5 λh=>qg H λUQ H=>λ_ r=>kQ (n0:=OA.length) (c:=1) (bytes:=8) (wn rfl) rfl rfl r rfl bp bp aO (E:=3) (xs:=OA) bp bp h (news:=[sk]) (m:=1) rfl ((h.pick 1).news rfl) UQ rfl λHo Hq w _ h r=>qq r<|bS<|kl<|bn<|tn<|wl<|ko [U,Z (wi (rQ+1)),Z (wi (rQ+1))]<|G<|?_;exact λ_ r=>⟨_,⟨ac6,ac7,Ho,Hq,(G2.set (J tX rQ.toNat).toNat (wi ((J G2 (J tX rQ.toNat).toNat)+sk))),(Oz++[(J tX rQ.toNat)]),(OA++[sk]),(wi (rQ+1)),H,r.fj (h.se 7 [5,4,2,0,6])⟩,gU _⟩
      refine wk<|bn<|tn<|wl<|ko [U,Z (wi (rQ+1)),Z (wi (rQ+1))]<|G<|?_;exact λ_ r=>⟨_,⟨Sj,Sk,Lb,Lc,G2,Oz,OA,(wi (rQ+1)),H,r.fj h⟩,gU _⟩
     refine wx<|te<|te<|bh<|bn<|tn<|?_;exact λ_ r=>⟨(),Sj,Sk,Lb,Lc,G2,Oz,OA,gM H,r.fj (h.se 5 [0,1,2,3])⟩
   clear h r;rintro _ a w ⟨K9,La,yA,Bv,Wr,XH,OB,rfl,j,r,h⟩;replace H:=kk3 XI;refine qq r<|wl<|ko [U,Z (wi (u9+1)),Z (wi (u9+1))]<|G<|qh h.m1 λh=>?_;have aaR:l9.length=Wr.length:=h.p7;replace h:=Fit.F2 aaR (λq_=>rowOf 3 1 cQ (aW kJ q_ lq) Wr) h;intro _ r;replace r:=r.re 5 (mX (λq_=>Value.slice kJ q_ lq) aaR);exact⟨_,⟨kJ,lq,K9,La,yA,Bv,Wr,XH,OB,(wi (u9+1)),H,r.fj (h.se 4 [1,0,2,3])⟩,gU _⟩
  refine wx<|te<|te<|bh<|tn<|aL dm<|cu<|?_;cases H;exact ZB kJ lq (h.se 4 [1])
def kD(K:Nat)(O:aC):Nat->(List (List Int))->Int->Option ((List (List Int)))
 | 0,_,_=>none
 | k1+1,Ft,sJ=>(if sJ<(((List.replicate O.aq.length ([]:List Int)).length:Nat):Int)then if 0<=O.bD/\O.bD*8<=140737488355328 then if bG sJ Ft.length then(kD K O k1 (Ft.set sJ.toNat (List.replicate O.bD.toNat (0:Int))) (wi (sJ+1)))else none else none else some Ft)
def kE(K:Nat)(O:aC)(lR:Int)(Cp:List Int):Nat->(List (List Int))->Int->Option ((List (List Int)))
 | 0,_,_=>none
 | k3+1,EW,Bw=>(if Bw<(((List.replicate O.aq.length ([]:List Int)).length:Nat):Int)then if bG Bw EW.length then if bG Bw Cp.length then if bG lR (J EW Bw.toNat).length then(kE K O lR Cp k3 (EW.set Bw.toNat ((J EW Bw.toNat).set lR.toNat (J Cp Bw.toNat))) (wi (Bw+1)))else none else none else none else some EW)
def kF(K:Nat)(O:aC):Nat->(List (List Int))->Int->Option ((List (List Int)))
 | 0,_,_=>none
 | k2+1,yd,lR=>(if lR<O.bD then eV (eV (lW K O lR) (λCp=>(kE K O lR Cp K yd 0))) (λLd=>(kF K O k2 Ld (wi (lR+1))))else some yd)
def qc(K:Nat)(O:aC):Option ((List (List Int))):=
 eV (rO K O) (λr2=>(if r2=true then if 0<=((O.aq.length:Nat):Int)/\((O.aq.length:Nat):Int)*24<=140737488355328 then eV ((kD K O K (List.replicate O.aq.length ([]:List Int)) 0)) (λl7=>(kF K O K l7 0))else none else some ([]:List (List Int))))
theorem Bx(H:qc K O=some r0)(h:jb z (L) w)(cE:bE L 5 cL bl O.aq) :
 Calls Tryz.prog 72 #[oQ #[Z O.aS,Z O.dc,Z O.bD,aW bl O.aq.length bO]] w λe w=>∃y1 y2,e=.returned (aW y1 r0.length y2)/\Fit z (aB (Je y1 y2 r0::L)) w:=by
 unfold qc at H;refine ke func72 55 rfl λj=>ks<|kN h (#[Z O.aS,Z O.dc,Z O.bD,aW bl O.aq.length bO]) 99 λb1 w h=>bS<|G<|ks<|kM h<|gy H λr2 e3 H=>fD (AD (bl:=bl) (bO:=bO) (cE:=(bE.up 1 cE)) e3 h :) λw h=>bS<|G<|wq<|aL [U,vB (!r2)]<|G<|DN H (λc4 H=>?_) λc4 H=>?_
 ·refine gw<|aL [U]<|kL h 3<|qg H λc5 H=>ko [Z ((O.aq.length:Nat):Int)]<|λ_ r=>CP (own:=jG) (i:=((O.aq.length:Nat):Int)) (bytes:=24) (zc:=#[aW none 0 0]) ([]:List Int) (wn rfl) rfl rfl r rfl bp bp c5 rfl (by simp[Value.oneCell']) eF (E:=28) bp bp rfl (λh=>iC (x:=([]:List Int)) (tj:=none) (tu:=0) (h.fU)) h λDB w _ h r=>qq r<|bS<|G<|DM H λo9 H K7=>λ_ r=>cW (β:=Unit) (λ_ a w=>∃l7:List (List Int),l7=o9/\∃j,kI 55 (lk [(1,pA b1 0),(4,aW DB (List.replicate O.aq.length ([]:List Int)).length O.aq.length)] j) a/\Fit z (aB (qB b1 O bl bO::su 28 1 jG (aW DB (List.replicate O.aq.length ([]:List Int)).length O.aq.length) l7::L)) w) ?_ ?_
  ·refine qq r<|iq<|wb<|λ_ r=>dO (β:=Nat) id (λm a w=>∃Ft:List (List Int),∃sJ:Int,(kD K O m Ft sJ)=some o9/\∃j,kI 55 (lk [(1,pA b1 0),(4,aW DB (List.replicate O.aq.length ([]:List Int)).length O.aq.length),(5,Z sJ)] j) a/\Fit z (aB (qB b1 O bl bO::su 28 1 jG (aW DB (List.replicate O.aq.length ([]:List Int)).length O.aq.length) Ft::L)) w) K ⟨(List.replicate O.aq.length ([]:List Int)),0,H,r.fj (h.se 2 [1,0])⟩<|?_;clear h r H;rintro k1 a w ⟨Ft,sJ,H,j,r,h⟩;cases k1 with
   | zero=>exact absurd H (by simp[kD])
   | succ k1 =>
    rw[kD]at H;refine qq r<|wq<|aL [U,U,Z (((List.replicate O.aq.length ([]:List Int)).length:Nat):Int),dx (sJ<(((List.replicate O.aq.length ([]:List Int)).length:Nat):Int))]<|G<|eB H (λCE H=>?_) λCE H=>?_
    ·refine gw<|wq<|wb<|wl<|ko lJ<|kL h 2<|qg H λyz H=>λ_ r=>oX (i:=O.bD) (bytes:=8) (zc:=#[Z 0]) (0:Int) (wn rfl) rfl rfl r rfl bp bp yz aO (E:=3) bp bp rfl rfl h λP1 w _ h r=>qq r<|qg H λpU H=>kp (mg DB sJ 1) (Fo (k:=.i64) (E:=28) rfl bp bp bp bp (h.pick 2) pU)<|?_;obtain⟨aeY,h⟩:=h.m2.me (aT pU);obtain⟨aeZ,ae0,C1,h⟩:=ng (h.m1);subst C1;refine qh h.m1 λh=>λ_ r=>B3 (wn rfl) rfl r rfl bp bp (v:=aW P1 (List.replicate O.bD.toNat (0:Int)).length O.bD.toNat) rfl rfl bp bp h (i:=sJ.toNat) (f:=0) eF λw h=>qq r<|kl<|bn<|tn<|wl<|ko [U,Z (wi (sJ+1)),Z (wi (sJ+1))]<|G<|qh h.m2 λh=>?_;replace h:=iC (x:=(List.replicate O.bD.toNat (0:Int))) h;replace h:=(h.m1).yu;exact λ_ r=>⟨_,⟨(Ft.set sJ.toNat (List.replicate O.bD.toNat (0:Int))),(wi (sJ+1)),H,r.fj (h.se 3 [2,0])⟩,gU _⟩
    refine wx<|te<|te<|bh<|tn<|?_;exact λ_ r=>⟨(),Ft,gM H,r.fj h⟩
  clear h r;rintro _ a w ⟨l7,rfl,j,r,h⟩;replace H:=DJ K7;refine qq r<|wq<|iq<|wb<|λ_ r=>dO (β:=Nat) id (λm a w=>∃yd:List (List Int),∃lR:Int,(kF K O m yd lR)=some r0/\∃j,kI 55 (lk [(1,pA b1 0),(4,aW DB (List.replicate O.aq.length ([]:List Int)).length O.aq.length),(6,Z lR)] j) a/\Fit z (aB (qB b1 O bl bO::su 28 1 jG (aW DB (List.replicate O.aq.length ([]:List Int)).length O.aq.length) yd::L)) w) K ⟨l7,0,H,r.fj h⟩<|?_;clear h r H;rintro k2 a w ⟨yd,lR,H,j,r,h⟩;cases k2 with
  | zero=>exact absurd H (by simp[kF])
  | succ k2 =>
   rw[kF]at H;refine qq r<|wq<|aL dm<|kL h 2<|ko [dx (lR<O.bD)]<|G<|eB H (λC0 H=>?_) λC0 H=>?_
   ·refine gw<|DM H λo25 H XK=>λ_ r=>cW (β:=Unit) (λ_ a w=>∃Ld:List (List Int),Ld=o25/\∃j,kI 55 (lk [(1,pA b1 0),(4,aW DB (List.replicate O.aq.length ([]:List Int)).length O.aq.length),(6,Z lR)] j) a/\Fit z (aB (qB b1 O bl bO::su 28 1 jG (aW DB (List.replicate O.aq.length ([]:List Int)).length O.aq.length) Ld::L)) w) ?_ ?_
    ·refine qq r<|wb<|ks<|kM h<|gy H λCp P2 H=>bS<|Wn (wZ (bl:=bl) (bO:=bO) (cE:=(bE.up 2 cE)) P2 h :) λP3 DW w h=>bS<|G<|iq<|wb<|λ_ r=>dO (β:=Nat) id (λm a w=>∃EW:List (List Int),∃Bw:Int,(kE K O lR Cp m EW Bw)=some o25/\∃j,kI 55 (lk [(1,pA b1 0),(4,aW DB (List.replicate O.aq.length ([]:List Int)).length O.aq.length),(6,Z lR),(7,aW P3 Cp.length DW),(8,Z Bw)] j) a/\Fit z (aB (qB b1 O bl bO::su 28 1 jG (aW DB (List.replicate O.aq.length ([]:List Int)).length O.aq.length) EW::xh P3 DW Cp::L)) w) K ⟨yd,0,H,r.fj (h.se 3 [1,2,0])⟩<|?_;clear h r H;rintro k3 a w ⟨EW,Bw,H,j,r,h⟩;cases k3 with
     | zero=>exact absurd H (by simp[kE])
     | succ k3 =>
      rw[kE]at H;refine qq r<|wq<|aL [U,U,Z (((List.replicate O.aq.length ([]:List Int)).length:Nat):Int),dx (Bw<(((List.replicate O.aq.length ([]:List Int)).length:Nat):Int))]<|G<|eB H (λGf H=>?_) λGf H=>?_
      ·refine gw<|wq<|wb<|qg H λBu H=>?_;obtain⟨ae1,h⟩:=h.m1.me (aT Bu);obtain⟨Jk,Le,Si,h⟩:=ng (h.m1);subst Si;refine qg H λKd H=>qg H λCF H=>nK [(dW DB,Bw.toNat*1,[aW Jk (J EW Bw.toNat).length Le]),(dW P3,Bw.toNat*1,[Z (J Cp Bw.toNat)])] [2,7] 11 h (λh=>⟨⟨(h.pick 1).oP eF (f:=0) rfl,cz⟩,⟨(h.pick 3).bL aO (f:=0) (aT Kd) rfl,cz⟩,cz⟩) λw h hd =>nl hd 9 [(0,44,aW DB (List.replicate O.aq.length ([]:List Int)).length O.aq.length),(1,45,Z Bw)]<|oK hd 8 2 rfl (mg DB Bw 1) (λw=>vR (k:=.i64) (E:=28) rfl bp bp bp bp (h.pick 1) Bu)<|nl hd 5 [(4,48,Z lR),(5,49,aW P3 Cp.length DW),(6,50,Z Bw)]<|oK hd 4 7 rfl (mg P3 Bw 1) (λw=>tH 3 rfl (h.pick 3) Kd)<|fW hd 0 3 3 rfl<|fW hd 1 2 8 rfl<|oK hd 1 9 rfl (mg Jk lR 1) (λw=>tH 3 rfl h CF)<|λ_ r=>lM 10 rfl<|EN (wn rfl) r aO h lR.toNat 0 (Z (J Cp Bw.toNat)) (J (J EW Bw.toNat) lR.toNat) (J Cp Bw.toNat) (aT CF) λw h=>qq r<|G<|mM<|nJ<|bn<|tn<|wl<|ko [U,Z (wi (Bw+1)),Z (wi (Bw+1))]<|G<|?_;replace h:=h.Oj (λq_=>As 28 1 jG (aW DB (List.replicate O.aq.length ([]:List Int)).length O.aq.length) EW Bw.toNat [aW Jk q_ Le]);replace h:=iC (x:=((J EW Bw.toNat).set lR.toNat (J Cp Bw.toNat))) h;replace h:=(h.m1).yu;exact λ_ r=>⟨_,⟨(EW.set Bw.toNat ((J EW Bw.toNat).set lR.toNat (J Cp Bw.toNat))),(wi (Bw+1)),H,r.fj (h.se 3 [1,0,2])⟩,gU _⟩
      refine wx<|te<|te<|bh<|bn<|tn<|?_;exact λ_ r=>⟨(),EW,gM H,r.fj (h.se 3 [0,1])⟩
    clear h r;rintro _ a w ⟨Ld,rfl,j,r,h⟩;replace H:=DJ XK;refine qq r<|wl<|ko [U,Z (wi (lR+1)),Z (wi (lR+1))]<|G<|?_;exact λ_ r=>⟨_,⟨Ld,(wi (lR+1)),H,r.fj h⟩,gU _⟩
   refine wx<|te<|te<|bh<|tn<|aL dm<|cu<|λ_ r=>qD (aW DB (List.replicate O.aq.length ([]:List Int)).length O.aq.length) rfl r<|qh h.m1 λh=>?_;have Sl:(List.replicate O.aq.length ([]:List Int)).length=yd.length:=h.MO;replace h:=Fit.F2 Sl (λq_=>su 28 1 jG (aW DB q_ O.aq.length) yd) h;cases H;exact⟨DB,O.aq.length,(by first | rfl | simp only[Sl]),h.se 2 [0]⟩
 refine iq<|wr<|tr<|λ_ r=>qD (aW none 0 0) rfl r<|?_;replace h:=h.CM (e:=28) (sz:=1) (own:=jG);cases H;exact⟨none,0,rfl,h.se 2 [0]⟩
def gQ(K:Nat)(Y:List Int):Nat->Int->Option (Int)
 | 0,_=>none
 | k1+1,g9=>(if g9<((Y.length:Nat):Int)then if bG g9 Y.length then(if(iI (J Y g9.toNat) (2:Int))=0 then(gQ K Y k1 (wi (g9+1)))else some 56)else none else some 0)
def mC(K:Nat)(O:bZ)(Y:List Int):Option (Int):=
 (if O.aE=5 then if bG O.A Y.length then(if(iI (J Y O.A.toNat) (2:Int))=0 then some 0 else some 54)else none else(if O.aE=7 then if bG O.B Y.length then(if(iI (J Y O.B.toNat) (3:Int))=0 then some 0 else some 55)else none else(if O.aE=9 then(gQ K Y K 0)else some 0)))
theorem xI(H:mC K O Y=some r0)(h:jb z (L) w)(Ke:bE L 1 cQ Kf Y) :
 nR 73 #[iJ O,aW Kf Y.length Lf] w z (Z r0) (L):=by
 unfold mC at H;refine ke func73 40 rfl λj=>ks<|kN h (nc O) 146 λb1 w h=>bS<|G<|wq<|aL [U]<|kL h 0<|G<|wb<|aL [vB (O.aE==5),vB (O.aE==5)]<|G<|eB H (λc2 H=>?_) λc2 H=>?_
 ·refine aL dm<|kL h 1<|qg H λc3 H=>kj 3 Lf Ke c3<|xl (Z (J Y O.A.toNat)) (Ke.cell c3 (h.dn 1) 0 rfl)<|?_;refine kp (Z (iI (J Y O.A.toNat) (2:Int))) (rand rfl bp bp)<|ko [vB ((iI (J Y O.A.toNat) (2:Int)) != 0)]<|G<|qx H (λc4 H=>?_) λc4 H=>?_
  ·refine wk<|bn<|tn<|iq<|wr<|?_;cases H;exact gR (h.se 1 [])
  refine iq<|wr<|br<|tr<|?_;cases H;exact gR (h.se 1 [])
 refine aL [vB (O.aE==7),vB (O.aE==7)]<|G<|eB H (λc5 H=>?_) λc5 H=>?_
 ·refine aL dm<|kL h 2<|qg H λc6 H=>kj 3 Lf Ke c6<|xl (Z (J Y O.B.toNat)) (Ke.cell c6 (h.dn 1) 0 rfl)<|?_;refine kp (Z (iI (J Y O.B.toNat) (3:Int))) (rand rfl bp bp)<|ko [vB ((iI (J Y O.B.toNat) (3:Int)) != 0)]<|G<|qx H (λc7 H=>?_) λc7 H=>?_
  ·refine wk<|bn<|tn<|iq<|wr<|?_;cases H;exact gR (h.se 1 [])
  refine iq<|wr<|br<|tr<|?_;cases H;exact gR (h.se 1 [])
 refine aL [vB (O.aE==9),vB (O.aE==9)]<|G<|eB H (λc8 H=>?_) λc8 H=>?_
 ·refine iq<|wb<|λ_ r=>dO (β:=Nat) id (λm a w=>∃g9:Int,(gQ K Y m g9)=some r0/\∃j,kI 40 (lk [(1,aW Kf Y.length Lf),(5,Z g9)] j) a/\Fit z (aB (L)) w) K ⟨0,H,r.fj (h.se 1 [])⟩<|?_;clear h r H;rintro k1 a w ⟨g9,H,j,r,h⟩;cases k1 with
  | zero=>exact absurd H (by simp[gQ])
  | succ k1 =>
   rw[gQ]at H;refine qq r<|wq<|aL [U,U,Z ((Y.length:Nat):Int),dx (g9<((Y.length:Nat):Int))]<|G<|eB H (λod H=>?_) λod H=>?_
   ·refine gw<|wq<|wb<|ks<|qg H λuS H=>ko dm<|kj 3 Lf Ke uS<|xl (Z (J Y g9.toNat)) (Ke.cell uS (h.dn 0) 0 rfl)<|?_;refine kp (Z (iI (J Y g9.toNat) (2:Int))) (rand rfl bp bp)<|ko [vB ((iI (J Y g9.toNat) (2:Int)) != 0)]<|G<|qx H (λCE H=>?_) λCE H=>?_
    ·refine wk<|bn<|tn<|wl<|ko [U,Z (wi (g9+1)),Z (wi (g9+1))]<|G<|?_;exact λ_ r=>⟨_,⟨(wi (g9+1)),H,r.fj h⟩,gU _⟩
    refine iq<|wr<|br<|tr<|tr<|br<|br<|tr<|?_;cases H;exact gR h
   refine wx<|te<|te<|bh<|bn<|tn<|iq<|wr<|?_;cases H;exact gR h
 refine wk<|bn<|tn<|iq<|wr<|?_;cases H;exact gR (h.se 1 [])
def iV(K:Nat)(O:aJ):Nat->Int->Option ((Unit)⊕(eL))
 | 0,_=>none
 | k1+1,g9=>(if g9<((O.ah.length:Nat):Int)then if bG g9 O.ah.length then eV (jR (J O.ah g9.toNat)) (λwU=>(if wU=true then(iV K O k1 (wi (g9+1)))else some (.inr (⟨51,g9,0⟩:eL))))else none else some (.inl ()))
def iW(K:Nat)(O:aJ)(mA:Int):Nat->Int->Option ((Unit)⊕((Unit)⊕((Unit)⊕(eL))))
 | 0,_=>none
 | k3+1,C2=>(if C2<(((J O.ah mA.toNat).aq.length:Nat):Int)then if bG C2 (J O.ah mA.toNat).aq.length then eV (nn (J O.ah mA.toNat) (J (J O.ah mA.toNat).aq C2.toNat)) (λyB=>(if yB=true then eV (oe O (J O.ah mA.toNat) (J (J O.ah mA.toNat).aq C2.toNat)) (λyX=>(if yX=true then(iW K O mA k3 (wi (C2+1)))else some (.inr (.inr (.inr (⟨52,mA,C2⟩:eL))))))else some (.inr (.inr (.inr (⟨52,mA,C2⟩:eL))))))else none else some (.inl ()))
def iX(K:Nat)(O:aJ):Nat->Int->Option ((Unit)⊕(eL))
 | 0,_=>none
 | k2+1,mA=>(if mA<((O.ah.length:Nat):Int)then xF (if bG mA O.ah.length then xF ((iW K O mA K 0)) (eV (mG (J O.ah mA.toNat)) (λsk=>(if sk=true then some (.inl ())else some (.inr (.inr (⟨53,mA,wi ((((J O.ah mA.toNat).aq.length:Nat):Int)-1)⟩:eL))))))else none) ((iX K O k2 (wi (mA+1))))else some (.inl ()))
def iY(K:Nat)(O:aJ)(nL:Int)(Lh:List (List Int)):Nat->Int->Option ((Unit)⊕(eL))
 | 0,_=>none
 | k5+1,rQ=>(if rQ<(((J O.ah nL.toNat).aq.length:Nat):Int)then if bG rQ (J O.ah nL.toNat).aq.length then if bG rQ Lh.length then eV (mC K (J (J O.ah nL.toNat).aq rQ.toNat) (J Lh rQ.toNat)) (λLi=>(if Li=0 then(iY K O nL Lh k5 (wi (rQ+1)))else some (.inr (⟨Li,nL,rQ⟩:eL))))else none else none else some (.inl ()))
def jS(K:Nat)(O:aJ):Nat->Int->Option (eL)
 | 0,_=>none
 | k4+1,nL=>(if nL<((O.ah.length:Nat):Int)then xF (if bG nL O.ah.length then eV (qc K (J O.ah nL.toNat)) (λLh=>(iY K O nL Lh K 0))else none) ((jS K O k4 (wi (nL+1))))else some (⟨0,0,0⟩:eL))
def pn(K:Nat)(O:aJ):Option (eL):=
 xF ((if((O.ah.length:Nat):Int)<1 then some (.inr (⟨50,0,0⟩:eL))else(if((O.ah.length:Nat):Int)>32 then some (.inr (⟨50,0,0⟩:eL))else some (.inl ())))) (xF ((iV K O K 0)) (xF ((iX K O K 0)) ((jS K O K 0))))
abbrev wc:List Value:=[U,U,U,U]
theorem AG(H:pn K O=some r0)(h:jb z (L) w)(aV:Bt L bu aI O.ah) :
 nR 49 #[oQ #[aW bu O.ah.length bV]] w z (Ay r0) (L):=by
 unfold pn at H;refine ke func49 131 rfl λj=>ks<|kN h (#[aW bu O.ah.length bV]) 24 λb1 w h=>kN h (#[Z 0,Z 0,Z 0]) 95 λb2 w h=>G<|?_;obtain⟨o4,H,MZ⟩:=Dx H;refine λ_ r=>cW (β:=Unit) (λ_ a w=>.inl ()=o4/\∃j,kI 131 (lk [(1,pA b1 0),(2,pA b2 0)] j) a/\Fit z (aB (gG b1 #[aW bu O.ah.length bV] 24::gG b2 #[Z 0,Z 0,Z 0] 95::L)) w) ?_ ?_
 ·refine qq r<|aL [U]<|kL (h.pick 1) 0<|ko [Z ((O.ah.length:Nat):Int),dx (((O.ah.length:Nat):Int)<1),dx (((O.ah.length:Nat):Int)<1)]<|qI H (λc5 H=>?_) λc5 H=>?_
  ·refine bW (dT c5) [19,20,21,22]<|nv (dT c5) (vB true)<|G<|λ_ r=>fV r (b:=true) rfl<|qq r<|aL [U]<|kA h (gG b2 #[Z 50,Z 0,Z 0] 95) λw h=>cu<|tr<|kC h<|?_;replace H:=uD H MZ;cases H;exact⟨rfl,h.se 2 []⟩
  refine cS (dF c5) [19] [pA b1 0]<|tc (dF c5) (h.pick 1) 0<|cS (dF c5) [21,22] [Z ((O.ah.length:Nat):Int),dx (((O.ah.length:Nat):Int)>32)]<|ny (dF c5) (dx (((O.ah.length:Nat):Int)>32))<|G<|eB H (λc6 H=>?_) λc6 H=>?_
  ·refine aL [U]<|kA h (gG b2 #[Z 50,Z 0,Z 0] 95) λw h=>cu<|tr<|kC h<|?_;replace H:=uD H MZ;cases H;exact⟨rfl,h.se 2 []⟩
  refine gw<|?_;exact λ_ r=>⟨(),gM H,r.fj (h.se 2 [1,0])⟩
 clear h r;rintro _ a w ⟨rfl,j,r,h⟩;replace H:=Dy MZ;obtain⟨o8,H,Lj⟩:=Dx H;refine cW (β:=Unit) (λ_ a w=>.inl ()=o8/\∃j,kI 131 (lk [(1,pA b1 0),(2,pA b2 0)] j) a/\Fit z (aB (gG b1 #[aW bu O.ah.length bV] 24::gG b2 #[Z 0,Z 0,Z 0] 95::L)) w) ?_ ?_
 ·refine qq r<|iq<|wb<|λ_ r=>dO (β:=Nat) id (λm a w=>∃g9:Int,(iV K O m g9)=some o8/\∃j,kI 131 (lk [(1,pA b1 0),(2,pA b2 0),(3,Z g9)] j) a/\Fit z (aB (gG b1 #[aW bu O.ah.length bV] 24::gG b2 #[Z 0,Z 0,Z 0] 95::L)) w) K ⟨0,H,r.fj h⟩<|?_;clear h r H;rintro k1 a w ⟨g9,H,j,r,h⟩;cases k1 with
  | zero=>exact absurd H (by simp[iV])
  | succ k1 =>
   rw[iV]at H;refine qq r<|wq<|aL dm<|kL h 0<|ko [Z ((O.ah.length:Nat):Int),dx (g9<((O.ah.length:Nat):Int))]<|G<|eB H (λod H=>?_) λod H=>?_
   ·refine gw<|wq<|wb<|aL [U]<|kL h 0<|qg H λuS H=>bS<|kp (pA (dW bu) (j6 bu+g9.toNat*4)) (DR 99 bV rfl rfl aV uS)<|xm (oQ #[Z (J O.ah g9.toNat).aS,Z (J O.ah g9.toNat).dc,Z (J O.ah g9.toNat).bD,aW ((aI g9.toNat).1) (J O.ah g9.toNat).aq.length ((aI g9.toNat).2)]) (cs:=[Z (J O.ah g9.toNat).aS,Z (J O.ah g9.toNat).dc,Z (J O.ah g9.toNat).bD,aW ((aI g9.toNat).1) (J O.ah g9.toNat).aq.length ((aI g9.toNat).2)]) ⟨aV.cell uS (h.dn 2) 0 rfl,aV.cell uS (h.dn 2) 1 rfl,aV.cell uS (h.dn 2) 2 rfl,aV.cell uS (h.dn 2) 3 rfl,cz⟩<|?_;refine gy H λwU XL H=>fD (uy (bl:=((aI g9.toNat).1)) (bO:=((aI g9.toNat).2)) (cE:=(bE.up 2 (aV.u5 uS))) XL h :) λw h=>bS<|G<|aL [U,vB (!wU)]<|G<|DN H (λwX H=>?_) λwX H=>?_
    ·refine wk<|bn<|tn<|wl<|ko [U,Z (wi (g9+1)),Z (wi (g9+1))]<|G<|?_;exact λ_ r=>⟨_,⟨(wi (g9+1)),H,r.fj h⟩,gU _⟩
    refine aL dm<|qh h.m1 λh=>kA h (gG b2 #[Z 51,Z g9,Z 0] 95) λw h=>cu<|br<|tr<|tr<|br<|tr<|kC h<|?_;replace H:=uD H Lj;cases H;exact⟨rfl,h.se 2 []⟩
   refine wx<|te<|te<|bh<|tn<|?_;exact λ_ r=>⟨(),gM H,r.fj h⟩
 clear h r;rintro _ a w ⟨rfl,j,r,h⟩;replace H:=Dy Lj;obtain⟨o16,H,UR⟩:=Dx H;refine cW (β:=Unit) (λ_ a w=>.inl ()=o16/\∃j,kI 131 (lk [(1,pA b1 0),(2,pA b2 0)] j) a/\Fit z (aB (gG b1 #[aW bu O.ah.length bV] 24::gG b2 #[Z 0,Z 0,Z 0] 95::L)) w) ?_ ?_
 ·refine qq r<|iq<|wb<|λ_ r=>dO (β:=Nat) id (λm a w=>∃mA:Int,(iX K O m mA)=some o16/\∃j,kI 131 (lk [(1,pA b1 0),(2,pA b2 0),(5,Z mA)] j) a/\Fit z (aB (gG b1 #[aW bu O.ah.length bV] 24::gG b2 #[Z 0,Z 0,Z 0] 95::L)) w) K ⟨0,H,r.fj h⟩<|?_;clear h r H;rintro k2 a w ⟨mA,H,j,r,h⟩;cases k2 with
  | zero=>exact absurd H (by simp[iX])
  | succ k2 =>
   rw[iX]at H;refine qq r<|wq<|aL dm<|kL h 0<|ko [Z ((O.ah.length:Nat):Int),dx (mA<((O.ah.length:Nat):Int))]<|G<|eB H (λHr H=>?_) λHr H=>?_
   ·refine gw<|?_;obtain⟨o20,H,US⟩:=Dx H;refine λ_ r=>cW (β:=Unit) (λ_ a w=>.inl ()=o20/\∃j,kI 131 (lk [(1,pA b1 0),(2,pA b2 0),(5,Z mA)] j) a/\Fit z (aB (gG b1 #[aW bu O.ah.length bV] 24::gG b2 #[Z 0,Z 0,Z 0] 95::L)) w) ?_ ?_
    ·refine qq r<|wb<|aL [U]<|kL h 0<|qg H λsv H=>bS<|kp (pA (dW bu) (j6 bu+mA.toNat*4)) (DR 99 bV rfl rfl aV sv)<|xm (oQ #[Z (J O.ah mA.toNat).aS,Z (J O.ah mA.toNat).dc,Z (J O.ah mA.toNat).bD,aW ((aI mA.toNat).1) (J O.ah mA.toNat).aq.length ((aI mA.toNat).2)]) (cs:=[Z (J O.ah mA.toNat).aS,Z (J O.ah mA.toNat).dc,Z (J O.ah mA.toNat).bD,aW ((aI mA.toNat).1) (J O.ah mA.toNat).aq.length ((aI mA.toNat).2)]) ⟨aV.cell sv (h.dn 2) 0 rfl,aV.cell sv (h.dn 2) 1 rfl,aV.cell sv (h.dn 2) 2 rfl,aV.cell sv (h.dn 2) 3 rfl,cz⟩<|?_;refine kN h (#[Z 0,Z 0,Z 0,aW none 0 0]) 99 λxJ w h=>kA h (qB xJ (J O.ah mA.toNat) ((aI mA.toNat).1) ((aI mA.toNat).2)) λw h=>G<|?_;obtain⟨o24,H,M0⟩:=Dx H;refine λ_ r=>cW (β:=Unit) (λ_ a w=>.inl ()=o24/\∃j,kI 131 (lk [(1,pA b1 0),(2,pA b2 0),(5,Z mA),(6,pA xJ 0)] j) a/\Fit z (aB (gG b1 #[aW bu O.ah.length bV] 24::gG b2 #[Z 0,Z 0,Z 0] 95::qB xJ (J O.ah mA.toNat) ((aI mA.toNat).1) ((aI mA.toNat).2)::L)) w) ?_ ?_
     ·refine qq r<|iq<|wb<|λ_ r=>dO (β:=Nat) id (λm a w=>∃C2:Int,(iW K O mA m C2)=some o24/\∃j,kI 131 (lk [(1,pA b1 0),(2,pA b2 0),(5,Z mA),(6,pA xJ 0),(7,Z C2)] j) a/\Fit z (aB (gG b1 #[aW bu O.ah.length bV] 24::gG b2 #[Z 0,Z 0,Z 0] 95::qB xJ (J O.ah mA.toNat) ((aI mA.toNat).1) ((aI mA.toNat).2)::L)) w) K ⟨0,H,r.fj (h.se 3 [1,2,0])⟩<|?_;clear h r H;rintro k3 a w ⟨C2,H,j,r,h⟩;cases k3 with
      | zero=>exact absurd H (by simp[iW])
      | succ k3 =>
       rw[iW]at H;refine qq r<|wq<|aL dm<|kL (h.pick 2) 3<|ko [Z (((J O.ah mA.toNat).aq.length:Nat):Int),dx (C2<(((J O.ah mA.toNat).aq.length:Nat):Int))]<|G<|eB H (λBp H=>?_) λBp H=>?_
       ·refine gw<|wq<|wb<|wq<|qg H λrK H=>gy H λyB T7 H=>qI H (λtd H=>?_) λtd H=>?_
        ·refine gy H λyX M1 H=>nK [(xJ,0,[Z (J O.ah mA.toNat).aS,Z (J O.ah mA.toNat).dc,Z (J O.ah mA.toNat).bD,aW ((aI mA.toNat).1) (J O.ah mA.toNat).aq.length ((aI mA.toNat).2)]),(xJ,3,[aW ((aI mA.toNat).1) (J O.ah mA.toNat).aq.length ((aI mA.toNat).2)]),(dW ((aI mA.toNat).1),j6 ((aI mA.toNat).1)+C2.toNat*5,gK (J (J O.ah mA.toNat).aq C2.toNat)),(b1,0,[aW bu O.ah.length bV]),(xJ,0,[Z (J O.ah mA.toNat).aS,Z (J O.ah mA.toNat).dc,Z (J O.ah mA.toNat).bD,aW ((aI mA.toNat).1) (J O.ah mA.toNat).aq.length ((aI mA.toNat).2)]),(xJ,3,[aW ((aI mA.toNat).1) (J O.ah mA.toNat).aq.length ((aI mA.toNat).2)]),(dW ((aI mA.toNat).1),j6 ((aI mA.toNat).1)+C2.toNat*5,gK (J (J O.ah mA.toNat).aq C2.toNat))] [1,4,6,7,11,14] 19 h (λh=>⟨((h.pick 2).held 0 rfl),⟨(h.pick 2).cell 3 rfl,cz⟩,⟨(aV.u5 sv).cell rK (h.dn 3) 0 rfl,(aV.u5 sv).cell rK (h.dn 3) 1 rfl,(aV.u5 sv).cell rK (h.dn 3) 2 rfl,(aV.u5 sv).cell rK (h.dn 3) 3 rfl,(aV.u5 sv).cell rK (h.dn 3) 4 rfl,cz⟩,⟨h.cell 0 rfl,cz⟩,((h.pick 2).held 0 rfl),⟨(h.pick 2).cell 3 rfl,cz⟩,⟨(aV.u5 sv).cell rK (h.dn 3) 0 rfl,(aV.u5 sv).cell rK (h.dn 3) 1 rfl,(aV.u5 sv).cell rK (h.dn 3) 2 rfl,(aV.u5 sv).cell rK (h.dn 3) 3 rfl,(aV.u5 sv).cell rK (h.dn 3) 4 rfl,cz⟩,cz⟩) λw h hd =>nl hd 17 [(1,62,pA xJ 3),(3,64,Z C2)]<|wD hd 0 16 0 rfl rfl<|fW hd 1 15 2 rfl<|oK hd 14 4 rfl (pA (dW ((aI mA.toNat).1)) (j6 ((aI mA.toNat).1)+C2.toNat*5)) (λw=>EU 146 ((aI mA.toNat).2) rfl rfl (aV.u5 sv) rK)<|wD hd 2 13 5 rfl rfl<|lI 6 rfl<|fD (rX (bl:=((aI mA.toNat).1)) (bO:=((aI mA.toNat).2)) (cE:=(bE.up 3 (aV.u5 sv))) T7 h :) λw h=>G<|uI ⟨((h.pick 2).held 0 rfl),⟨(h.pick 2).cell 3 rfl,cz⟩,⟨(aV.u5 sv).cell rK (h.dn 3) 0 rfl,(aV.u5 sv).cell rK (h.dn 3) 1 rfl,(aV.u5 sv).cell rK (h.dn 3) 2 rfl,(aV.u5 sv).cell rK (h.dn 3) 3 rfl,(aV.u5 sv).cell rK (h.dn 3) 4 rfl,cz⟩,⟨h.cell 0 rfl,cz⟩,((h.pick 2).held 0 rfl),⟨(h.pick 2).cell 3 rfl,cz⟩,⟨(aV.u5 sv).cell rK (h.dn 3) 0 rfl,(aV.u5 sv).cell rK (h.dn 3) 1 rfl,(aV.u5 sv).cell rK (h.dn 3) 2 rfl,(aV.u5 sv).cell rK (h.dn 3) 3 rfl,(aV.u5 sv).cell rK (h.dn 3) 4 rfl,cz⟩,cz⟩ λhd =>mU hd 10 61 [([7,8],vB (!yB))]<|λ_ r=>DA hd 9 11 rfl (mT r (nT td)) r (pA xJ 3)<|?_;refine λ_ r=>DA hd 8 13 rfl (mT r (nT td)) r (Z C2)<|?_;refine λ_ r=>elm hd 3 7 9 r (mT r (nT td)) rfl rfl<|?_;refine λ_ r=>elm hd 4 6 10 r (mT r (nT td)) rfl rfl<|?_;refine λ_ r=>Xt hd 5 5 12 r (mT r (nT td)) rfl rfl<|?_;refine λ_ r=>DA hd 4 14 rfl (mT r (nT td)) r (pA (dW ((aI mA.toNat).1)) (j6 ((aI mA.toNat).1)+C2.toNat*5)) (hrun:=λw=>EU 146 ((aI mA.toNat).2) rfl rfl (aV.u5 sv) rK)<|?_;refine λ_ r=>elm hd 6 3 15 r (mT r (nT td)) rfl rfl<|?_
         refine lI 16 rfl<|Zz (nT td) (zU (bu:=bu) (bV:=bV) (aV:=(yc.up 3 aV)) (de:=((aI mA.toNat).1)) (di:=((aI mA.toNat).2)) (eN:=(bE.up 3 (aV.u5 sv))) (aI:=aI) M1 h :) λw h=>G<|λ_ r=>xE<|evs 1 17 rfl (mT r (nT td)) r (vB (!yX))<|?_;refine λ_ r=>evs 0 18 rfl (wn rfl) r (vB (!yX)) (hrun:=λw=>I1 (b:=(!yB)) rfl bp (nT td) bp)<|?_;refine nJ<|tn<|DN H (λBu H=>?_) λBu H=>?_
         ·refine wk<|bn<|tn<|wl<|ko [U,Z (wi (C2+1)),Z (wi (C2+1))]<|G<|?_;exact λ_ r=>⟨_,⟨(wi (C2+1)),H,r.fj h⟩,gU _⟩
         refine aL lJ<|qh h.m1 λh=>kA h (gG b2 #[Z 52,Z mA,Z C2] 95) λw h=>cu<|br<|tr<|tr<|br<|tr<|br<|tr<|tr<|br<|tr<|kC h<|?_;replace H:=uD H M0;replace H:=uD H US;replace H:=uD H UR;cases H;exact⟨rfl,h.se 3 []⟩
        refine nK [(xJ,0,[Z (J O.ah mA.toNat).aS,Z (J O.ah mA.toNat).dc,Z (J O.ah mA.toNat).bD,aW ((aI mA.toNat).1) (J O.ah mA.toNat).aq.length ((aI mA.toNat).2)]),(xJ,3,[aW ((aI mA.toNat).1) (J O.ah mA.toNat).aq.length ((aI mA.toNat).2)]),(dW ((aI mA.toNat).1),j6 ((aI mA.toNat).1)+C2.toNat*5,gK (J (J O.ah mA.toNat).aq C2.toNat))] [1,4] 19 h (λh=>⟨((h.pick 2).held 0 rfl),⟨(h.pick 2).cell 3 rfl,cz⟩,⟨(aV.u5 sv).cell rK (h.dn 3) 0 rfl,(aV.u5 sv).cell rK (h.dn 3) 1 rfl,(aV.u5 sv).cell rK (h.dn 3) 2 rfl,(aV.u5 sv).cell rK (h.dn 3) 3 rfl,(aV.u5 sv).cell rK (h.dn 3) 4 rfl,cz⟩,cz⟩) λw h hd =>nl hd 17 [(1,62,pA xJ 3),(3,64,Z C2)]<|wD hd 0 16 0 rfl rfl<|fW hd 1 15 2 rfl<|oK hd 14 4 rfl (pA (dW ((aI mA.toNat).1)) (j6 ((aI mA.toNat).1)+C2.toNat*5)) (λw=>EU 146 ((aI mA.toNat).2) rfl rfl (aV.u5 sv) rK)<|wD hd 2 13 5 rfl rfl<|lI 6 rfl<|fD (rX (bl:=((aI mA.toNat).1)) (bO:=((aI mA.toNat).2)) (cE:=(bE.up 3 (aV.u5 sv))) T7 h :) λw h=>G<|mM<|iN 11 7 rfl (vB (!yB))<|iN 10 8 rfl (vB (!yB))<|λ_ r=>Wh 9 11 rfl (mT r (nF td)) r<|?_;refine λ_ r=>Wh 8 13 rfl (mT r (nF td)) r<|?_;refine λ_ r=>Wh 7 9 rfl (mT r (nF td)) r<|?_;refine λ_ r=>Wh 6 10 rfl (mT r (nF td)) r<|?_;refine λ_ r=>Wh 5 12 rfl (mT r (nF td)) r<|?_;refine λ_ r=>Wh 4 14 rfl (mT r (nF td)) r<|?_;refine λ_ r=>Wh 3 15 rfl (mT r (nF td)) r<|?_;refine λ_ r=>lM 16 rfl<|acU (mT r (nF td)) r<|?_;refine G<|λ_ r=>xE<|Wh 1 17 rfl (mT r (nF td)) r<|?_;refine λ_ r=>evs 0 18 rfl (wn rfl) r (vB true) (hrun:=λw=>G7 (b:=(!yB)) rfl bp (nF td) bp)<|?_;refine nJ<|tn<|λ_ r=>fV r (b:=true) rfl<|qq r<|aL lJ<|qh h.m1 λh=>kA h (gG b2 #[Z 52,Z mA,Z C2] 95) λw h=>cu<|br<|tr<|tr<|br<|tr<|br<|tr<|tr<|br<|tr<|kC h<|?_;replace H:=uD H M0;replace H:=uD H US;replace H:=uD H UR;cases H;exact⟨rfl,h.se 3 []⟩
       refine wx<|te<|te<|bh<|tn<|?_;exact λ_ r=>⟨(),gM H,r.fj h⟩
     clear h r;rintro _ a w ⟨rfl,j,r,h⟩;replace H:=Dy M0;refine qq r<|ks<|kM (h.pick 2)<|gy H λsk Jj H=>fD (vL (bl:=((aI mA.toNat).1)) (bO:=((aI mA.toNat).2)) (cE:=(bE.up 3 (aV.u5 sv))) Jj h :) λw h=>bS<|G<|aL [U,vB (!sk)]<|G<|DN H (λKg H=>?_) λKg H=>?_
     ·refine wk<|bn<|tn<|?_;exact λ_ r=>⟨(),gM H,r.fj (h.se 3 [0,1])⟩
     refine aL dm<|kL (h.pick 2) 3<|ko [Z (((J O.ah mA.toNat).aq.length:Nat):Int),Z (wi ((((J O.ah mA.toNat).aq.length:Nat):Int)-1)),oQ #[Z 53,Z mA,Z (wi ((((J O.ah mA.toNat).aq.length:Nat):Int)-1))]]<|qh h.m1 λh=>kA h (gG b2 #[Z 53,Z mA,Z (wi ((((J O.ah mA.toNat).aq.length:Nat):Int)-1))] 95) λw h=>cu<|br<|tr<|tr<|br<|tr<|kC h<|?_;replace H:=uD H US;replace H:=uD H UR;cases H;exact⟨rfl,h.se 3 []⟩
    clear h r;rintro _ a w ⟨rfl,j,r,h⟩;replace H:=Dy US;refine qq r<|wl<|ko [U,Z (wi (mA+1)),Z (wi (mA+1))]<|G<|?_;exact λ_ r=>⟨_,⟨(wi (mA+1)),H,r.fj h⟩,gU _⟩
   refine wx<|te<|te<|bh<|tn<|?_;exact λ_ r=>⟨(),gM H,r.fj h⟩
 clear h r;rintro _ a w ⟨rfl,j,r,h⟩;replace H:=Dy UR;refine qq r<|wq<|iq<|wb<|λ_ r=>dO (β:=Nat) id (λm a w=>∃nL:Int,(jS K O m nL)=some r0/\∃j,kI 131 (lk [(1,pA b1 0),(2,pA b2 0),(9,Z nL)] j) a/\Fit z (aB (gG b1 #[aW bu O.ah.length bV] 24::gG b2 #[Z 0,Z 0,Z 0] 95::L)) w) K ⟨0,H,r.fj h⟩<|?_;clear h r H;rintro k4 a w ⟨nL,H,j,r,h⟩;cases k4 with
 | zero=>exact absurd H (by simp[jS])
 | succ k4 =>
  rw[jS]at H;refine qq r<|wq<|aL dm<|kL h 0<|ko [Z ((O.ah.length:Nat):Int),dx (nL<((O.ah.length:Nat):Int))]<|G<|eB H (λKd H=>?_) λKd H=>?_
  ·refine gw<|?_;obtain⟨o40,H,aaS⟩:=Dx H;refine λ_ r=>cW (β:=Unit) (λ_ a w=>.inl ()=o40/\∃j,kI 131 (lk [(1,pA b1 0),(2,pA b2 0),(9,Z nL)] j) a/\Fit z (aB (gG b1 #[aW bu O.ah.length bV] 24::gG b2 #[Z 0,Z 0,Z 0] 95::L)) w) ?_ ?_
   ·refine qq r<|wb<|aL [U]<|kL h 0<|qg H λxK H=>bS<|kp (pA (dW bu) (j6 bu+nL.toNat*4)) (DR 99 bV rfl rfl aV xK)<|xm (oQ #[Z (J O.ah nL.toNat).aS,Z (J O.ah nL.toNat).dc,Z (J O.ah nL.toNat).bD,aW ((aI nL.toNat).1) (J O.ah nL.toNat).aq.length ((aI nL.toNat).2)]) (cs:=[Z (J O.ah nL.toNat).aS,Z (J O.ah nL.toNat).dc,Z (J O.ah nL.toNat).bD,aW ((aI nL.toNat).1) (J O.ah nL.toNat).aq.length ((aI nL.toNat).2)]) ⟨aV.cell xK (h.dn 2) 0 rfl,aV.cell xK (h.dn 2) 1 rfl,aV.cell xK (h.dn 2) 2 rfl,aV.cell xK (h.dn 2) 3 rfl,cz⟩<|?_;refine kN h (#[Z 0,Z 0,Z 0,aW none 0 0]) 99 λb42 w h=>kA h (qB b42 (J O.ah nL.toNat) ((aI nL.toNat).1) ((aI nL.toNat).2)) λw h=>G<|ks<|kM h<|gy H λLh e44 H=>Wn (Bx (bl:=((aI nL.toNat).1)) (bO:=((aI nL.toNat).2)) (cE:=(bE.up 3 (aV.u5 xK))) e44 h :) λUT x46 w h=>bS<|G<|iq<|wb<|λ_ r=>dO (β:=Nat) id (λm a w=>∃rQ:Int,(iY K O nL Lh m rQ)=some o40/\∃j,kI 131 (lk [(1,pA b1 0),(2,pA b2 0),(9,Z nL),(10,pA b42 0),(11,aW UT Lh.length x46),(12,Z rQ)] j) a/\Fit z (aB (gG b1 #[aW bu O.ah.length bV] 24::gG b2 #[Z 0,Z 0,Z 0] 95::qB b42 (J O.ah nL.toNat) ((aI nL.toNat).1) ((aI nL.toNat).2)::Je UT x46 Lh::L)) w) K ⟨0,H,r.fj (h.se 4 [2,3,1,0])⟩<|?_;clear h r H;rintro k5 a w ⟨rQ,H,j,r,h⟩;cases k5 with
    | zero=>exact absurd H (by simp[iY])
    | succ k5 =>
     rw[iY]at H;refine qq r<|wq<|aL dm<|kL (h.pick 2) 3<|ko [Z (((J O.ah nL.toNat).aq.length:Nat):Int),dx (rQ<(((J O.ah nL.toNat).aq.length:Nat):Int))]<|G<|eB H (λKc H=>?_) λKc H=>?_
     ·refine gw<|wq<|wb<|wq<|qg H λEV H=>qg H λOC H=>?_;obtain⟨ae2,h⟩:=h.m3.me (aT OC);obtain⟨EX,EY,e53,h⟩:=ng (h.m1);subst e53;refine gy H λLi e56 H=>nK [(b42,3,[aW ((aI nL.toNat).1) (J O.ah nL.toNat).aq.length ((aI nL.toNat).2)]),(dW ((aI nL.toNat).1),j6 ((aI nL.toNat).1)+rQ.toNat*5,gK (J (J O.ah nL.toNat).aq rQ.toNat)),(dW UT,rQ.toNat*1,[aW EX (J Lh rQ.toNat).length EY])] [0,3,7] 11 h (λh=>⟨⟨(h.pick 4).cell 3 rfl,cz⟩,⟨(aV.u5 xK).cell EV (h.dn 5) 0 rfl,(aV.u5 xK).cell EV (h.dn 5) 1 rfl,(aV.u5 xK).cell EV (h.dn 5) 2 rfl,(aV.u5 xK).cell EV (h.dn 5) 3 rfl,(aV.u5 xK).cell EV (h.dn 5) 4 rfl,cz⟩,⟨(h.pick 1).oP eF (f:=0) rfl,cz⟩,cz⟩) λw h hd =>mU hd 7 114 [([0],pA b42 3),([2],Z rQ),([5],aW UT Lh.length x46),([6],Z rQ)]<|oK hd 6 7 rfl (mg UT rQ 1) (λw=>vR (k:=.i64) (E:=28) rfl bp bp bp bp (h.pick 1) OC)<|fW hd 0 5 1 rfl<|oK hd 4 3 rfl (pA (dW ((aI nL.toNat).1)) (j6 ((aI nL.toNat).1)+rQ.toNat*5)) (λw=>EU 146 ((aI nL.toNat).2) rfl rfl (aV.u5 xK) EV)<|wD hd 1 3 4 rfl rfl<|fW hd 2 2 8 rfl<|lI 9 rfl<|fD (xI (Kf:=EX) (Lf:=EY) (Ke:=(bE.FU aO h (λh=>h))) e56 h :) λw h=>G<|mM<|iN 0 10 rfl (Z Li)<|nJ<|tn<|aL [U,vB (Li != 0)]<|G<|qx H (λRb H=>?_) λRb H=>?_
      ·refine wk<|bn<|tn<|wl<|ko [U,Z (wi (rQ+1)),Z (wi (rQ+1))]<|G<|?_;replace h:=iC (x:=(J Lh rQ.toNat)) h;replace h:=(h.m1).ig;exact λ_ r=>⟨_,⟨(wi (rQ+1)),H,r.fj (h.se 4 [1,2,3,0])⟩,gU _⟩
      refine aL wc<|qh h.m3 λh=>kA h (gG b2 #[Z Li,Z nL,Z rQ] 95) λw h=>cu<|br<|tr<|tr<|br<|br<|tr<|tr<|br<|tr<|kC h<|qh h.m2.m2 λh=>?_;replace h:=iC (x:=(J Lh rQ.toNat)) h;replace h:=(h.m1).ig;replace H:=uD H aaS;cases H;exact⟨rfl,h.se 4 []⟩
     refine wx<|te<|te<|bh<|bn<|tn<|?_;exact λ_ r=>⟨(),gM H,r.fj (h.se 4 [0,1])⟩
   clear h r;rintro _ a w ⟨rfl,j,r,h⟩;replace H:=Dy aaS;refine qq r<|wl<|ko [U,Z (wi (nL+1)),Z (wi (nL+1))]<|G<|?_;exact λ_ r=>⟨_,⟨(wi (nL+1)),H,r.fj h⟩,gU _⟩
  refine wx<|te<|te<|bh<|tn<|aL [U]<|qh h.m1 λh=>kA h (gG b2 #[Z 0,Z 0,Z 0] 95) λw h=>cu<|kC h<|?_;cases H;exact⟨rfl,h.se 2 []⟩
def ni(K:Nat)(O:aJ)(Y:List Int)(p2:Int)(p3:eK):Option (Int):=
 eV (pn K O) (λr3=>(if r3.Ow=0 then if bG (0:Int) O.ah.length then(if((Y.length:Nat):Int)=(J O.ah 0).aS then(if p2<1 then some 110 else(if p2>64 then some 110 else eV (j7 p3) (λvy=>(if vy=true then some 111 else some 0))))else some 61)else none else some 60))
theorem yC(H:ni K O Y p2 p3=some r0)(h:jb z (L) w)(aV:Bt L bu aI O.ah)(Ke:bE L 1 cQ Kf Y) :
 nR 16 #[oQ #[aW bu O.ah.length bV],aW Kf Y.length Lf,Z p2,j4 p3] w z (Z r0) (L):=by
 unfold ni at H;refine ke func16 35 rfl λj=>ks<|kN h (#[aW bu O.ah.length bV]) 24 λb1 w h=>kN h (k8 p3) 27 λb2 w h=>bS<|G<|ks<|xm (oQ #[aW bu O.ah.length bV]) (cs:=[aW bu O.ah.length bV]) ⟨(h.pick 1).cell 0 rfl,cz⟩<|?_;refine gy H λr3 e4 H=>fD (AG (bu:=bu) (bV:=bV) (aV:=(yc.up 2 aV)) (aI:=aI) e4 h :) λw h=>kN h (#[Z 0,Z 0,Z 0]) 95 λb5 w h=>kA h (ac5 b5 r3) λw h=>G<|wq<|wb<|aL [U]<|kL h 0<|ko [vB (r3.Ow != 0),vB (r3.Ow != 0)]<|G<|qx H (λc6 H=>?_) λc6 H=>?_
 ·refine aL [U,Z ((Y.length:Nat):Int),U]<|kL (h.pick 2) 0<|qg H λc7 H=>kp (pA (dW bu) (j6 bu+0*4)) (DR 99 bV rfl rfl aV c7)<|bS<|xl (Z (J O.ah 0).aS) (aV.cell c7 (h.dn 3) 0 rfl)<|?_;refine ko [vB (((Y.length:Nat):Int) != (J O.ah 0).aS),vB (((Y.length:Nat):Int) != (J O.ah 0).aS)]<|G<|qx H (λc8 H=>?_) λc8 H=>?_
  ·refine aL [U,dx (p2<1),dx (p2<1)]<|qI H (λc9 H=>?_) λc9 H=>?_
   ·refine bW (dT c9) [29,30]<|nv (dT c9) (vB true)<|bS<|G<|λ_ r=>fV r (b:=true) rfl<|qq r<|iq<|wr<|br<|tr<|?_;cases H;exact gR (h.se 3 [])
   refine cS (dF c9) [29,30] [Z p2,dx (p2>64)]<|ny (dF c9) (dx (p2>64))<|ko [dx (p2>64)]<|G<|eB H (λod H=>?_) λod H=>?_
   ·refine iq<|wr<|br<|tr<|?_;cases H;exact gR (h.se 3 [])
   refine ks<|kM (h.pick 1)<|gy H λvy DU H=>fD (wW DU h :) λw h=>bS<|G<|ED H (λyz H=>?_) λyz H=>?_
   ·refine iq<|wr<|br<|tr<|?_;cases H;exact gR (h.se 3 [])
   refine wk<|bn<|tn<|iq<|wr<|?_;cases H;exact gR (h.se 3 [])
  refine iq<|wr<|br<|tr<|?_;cases H;exact gR (h.se 3 [])
 refine iq<|wr<|br<|tr<|?_;cases H;exact gR (h.se 3 [])
def tY(O:aC):Option (Bool):=
 xF ((if O.aS<0 then some (.inr false)else(if O.aS>8 then some (.inr false)else(if O.dc<1 then some (.inr false)else(if O.dc<O.aS then some (.inr false)else(if O.dc>16 then some (.inr false)else some (.inl ()))))))) ((if O.bD>=0 then(if O.bD<=8 then(if((O.aq.length:Nat):Int)>=1 then some (decide (((O.aq.length:Nat):Int)<=512))else some false)else some false)else some false))
theorem EZ(H:tY O=some r0)(h:jb z (L) w)(cE:bE L 5 cL bl O.aq) :
 nR 114 #[oQ #[Z O.aS,Z O.dc,Z O.bD,aW bl O.aq.length bO]] w z (vB r0) (L):=by
 unfold tY at H;refine ke func114 48 rfl λj=>ks<|kN h (#[Z O.aS,Z O.dc,Z O.bD,aW bl O.aq.length bO]) 99 λb1 w h=>bS<|G<|?_;obtain⟨o3,H,EE⟩:=Dx H;refine λ_ r=>cW (β:=Unit) (λ_ a w=>.inl ()=o3/\∃j,kI 48 (lk [(1,pA b1 0)] j) a/\Fit z (aB (qB b1 O bl bO::L)) w) ?_ ?_
 ·refine qq r<|aL [U]<|kL h 0<|ko [dx (O.aS<0),dx (O.aS<0)]<|qI H (λc4 H=>?_) λc4 H=>?_
  ·refine bW (dT c4) [7,8,9]<|nv (dT c4) (vB true)<|bS<|bW (rfl:true=true) [12,13,14]<|ko dm<|bW (rfl:true=true) [17,18,19,20,21]<|ko dm<|bW (rfl:true=true) [24,25,26]<|bS<|G<|λ_ r=>fV r (b:=true) rfl<|qq r<|iq<|wr<|tr<|λ_ r=>qD (vB false) rfl r<|?_;replace H:=uD H EE;cases H;exact⟨rfl,h.se 1 []⟩
  refine cS (dF c4) [7] [pA b1 0]<|tc (dF c4) h 0<|cS (dF c4) [9] [dx (O.aS>8)]<|ny (dF c4) (dx (O.aS>8))<|ko [dx (O.aS>8)]<|qI H (λc5 H=>?_) λc5 H=>?_
  ·refine bW (dT c5) [12,13,14]<|nv (dT c5) (vB true)<|bS<|bW (rfl:true=true) [17,18,19,20,21]<|ko dm<|bW (rfl:true=true) [24,25,26]<|bS<|G<|λ_ r=>fV r (b:=true) rfl<|qq r<|iq<|wr<|tr<|λ_ r=>qD (vB false) rfl r<|?_;replace H:=uD H EE;cases H;exact⟨rfl,h.se 1 []⟩
  refine cS (dF c5) [12] [pA b1 1]<|tc (dF c5) h 1<|cS (dF c5) [14] [dx (O.dc<1)]<|ny (dF c5) (dx (O.dc<1))<|ko [dx (O.dc<1)]<|qI H (λc6 H=>?_) λc6 H=>?_
  ·refine bW (dT c6) [17,18,19,20,21]<|nv (dT c6) (vB true)<|bS<|bW (rfl:true=true) [24,25,26]<|bS<|G<|λ_ r=>fV r (b:=true) rfl<|qq r<|iq<|wr<|tr<|λ_ r=>qD (vB false) rfl r<|?_;replace H:=uD H EE;cases H;exact⟨rfl,h.se 1 []⟩
  refine cS (dF c6) [17] [pA b1 1]<|tc (dF c6) h 1<|cS (dF c6) [19] [pA b1 0]<|tc (dF c6) h 0<|cS (dF c6) [21] [dx (O.dc<O.aS)]<|ny (dF c6) (dx (O.dc<O.aS))<|ko [dx (O.dc<O.aS)]<|qI H (λc7 H=>?_) λc7 H=>?_
  ·refine bW (dT c7) [24,25,26]<|nv (dT c7) (vB true)<|G<|λ_ r=>fV r (b:=true) rfl<|qq r<|iq<|wr<|tr<|λ_ r=>qD (vB false) rfl r<|?_;replace H:=uD H EE;cases H;exact⟨rfl,h.se 1 []⟩
  refine cS (dF c7) [24] [pA b1 1]<|tc (dF c7) h 1<|cS (dF c7) [26] [dx (O.dc>16)]<|ny (dF c7) (dx (O.dc>16))<|G<|eB H (λc8 H=>?_) λc8 H=>?_
  ·refine iq<|wr<|tr<|λ_ r=>qD (vB false) rfl r<|?_;replace H:=uD H EE;cases H;exact⟨rfl,h.se 1 []⟩
  refine gw<|?_;exact λ_ r=>⟨(),gM H,r.fj h⟩
 clear h r;rintro _ a w ⟨rfl,j,r,h⟩;replace H:=Dy EE;refine qq r<|aL [U]<|kL h 2<|ko [dx (O.bD>=0),dx (O.bD>=0)]<|qI H (λc9 H=>?_) λc9 H=>?_
 ·refine cS (dT c9) [32] [pA b1 2]<|tc (dT c9) h 2<|cS (dT c9) [34] [dx (O.bD<=8)]<|nv (dT c9) (dx (O.bD<=8))<|ko [dx (O.bD<=8)]<|qI H (λod H=>?_) λod H=>?_
  ·refine cS (dT od) [37] [pA b1 3]<|tc (dT od) h 3<|cS (dT od) [39,40] [Z ((O.aq.length:Nat):Int),dx (((O.aq.length:Nat):Int)>=1)]<|nv (dT od) (dx (((O.aq.length:Nat):Int)>=1))<|ko [dx (((O.aq.length:Nat):Int)>=1)]<|qI H (λuS H=>?_) λuS H=>?_
   ·refine cS (dT uS) [43] [pA b1 3]<|tc (dT uS) h 3<|cS (dT uS) [45,46] [Z ((O.aq.length:Nat):Int),dx (((O.aq.length:Nat):Int)<=512)]<|nv (dT uS) (dx (((O.aq.length:Nat):Int)<=512))<|ko [dx (((O.aq.length:Nat):Int)<=512)]<|cu<|?_;cases H;exact gR (h.se 1 [])
   refine bW (dF uS) [43,44,45,46]<|ny (dF uS) (vB false)<|bS<|cu<|?_;cases H;exact gR (h.se 1 [])
  refine bW (dF od) [37,38,39,40]<|ny (dF od) (vB false)<|bS<|bW (rfl:false=false) [43,44,45,46]<|ko dm<|cu<|?_;cases H;exact gR (h.se 1 [])
 refine bW (dF c9) [32,33,34]<|ny (dF c9) (vB false)<|bS<|bW (rfl:false=false) [37,38,39,40]<|ko dm<|bW (rfl:false=false) [43,44,45,46]<|ko dm<|cu<|?_;cases H;exact gR (h.se 1 [])
def we(O:Int)(Y:Int)(p2:aC)(p3:Int):Option (Bool):=
 (if O=0 then some true else(if O=1 then(if Y>=0 then some (decide (Y<p2.dc))else some false)else(if O=2 then(if Y>=0 then some (decide (Y<p2.bD))else some false)else(if O=3 then(if Y>=0 then some (decide (Y<((p2.aq.length:Nat):Int)))else some false)else(if O=5 then(if Y>=0 then some (decide (Y<16))else some false)else(if O=4 then(if p3<0 then some true else(if Y>=0 then some (decide (Y<p3))else some false))else(if Y>=0 then some (decide (Y<0))else some false)))))))
theorem yY(H:we O Y p2 p3=some r0)(h:jb z (L) w)(Gi:bE L 5 cL AH p2.aq) :
 nR 197 #[Z O,Z Y,oQ #[Z p2.aS,Z p2.dc,Z p2.bD,aW AH p2.aq.length C3],Z p3] w z (vB r0) (L):=by
 unfold we at H;refine ke func197 40 rfl λj=>ks<|kN h (#[Z p2.aS,Z p2.dc,Z p2.bD,aW AH p2.aq.length C3]) 99 λb1 w h=>bS<|G<|iq<|wq<|iq<|wb<|aL [vB (O==0),vB (O==0)]<|G<|eB H (λc2 H=>?_) λc2 H=>?_
 ·refine iq<|wr<|br<|tr<|?_;cases H;exact gR (h.se 1 [])
 refine aL [vB (O==1),vB (O==1)]<|G<|eB H (λc3 H=>?_) λc3 H=>?_
 ·refine wl<|bS<|kL h 1<|bS<|kl<|bn<|tn<|aL [U,dx (Y>=0),dx (Y>=0)]<|qI H (λc4 H=>?_) λc4 H=>?_
  ·refine cS (dT c4) [36,37,38] [Z Y,Z p2.dc,dx (Y<p2.dc)]<|nv (dT c4) (dx (Y<p2.dc))<|ko [dx (Y<p2.dc)]<|cu<|?_;cases H;exact gR (h.se 1 [])
  refine bW (dF c4) [36,37,38]<|ny (dF c4) (vB false)<|bS<|cu<|?_;cases H;exact gR (h.se 1 [])
 refine aL [vB (O==2),vB (O==2)]<|G<|eB H (λc5 H=>?_) λc5 H=>?_
 ·refine wl<|bS<|kL h 2<|bS<|kl<|bn<|tn<|aL [U,dx (Y>=0),dx (Y>=0)]<|qI H (λc6 H=>?_) λc6 H=>?_
  ·refine cS (dT c6) [36,37,38] [Z Y,Z p2.bD,dx (Y<p2.bD)]<|nv (dT c6) (dx (Y<p2.bD))<|ko [dx (Y<p2.bD)]<|cu<|?_;cases H;exact gR (h.se 1 [])
  refine bW (dF c6) [36,37,38]<|ny (dF c6) (vB false)<|bS<|cu<|?_;cases H;exact gR (h.se 1 [])
 refine aL [vB (O==3),vB (O==3)]<|G<|eB H (λc7 H=>?_) λc7 H=>?_
 ·refine wl<|bS<|kL h 3<|ko [Z ((p2.aq.length:Nat):Int),Z ((p2.aq.length:Nat):Int)]<|kl<|bn<|tn<|aL [U,dx (Y>=0),dx (Y>=0)]<|qI H (λc8 H=>?_) λc8 H=>?_
  ·refine cS (dT c8) [36,37,38] [Z Y,Z ((p2.aq.length:Nat):Int),dx (Y<((p2.aq.length:Nat):Int))]<|nv (dT c8) (dx (Y<((p2.aq.length:Nat):Int)))<|ko [dx (Y<((p2.aq.length:Nat):Int))]<|cu<|?_;cases H;exact gR (h.se 1 [])
  refine bW (dF c8) [36,37,38]<|ny (dF c8) (vB false)<|bS<|cu<|?_;cases H;exact gR (h.se 1 [])
 refine aL [vB (O==5),vB (O==5)]<|G<|eB H (λc9 H=>?_) λc9 H=>?_
 ·refine wl<|bS<|kl<|bn<|tn<|aL [U,dx (Y>=0),dx (Y>=0)]<|qI H (λod H=>?_) λod H=>?_
  ·refine cS (dT od) [36,37,38] [Z Y,Z 16,dx (Y<16)]<|nv (dT od) (dx (Y<16))<|ko [dx (Y<16)]<|cu<|?_;cases H;exact gR (h.se 1 [])
  refine bW (dF od) [36,37,38]<|ny (dF od) (vB false)<|bS<|cu<|?_;cases H;exact gR (h.se 1 [])
 refine aL [vB (O==4),vB (O==4)]<|G<|eB H (λuS H=>?_) λuS H=>?_
 ·refine wq<|aL [U,dx (p3<0)]<|G<|eB H (λCE H=>?_) λCE H=>?_
  ·refine iq<|wr<|tr<|br<|tr<|?_;cases H;exact gR (h.se 1 [])
  refine gw<|wl<|ko dm<|kl<|bn<|tn<|aL [U,dx (Y>=0),dx (Y>=0)]<|qI H (λyz H=>?_) λyz H=>?_
  ·refine cS (dT yz) [36,37,38] [Z Y,Z p3,dx (Y<p3)]<|nv (dT yz) (dx (Y<p3))<|ko [dx (Y<p3)]<|cu<|?_;cases H;exact gR (h.se 1 [])
  refine bW (dF yz) [36,37,38]<|ny (dF yz) (vB false)<|bS<|cu<|?_;cases H;exact gR (h.se 1 [])
 refine wk<|bn<|tn<|aL [U,dx (Y>=0),dx (Y>=0)]<|qI H (λwX H=>?_) λwX H=>?_
 ·refine cS (dT wX) [36,37,38] [Z Y,Z 0,dx (Y<0)]<|nv (dT wX) (dx (Y<0))<|ko [dx (Y<0)]<|cu<|?_;cases H;exact gR (h.se 1 [])
 refine bW (dF wX) [36,37,38]<|ny (dF wX) (vB false)<|bS<|cu<|?_;cases H;exact gR (h.se 1 [])
def tZ(O:bZ)(Y:aC)(p2:List aC):Option (Bool):=
 xF ((if O.aE<0 then some (.inr false)else(if O.aE>=10 then some (.inr false)else some (.inl ())))) (if bG O.aE wS.length then MN (if 0<p2.length then some ()else none) (xF (eV (we (J wS O.aE.toNat).a O.A Y ((p2.length:Nat):Int)) (λiP=>(if iP=true then eV (we (J wS O.aE.toNat).b O.B Y ((p2.length:Nat):Int)) (λBz=>(if Bz=true then eV (we (J wS O.aE.toNat).c O.C Y ((p2.length:Nat):Int)) (λyZ=>(if yZ=true then some (.inl ())else some (.inr false)))else some (.inr false)))else some (.inr false)))) (xF ((if(J wS O.aE.toNat).k=5 then(if O.K<0 then some (.inr false)else(if O.K>=16 then some (.inr false)else some (.inl ())))else some (.inl ()))) (eV ((if O.aE=5 then if 0<p2.length then some true else none else some false)) (λg28=>(if g28=true then if bG O.B p2.length then(if(J p2 O.B.toNat).aS=0 then some true else(if O.C>=0 then some (decide (O.C<=(wi (Y.dc-(J p2 O.B.toNat).aS))))else some false))else none else some true)))))else none)
end
noncomputable section
variable {z w:World}{L:List aZ}
theorem zL(H:tZ O Y p2=some r0)(h:jb z (L) w)(eN:bE L 5 cL de Y.aq)(E1:Bt L xL T8 p2)(uq:bE L 5 gF (some ⟨1,0,none⟩) wS) :
 nR 168 #[iJ O,oQ #[Z Y.aS,Z Y.dc,Z Y.bD,aW de Y.aq.length di],aW xL p2.length yD] w z (vB r0) (L):=by
 unfold tZ at H;refine ke func168 96 rfl λj=>ks<|kN h (nc O) 146 λb1 w h=>kN h (#[Z Y.aS,Z Y.dc,Z Y.bD,aW de Y.aq.length di]) 99 λb2 w h=>bS<|G<|?_;obtain⟨o4,H,MZ⟩:=Dx H;refine λ_ r=>cW (β:=Unit) (λ_ a w=>.inl ()=o4/\∃j,kI 96 (lk [(2,aW xL p2.length yD),(3,pA b1 0),(4,pA b2 0)] j) a/\Fit z (aB (wF b1 O::qB b2 Y de di::L)) w) ?_ ?_
 ·refine qq r<|aL [U]<|kL (h.pick 1) 0<|ko [dx (O.aE<0),dx (O.aE<0)]<|qI H (λc5 H=>?_) λc5 H=>?_
  ·refine bW (dT c5) [14,15,16]<|nv (dT c5) (vB true)<|G<|λ_ r=>fV r (b:=true) rfl<|qq r<|iq<|wr<|tr<|λ_ r=>qD (vB false) rfl r<|?_;replace H:=uD H MZ;cases H;exact⟨rfl,h.se 2 []⟩
  refine cS (dF c5) [14] [pA b1 0]<|tc (dF c5) (h.pick 1) 0<|cS (dF c5) [16] [dx (O.aE>=10)]<|ny (dF c5) (dx (O.aE>=10))<|G<|eB H (λc6 H=>?_) λc6 H=>?_
  ·refine iq<|wr<|tr<|λ_ r=>qD (vB false) rfl r<|?_;replace H:=uD H MZ;cases H;exact⟨rfl,h.se 2 []⟩
  refine gw<|?_;exact λ_ r=>⟨(),gM H,r.fj (h.se 2 [1,0])⟩
 clear h r;rintro _ a w ⟨rfl,j,r,h⟩;replace H:=Dy MZ;refine qq r<|aL [U]<|kL h 0<|qg H λc7 H=>kp (pA (dW (some ⟨1,0,none⟩)) (O.aE.toNat*5)) (MP (xs:=wS) (k:=.i64) (E:=249) rfl bp bp bp bp rfl c7)<|xm (Jg (J wS O.aE.toNat)) (cs:=Jf (J wS O.aE.toNat)) ⟨uq.F4 c7 (h.dn 2) 0 rfl,uq.F4 c7 (h.dn 2) 1 rfl,uq.F4 c7 (h.dn 2) 2 rfl,uq.F4 c7 (h.dn 2) 3 rfl,uq.F4 c7 (h.dn 2) 4 rfl,cz⟩<|?_;refine kN h (#[Z 0,Z 0,Z 0,Z 0,vB false]) 249 λb8 w h=>kA h (Sh b8 (J wS O.aE.toNat)) λw h=>G<|aL [U,Z ((p2.length:Nat):Int),Z ((p2.length:Nat):Int)]<|G<|qd0 H λo10 H hK9=>λ_ r=>cW (β:=Unit) (λ_ a w=>()=o10/\∃j,kI 96 (lk [(2,aW xL p2.length yD),(3,pA b1 0),(4,pA b2 0),(7,pA b8 0),(8,Z ((p2.length:Nat):Int))] j) a/\Fit z (aB (wF b1 O::qB b2 Y de di::Sh b8 (J wS O.aE.toNat)::L)) w) ?_ ?_
 ·refine qq r<|ks<|qg H λuS H=>bS<|kp (vB false) (Uz (n0:=p2.length) (cc:=yD) rfl bp bp (E:=99) bp (E1.ne uS))<|G<|λ_ r=>iO r (b:=false) rfl<|qq r<|gw<|?_;exact λ_ r=>⟨(),gM H,r.fj (h.se 3 [1,2,0])⟩
 clear h r;rintro _ a w ⟨rfl,j,r,h⟩;replace H:=kk0 hK9;obtain⟨o13,H,UU⟩:=Dx H;refine cW (β:=Unit) (λ_ a w=>.inl ()=o13/\∃j,kI 96 (lk [(2,aW xL p2.length yD),(3,pA b1 0),(4,pA b2 0),(7,pA b8 0)] j) a/\Fit z (aB (wF b1 O::qB b2 Y de di::Sh b8 (J wS O.aE.toNat)::L)) w) ?_ ?_
 ·refine qq r<|aL [U]<|kL (h.pick 2) 0<|bS<|kL h 1<|kM (h.pick 1)<|gy H λiP Jm H=>ko [Z ((p2.length:Nat):Int)]<|fD (yY (AH:=de) (C3:=di) (Gi:=(bE.up 3 eN)) Jm h :) λw h=>ko [vB (!iP),vB (!iP)]<|qI H (λwY H=>?_) λwY H=>?_
  ·refine cS (nT wY) [35] [pA b8 1]<|tc (nT wY) (h.pick 2) 1<|cS (nT wY) [37] [pA b1 2]<|tc (nT wY) h 2<|λ_ r=>ldm (mT r (nT wY)) r (oQ #[Z Y.aS,Z Y.dc,Z Y.bD,aW de Y.aq.length di]) (cs:=[Z Y.aS,Z Y.dc,Z Y.bD,aW de Y.aq.length di]) ((h.pick 1).held 0 rfl)<|?_;refine gy H λBz C1 H=>cS (nT wY) [40] [Z ((p2.length:Nat):Int)]<|Zz (nT wY) (yY (AH:=de) (C3:=di) (Gi:=(bE.up 3 eN)) C1 h :) λw h=>cS (nT wY) [42] [vB (!Bz)]<|ny (nT wY) (vB (!Bz))<|ko [vB (!Bz)]<|qI H (λsW H=>?_) λsW H=>?_
   ·refine cS (nT sW) [45] [pA b8 2]<|tc (nT sW) (h.pick 2) 2<|cS (nT sW) [47] [pA b1 3]<|tc (nT sW) h 3<|λ_ r=>ldm (mT r (nT sW)) r (oQ #[Z Y.aS,Z Y.dc,Z Y.bD,aW de Y.aq.length di]) (cs:=[Z Y.aS,Z Y.dc,Z Y.bD,aW de Y.aq.length di]) ((h.pick 1).held 0 rfl)<|?_;refine gy H λyZ Ll H=>cS (nT sW) [50] [Z ((p2.length:Nat):Int)]<|Zz (nT sW) (yY (AH:=de) (C3:=di) (Gi:=(bE.up 3 eN)) Ll h :) λw h=>cS (nT sW) [52] [vB (!yZ)]<|ny (nT sW) (vB (!yZ))<|G<|DN H (λC0 H=>?_) λC0 H=>?_
    ·refine gw<|?_;exact λ_ r=>⟨(),gM H,r.fj h⟩
    refine iq<|wr<|tr<|λ_ r=>qD (vB false) rfl r<|?_;replace H:=uD H UU;cases H;exact⟨rfl,h.se 3 []⟩
   refine bW (nF sW) [45,46,47,48,49,50,51,52]<|nv (nF sW) (vB true)<|G<|λ_ r=>fV r (b:=true) rfl<|qq r<|iq<|wr<|tr<|λ_ r=>qD (vB false) rfl r<|?_;replace H:=uD H UU;cases H;exact⟨rfl,h.se 3 []⟩
  refine bW (nF wY) [35,36,37,38,39,40,41,42]<|nv (nF wY) (vB true)<|bS<|bW (rfl:true=true) [45,46,47,48,49,50,51,52]<|bS<|G<|λ_ r=>fV r (b:=true) rfl<|qq r<|iq<|wr<|tr<|λ_ r=>qD (vB false) rfl r<|?_;replace H:=uD H UU;cases H;exact⟨rfl,h.se 3 []⟩
 clear h r;rintro _ a w ⟨rfl,j,r,h⟩;replace H:=Dy UU;obtain⟨o24,H,M0⟩:=Dx H;refine cW (β:=Unit) (λ_ a w=>.inl ()=o24/\∃j,kI 96 (lk [(2,aW xL p2.length yD),(3,pA b1 0),(4,pA b2 0)] j) a/\Fit z (aB (wF b1 O::qB b2 Y de di::L)) w) ?_ ?_
 ·refine qq r<|aL [U]<|kL (h.pick 2) 3<|ko [vB ((J wS O.aE.toNat).k==5),vB ((J wS O.aE.toNat).k==5)]<|qI H (λxH H=>?_) λxH H=>?_
  ·refine cS (beq_iff_eq.mpr xH) [58] [pA b1 4]<|λ_ r=>ld (mT r (beq_iff_eq.mpr xH)) r (Z O.K) (h.cell 4 rfl)<|?_;refine cS (beq_iff_eq.mpr xH) [60,61] [dx (O.K<0),dx (O.K<0)]<|qI H (λBp H=>?_) λBp H=>?_
   ·refine bW (dT Bp) [62,63,64]<|λ_ r=>My (mT r (beq_iff_eq.mpr xH)) r (vB true) (G7 (b:=(decide (O.K<0))) rfl bp (dT Bp) bp)<|?_;refine nv (beq_iff_eq.mpr xH) (vB true)<|G<|λ_ r=>fV r (b:=true) rfl<|qq r<|iq<|wr<|tr<|λ_ r=>qD (vB false) rfl r<|?_;replace H:=uD H M0;cases H;exact⟨rfl,h.se 3 []⟩
   refine cS (dF Bp) [62] [pA b1 4]<|tc (dF Bp) h 4<|cS (dF Bp) [64] [dx (O.K>=16)]<|λ_ r=>My (mT r (beq_iff_eq.mpr xH)) r (dx (O.K>=16)) (I1 (b:=(decide (O.K<0))) rfl bp (dF Bp) bp)<|?_;refine nv (beq_iff_eq.mpr xH) (dx (O.K>=16))<|G<|eB H (λrK H=>?_) λrK H=>?_
   ·refine iq<|wr<|tr<|λ_ r=>qD (vB false) rfl r<|?_;replace H:=uD H M0;cases H;exact⟨rfl,h.se 3 []⟩
   refine gw<|?_;exact λ_ r=>⟨(),gM H,r.fj (h.se 3 [0,1])⟩
  refine bW (bN xH) [58,59,60,61]<|KW false [62,63,64]<|bW (bN xH) [65]<|ny (bN xH) (vB false)<|G<|λ_ r=>iO r (b:=false) rfl<|qq r<|gw<|?_;exact λ_ r=>⟨(),gM H,r.fj (h.se 3 [0,1])⟩
 clear h r;rintro _ a w ⟨rfl,j,r,h⟩;replace H:=Dy M0;refine qq r<|wq<|DM H λo30 H ac8=>λ_ r=>cW (β:=Unit) (λ_ a w=>∃g28:Bool,g28=o30/\∃j,kI 96 (lk [(2,aW xL p2.length yD),(3,pA b1 0),(4,pA b2 0),(73,vB g28)] j) a/\Fit z (aB (wF b1 O::qB b2 Y de di::L)) w) ?_ ?_
 ·refine qq r<|wl<|bS<|kL h 0<|ko [vB (O.aE==5),vB (O.aE==5)]<|qI H (λuT H=>?_) λuT H=>?_
  ·refine qg H λGf H=>cS (beq_iff_eq.mpr uT) [71] [aW xL p2.length yD]<|λ_ r=>My (mT r (beq_iff_eq.mpr uT)) r (vB true) (RM (n0:=p2.length) (cc:=yD) rfl bp bp (E:=99) bp (E1.ne Gf))<|?_;refine nv (beq_iff_eq.mpr uT) (vB true)<|G<|?_;exact λ_ r=>⟨(),true,gM H,r.fj h⟩
  refine bW (bN uT) [71,72]<|ny (bN uT) (vB false)<|G<|?_;exact λ_ r=>⟨(),false,gM H,r.fj h⟩
 clear h r;rintro _ a w ⟨g28,rfl,j,r,h⟩;replace H:=DJ ac8;refine qq r<|ED H (λBu H=>?_) λBu H=>?_
 ·refine aL dm<|kL h 2<|qg H λDS H=>kp (pA (dW xL) (j6 xL+O.B.toNat*4)) (DR 99 yD rfl rfl E1 DS)<|bS<|xl (Z (J p2 O.B.toNat).aS) (E1.cell DS (h.dn 2) 0 rfl)<|?_;refine bS<|G<|aL [U,vB ((J p2 O.B.toNat).aS==0),vB ((J p2 O.B.toNat).aS==0)]<|qI H (λHs H=>?_) λHs H=>?_
  ·refine bW (beq_iff_eq.mpr Hs) [83,84,85,86]<|KW true [87,88,89,90,91,92,93]<|bW (beq_iff_eq.mpr Hs) [94]<|nv (beq_iff_eq.mpr Hs) (vB true)<|bS<|cu<|tr<|?_;cases H;exact gR (h.se 2 [])
  refine cS (bN Hs) [83] [pA b1 3]<|tc (bN Hs) h 3<|cS (bN Hs) [85,86] [dx (O.C>=0),dx (O.C>=0)]<|qI H (λKg H=>?_) λKg H=>?_
  ·refine cS (dT Kg) [87] [pA b1 3]<|tc (dT Kg) h 3<|cS (dT Kg) [89] [pA b2 1]<|tc (dT Kg) (h.pick 1) 1<|cS (dT Kg) [91,92,93] [Z (J p2 O.B.toNat).aS,Z (wi (Y.dc-(J p2 O.B.toNat).aS)),dx (O.C<=(wi (Y.dc-(J p2 O.B.toNat).aS)))]<|λ_ r=>My (mT r (bN Hs)) r (dx (O.C<=(wi (Y.dc-(J p2 O.B.toNat).aS)))) (G7 (b:=(decide (O.C>=0))) rfl bp (dT Kg) bp)<|?_;refine ny (bN Hs) (dx (O.C<=(wi (Y.dc-(J p2 O.B.toNat).aS))))<|ko [dx (O.C<=(wi (Y.dc-(J p2 O.B.toNat).aS)))]<|cu<|tr<|?_;cases H;exact gR (h.se 2 [])
  refine bW (dF Kg) [87,88,89,90,91,92,93]<|λ_ r=>My (mT r (bN Hs)) r (vB false) (I1 (b:=(decide (O.C>=0))) rfl bp (dF Kg) bp)<|?_;refine ny (bN Hs) (vB false)<|bS<|cu<|tr<|?_;cases H;exact gR (h.se 2 [])
 refine gw<|iq<|wr<|?_;cases H;exact gR (h.se 2 [])
def vb(O:aC):Option (Bool):=
 if bG (wi (((O.aq.length:Nat):Int)-1)) O.aq.length then(if(J O.aq (wi (((O.aq.length:Nat):Int)-1)).toNat).aE=3 then some true else some ((J O.aq (wi (((O.aq.length:Nat):Int)-1)).toNat).aE==9))else none
theorem AJ(H:vb O=some r0)(h:jb z (L) w)(cE:bE L 5 cL bl O.aq) :
 nR 169 #[oQ #[Z O.aS,Z O.dc,Z O.bD,aW bl O.aq.length bO]] w z (vB r0) (L):=by
 unfold vb at H;refine ke func169 19 rfl λj=>ks<|kN h (#[Z O.aS,Z O.dc,Z O.bD,aW bl O.aq.length bO]) 99 λb1 w h=>bS<|G<|aL [U]<|kL h 3<|bS<|kL h 3<|qg H λc2 H=>ko [Z ((O.aq.length:Nat):Int),Z (wi (((O.aq.length:Nat):Int)-1))]<|kj 146 bO cE c2<|ko [pA (dW bl) (j6 bl+(wi (((O.aq.length:Nat):Int)-1)).toNat*5)]<|xl (Z (J O.aq (wi (((O.aq.length:Nat):Int)-1)).toNat).aE) (cE.cell c2 (h.dn 1) 0 rfl)<|?_;refine ko [Z (J O.aq (wi (((O.aq.length:Nat):Int)-1)).toNat).aE]<|G<|aL [Z (J O.aq (wi (((O.aq.length:Nat):Int)-1)).toNat).aE,vB ((J O.aq (wi (((O.aq.length:Nat):Int)-1)).toNat).aE==3),vB ((J O.aq (wi (((O.aq.length:Nat):Int)-1)).toNat).aE==3)]<|qI H (λc3 H=>?_) λc3 H=>?_
 ·refine bW (beq_iff_eq.mpr c3) [16,17]<|nv (beq_iff_eq.mpr c3) (vB true)<|bS<|cu<|?_;cases H;exact gR (h.se 1 [])
 refine cS (bN c3) [16,17] [Z (J O.aq (wi (((O.aq.length:Nat):Int)-1)).toNat).aE,vB ((J O.aq (wi (((O.aq.length:Nat):Int)-1)).toNat).aE==9)]<|ny (bN c3) (vB ((J O.aq (wi (((O.aq.length:Nat):Int)-1)).toNat).aE==9))<|ko [vB ((J O.aq (wi (((O.aq.length:Nat):Int)-1)).toNat).aE==9)]<|cu<|?_;cases H;exact gR (h.se 1 [])
def gq(K:Nat)(O:Int)(Y:aC)(p2:List aC):Nat->Int->Option ((Unit)⊕((Unit)⊕mN))
 | 0,_=>none
 | k1+1,g4=>(if g4<((Y.aq.length:Nat):Int)then if bG g4 Y.aq.length then eV (tZ (J Y.aq g4.toNat) Y p2) (λr8=>(if r8=true then(gq K O Y p2 k1 (wi (g4+1)))else some (.inr (.inr (⟨52,O,g4⟩:mN)))))else none else some (.inl ()))
def nq(K:Nat)(O:Int)(Y:aC)(p2:List aC):Option ((Unit)⊕mN):=
 xF ((gq K O Y p2 K 0)) (eV (vb Y) (λvy=>(if vy=true then some (.inl ())else some (.inr (⟨53,O,wi (((Y.aq.length:Nat):Int)-1)⟩:mN)))))
abbrev XM:List Value:=[U,U,U,U,U]
theorem zV{K:Nat}{O:Int}{Y:aC}{p2:List aC}{de xL:fO}{di yD:Nat}{T8:Nat->Option Addr×Nat}(H:nq K O Y p2=some (.inl ()))(h:jb z (L) w)(eN:bE L 5 cL de Y.aq)(E1:Bt L xL T8 p2)(uq:bE L 5 gF (some ⟨1,0,none⟩) wS) :
 nR 115 #[Z O,oQ #[Z Y.aS,Z Y.dc,Z Y.bD,aW de Y.aq.length di],aW xL p2.length yD] w z (.tuple #[]) (L):=by
 unfold nq at H;refine ke func115 38 rfl λj=>ks<|kN h (#[Z Y.aS,Z Y.dc,Z Y.bD,aW de Y.aq.length di]) 99 λb1 w h=>G<|?_;obtain⟨o3,H,EE⟩:=Dx H;refine λ_ r=>cW (β:=Unit) (λ_ a w=>.inl ()=o3/\∃j,kI 38 (lk [(0,Z O),(4,pA b1 0)] j) a/\Fit z (aB (qB b1 Y de di::L)) w) ?_ ?_
 ·refine qq r<|aL [U]<|kL h 3<|ko [Z ((Y.aq.length:Nat):Int),U]<|G<|wb<|λ_ r=>dO (β:=Nat) id (λm a w=>∃g4:Int,(gq K O Y p2 m g4)=some o3/\∃j,kI 38 (lk [(0,Z O),(2,aW xL p2.length yD),(4,pA b1 0),(9,aW de Y.aq.length di),(10,Z ((Y.aq.length:Nat):Int)),(11,Z g4)] j) a/\Fit z (aB (qB b1 Y de di::L)) w) K ⟨0,H,r.fj h⟩<|?_;clear h r H;rintro k1 a w ⟨g4,H,j,r,h⟩;cases k1 with
  | zero=>exact absurd H (by simp[gq])
  | succ k1 =>
   rw[gq]at H;refine qq r<|aL [dx (g4<((Y.aq.length:Nat):Int))]<|G<|wq<|eB H (λc5 H=>?_) λc5 H=>?_
   ·refine gw<|wq<|wb<|ks<|qg H λc6 H=>bS<|kj 146 di eN c6<|xm (iJ (J Y.aq g4.toNat)) (cs:=gK (J Y.aq g4.toNat)) ⟨eN.cell c6 (h.dn 1) 0 rfl,eN.cell c6 (h.dn 1) 1 rfl,eN.cell c6 (h.dn 1) 2 rfl,eN.cell c6 (h.dn 1) 3 rfl,eN.cell c6 (h.dn 1) 4 rfl,cz⟩<|?_;refine kN h (K8) 146 λb7 w h=>bS<|kA h (wF b7 (J Y.aq g4.toNat)) λw h=>G<|ks<|kM h<|kM (h.pick 1)<|gy H λr8 e9 H=>bS<|fD (zL (xL:=xL) (yD:=yD) (E1:=(yc.up 2 E1)) (de:=de) (di:=di) (eN:=(bE.up 2 eN)) (uq:=bE.up 2 uq) (T8:=T8) e9 h :) λw h=>ko [vB (!r8)]<|G<|DN H (λod H=>?_) λod H=>?_
    ·refine wk<|bn<|tn<|wl<|ko [Z (wi (g4+1)),Z (wi (g4+1))]<|G<|?_;exact λ_ r=>⟨_,⟨(wi (g4+1)),H,r.fj (h.se 2 [1])⟩,gU _⟩
    refine wl<|ko XM<|λ_ r=>DL (wn rfl) r rfl (T:=194) (u:=oQ #[Z 52,Z O,Z g4]) bp<|ta<|nG<|nG<|ta<|nG<|Bn r<|?_;replace H:=uD H EE;cases H
   refine wx<|te<|te<|bh<|tn<|?_;exact λ_ r=>⟨(),gM H,r.fj h⟩
 clear h r;rintro _ a w ⟨rfl,j,r,h⟩;replace H:=Dy EE;refine qq r<|ks<|kM h<|gy H λvy DU H=>fD (AJ (bl:=de) (bO:=di) (cE:=(bE.up 1 eN)) DU h :) λw h=>ko [vB (!vy)]<|G<|DN H (λyz H=>?_) λyz H=>?_
 ·refine wk<|?_;cases H;exact Ou (h.se 1 [])
 refine wl<|ko dm<|kL h 3<|ko [Z ((Y.aq.length:Nat):Int),Z (wi (((Y.aq.length:Nat):Int)-1)),oQ #[Z 53,Z O,Z (wi (((Y.aq.length:Nat):Int)-1))],oQ #[Z 53,Z O,Z (wi (((Y.aq.length:Nat):Int)-1))],if_ 194 (oQ #[Z 53,Z O,Z (wi (((Y.aq.length:Nat):Int)-1))])]<|λ_ r=>DL (wn rfl) r rfl (T:=194) (u:=oQ #[Z 53,Z O,Z (wi (((Y.aq.length:Nat):Int)-1))]) bp<|Bn r<|?_;cases H
theorem zW{K:Nat}{O:Int}{Y:aC}{p2:List aC}{de xL:fO}{di yD:Nat}{T8:Nat->Option Addr×Nat}{rP:mN}(H:nq K O Y p2=some (.inr rP))(h:jb z (L) w)(eN:bE L 5 cL de Y.aq)(E1:Bt L xL T8 p2)(uq:bE L 5 gF (some ⟨1,0,none⟩) wS) :
 Calls Tryz.prog 115 #[Z O,oQ #[Z Y.aS,Z Y.dc,Z Y.bD,aW de Y.aq.length di],aW xL p2.length yD] w λe w=>e=.panicked [{v:=if_ 194 (zK rP),recovered:=false}]/\Fit z (aB (L)) w:=by
 unfold nq at H;refine ke func115 38 rfl λj=>ks<|kN h (#[Z Y.aS,Z Y.dc,Z Y.bD,aW de Y.aq.length di]) 99 λb1 w h=>G<|?_;obtain⟨o3,H,EE⟩:=Dx H;refine λ_ r=>cW (β:=Unit) (λ_ a w=>.inl ()=o3/\∃j,kI 38 (lk [(0,Z O),(4,pA b1 0)] j) a/\Fit z (aB (qB b1 Y de di::L)) w) ?_ ?_
 ·refine qq r<|aL [U]<|kL h 3<|ko [Z ((Y.aq.length:Nat):Int),U]<|G<|wb<|λ_ r=>dO (β:=Nat) id (λm a w=>∃g4:Int,(gq K O Y p2 m g4)=some o3/\∃j,kI 38 (lk [(0,Z O),(2,aW xL p2.length yD),(4,pA b1 0),(9,aW de Y.aq.length di),(10,Z ((Y.aq.length:Nat):Int)),(11,Z g4)] j) a/\Fit z (aB (qB b1 Y de di::L)) w) K ⟨0,H,r.fj h⟩<|?_;clear h r H;rintro k1 a w ⟨g4,H,j,r,h⟩;cases k1 with
  | zero=>exact absurd H (by simp[gq])
  | succ k1 =>
   rw[gq]at H;refine qq r<|aL [dx (g4<((Y.aq.length:Nat):Int))]<|G<|wq<|eB H (λc5 H=>?_) λc5 H=>?_
   ·refine gw<|wq<|wb<|ks<|qg H λc6 H=>bS<|kj 146 di eN c6<|xm (iJ (J Y.aq g4.toNat)) (cs:=gK (J Y.aq g4.toNat)) ⟨eN.cell c6 (h.dn 1) 0 rfl,eN.cell c6 (h.dn 1) 1 rfl,eN.cell c6 (h.dn 1) 2 rfl,eN.cell c6 (h.dn 1) 3 rfl,eN.cell c6 (h.dn 1) 4 rfl,cz⟩<|?_;refine kN h (K8) 146 λb7 w h=>bS<|kA h (wF b7 (J Y.aq g4.toNat)) λw h=>G<|ks<|kM h<|kM (h.pick 1)<|gy H λr8 e9 H=>bS<|fD (zL (xL:=xL) (yD:=yD) (E1:=(yc.up 2 E1)) (de:=de) (di:=di) (eN:=(bE.up 2 eN)) (uq:=bE.up 2 uq) (T8:=T8) e9 h :) λw h=>ko [vB (!r8)]<|G<|DN H (λod H=>?_) λod H=>?_
    ·refine wk<|bn<|tn<|wl<|ko [Z (wi (g4+1)),Z (wi (g4+1))]<|G<|?_;exact λ_ r=>⟨_,⟨(wi (g4+1)),H,r.fj (h.se 2 [1])⟩,gU _⟩
    refine wl<|ko XM<|λ_ r=>DL (wn rfl) r rfl (T:=194) (u:=oQ #[Z 52,Z O,Z g4]) bp<|ta<|nG<|nG<|ta<|nG<|Bn r<|?_;replace H:=uD H EE;replace H:=ejR H;subst H;exact⟨rfl,h.se 2 []⟩
   refine wx<|te<|te<|bh<|tn<|?_;exact λ_ r=>⟨(),gM H,r.fj h⟩
 clear h r;rintro _ a w ⟨rfl,j,r,h⟩;replace H:=Dy EE;refine qq r<|ks<|kM h<|gy H λvy DU H=>fD (AJ (bl:=de) (bO:=di) (cE:=(bE.up 1 eN)) DU h :) λw h=>ko [vB (!vy)]<|G<|DN H (λyz H=>?_) λyz H=>?_
 ·refine wk<|λ_ r=>p9 rfl r<|?_;cases H
 refine wl<|ko dm<|kL h 3<|ko [Z ((Y.aq.length:Nat):Int),Z (wi (((Y.aq.length:Nat):Int)-1)),oQ #[Z 53,Z O,Z (wi (((Y.aq.length:Nat):Int)-1))],oQ #[Z 53,Z O,Z (wi (((Y.aq.length:Nat):Int)-1))],if_ 194 (oQ #[Z 53,Z O,Z (wi (((Y.aq.length:Nat):Int)-1))])]<|λ_ r=>DL (wn rfl) r rfl (T:=194) (u:=oQ #[Z 53,Z O,Z (wi (((Y.aq.length:Nat):Int)-1))]) bp<|Bn r<|?_;replace H:=ejR H;subst H;exact⟨rfl,h.se 1 []⟩
def uU(O:aQ):Option (Bool):=
 some false
theorem DX(H:uU O=some r0)(h:jb z (L) w) :
 nR 199 #[vx O] w z (vB r0) (L):=by
 unfold uU at H;refine ke func199 3 rfl λj=>ks<|kN h (ER O) 255 λb1 w h=>bS<|G<|iq<|wr<|?_;cases H;exact gR (h.se 1 [])
def ve(O:bZ)(Y:Int)(p2:Int):Option (Int):=
 (if O.aE=5 then(if O.A=Y then some 2 else(if O.aE=6 then(if p2=2 then some 4 else some p2)else some p2))else(if O.aE=6 then(if p2=2 then some 4 else some p2)else some p2))
theorem Gj(H:ve O Y p2=some r0)(h:jb z (L) w) :
 nR 220 #[iJ O,Z Y,Z p2] w z (Z r0) (L):=by
 unfold ve at H;refine ke func220 26 rfl λj=>ks<|kN h (nc O) 146 λb1 w h=>bS<|G<|wq<|wb<|aL [U]<|kL h 0<|ko [vB (O.aE==5),vB (O.aE==5)]<|qI H (λc2 H=>?_) λc2 H=>?_
 ·refine cS (beq_iff_eq.mpr c2) [12] [pA b1 1]<|λ_ r=>ld (mT r (beq_iff_eq.mpr c2)) r (Z O.A) (h.cell 1 rfl)<|?_;refine cS (beq_iff_eq.mpr c2) [14,15] [Z Y,vB (O.A==Y)]<|nv (beq_iff_eq.mpr c2) (vB (O.A==Y))<|ko [vB (O.A==Y)]<|G<|eB H (λc3 H=>?_) λc3 H=>?_
  ·refine iq<|wr<|br<|tr<|?_;cases H;exact gR (h.se 1 [])
  refine aL [U]<|kL h 0<|ko [vB (O.aE==6),vB (O.aE==6)]<|qI H (λc4 H=>?_) λc4 H=>?_
  ·refine cS (beq_iff_eq.mpr c4) [22,23] [Z p2,vB (p2==2)]<|nv (beq_iff_eq.mpr c4) (vB (p2==2))<|ko [vB (p2==2)]<|G<|eB H (λc5 H=>?_) λc5 H=>?_
   ·refine iq<|wr<|br<|tr<|?_;cases H;exact gR (h.se 1 [])
   refine wk<|bn<|tn<|aL dm<|cu<|?_;cases H;exact gR (h.se 1 [])
  refine bW (bN c4) [22,23]<|ny (bN c4) (vB false)<|bS<|G<|λ_ r=>iO r (b:=false) rfl<|qq r<|wk<|bn<|tn<|aL dm<|cu<|?_;cases H;exact gR (h.se 1 [])
 refine bW (bN c2) [12,13,14,15]<|ny (bN c2) (vB false)<|bS<|G<|λ_ r=>iO r (b:=false) rfl<|qq r<|aL [U]<|kL h 0<|ko [vB (O.aE==6),vB (O.aE==6)]<|qI H (λc6 H=>?_) λc6 H=>?_
 ·refine cS (beq_iff_eq.mpr c6) [22,23] [Z p2,vB (p2==2)]<|nv (beq_iff_eq.mpr c6) (vB (p2==2))<|ko [vB (p2==2)]<|G<|eB H (λc7 H=>?_) λc7 H=>?_
  ·refine iq<|wr<|br<|tr<|?_;cases H;exact gR (h.se 1 [])
  refine wk<|bn<|tn<|aL dm<|cu<|?_;cases H;exact gR (h.se 1 [])
 refine bW (bN c6) [22,23]<|ny (bN c6) (vB false)<|bS<|G<|λ_ r=>iO r (b:=false) rfl<|qq r<|wk<|bn<|tn<|aL dm<|cu<|?_;cases H;exact gR (h.se 1 [])
def vg(O:aC)(Y:Int):Option ((List Int)):=
 if bG Y O.aq.length then eV (if bG (J O.aq Y.toNat).aE wS.length then(if(J wS (J O.aq Y.toNat).aE.toNat).next=true then(if(wi (Y+1))<((O.aq.length:Nat):Int)then if(([]:List Int).length+1)*8<=140737488355328 then some (([]:List Int)++[wi (Y+1)])else none else some ([]:List Int))else some ([]:List Int))else none) (λl6=>(if(J O.aq Y.toNat).aE=3 then if(l6.length+1)*8<=140737488355328 then some (l6++[(J O.aq Y.toNat).A])else none else(if(J O.aq Y.toNat).aE=4 then if(l6.length+1)*8<=140737488355328 then some (l6++[(J O.aq Y.toNat).B])else none else some l6)))else none
theorem Gk(H:vg O Y=some r0)(h:jb z (L) w)(cE:bE L 5 cL bl O.aq)(uq:bE L 5 gF (some ⟨1,0,none⟩) wS) :
 Calls Tryz.prog 221 #[oQ #[Z O.aS,Z O.dc,Z O.bD,aW bl O.aq.length bO],Z Y] w λe w=>∃y1 y2,e=.returned (aW y1 r0.length y2)/\Fit z (aB (xh y1 y2 r0::L)) w:=by
 unfold vg at H;refine ke func221 47 rfl λj=>ks<|kN h (#[Z O.aS,Z O.dc,Z O.bD,aW bl O.aq.length bO]) 99 λb1 w h=>bS<|G<|aL [U]<|kL h 3<|qg H λc2 H=>bS<|kj 146 bO cE c2<|xm (iJ (J O.aq Y.toNat)) (cs:=gK (J O.aq Y.toNat)) ⟨cE.cell c2 (h.dn 1) 0 rfl,cE.cell c2 (h.dn 1) 1 rfl,cE.cell c2 (h.dn 1) 2 rfl,cE.cell c2 (h.dn 1) 3 rfl,cE.cell c2 (h.dn 1) 4 rfl,cz⟩<|?_;refine kN h (K8) 146 λb3 w h=>kA h (wF b3 (J O.aq Y.toNat)) λw h=>G<|iq<|DM H λo8 H Lj=>λ_ r=>cW (β:=Unit) (λ_ a w=>∃E2:fO,∃E3:Nat,∃l6:List Int,l6=o8/\∃j,kI 47 (lk [(5,pA b3 0),(6,aW E2 l6.length E3)] j) a/\Fit z (aB (wF b3 (J O.aq Y.toNat)::xh E2 E3 l6::L)) w) ?_ ?_
 ·refine qq r<|aL [U]<|kL h 0<|qg H λc9 H=>kp (pA (dW (some ⟨1,0,none⟩)) ((J O.aq Y.toNat).aE.toNat*5)) (MP (xs:=wS) (k:=.i64) (E:=249) rfl bp bp bp bp rfl c9)<|bS<|xl (vB (J wS (J O.aq Y.toNat).aE.toNat).next) (uq.F4 c9 (h.dn 2) 4 rfl)<|?_;refine bS<|qI H (λod H=>?_) λod H=>?_
  ·refine cS (od) [18,19,20] [Z Y,Z (wi (Y+1)),pA b1 3]<|λ_ r=>ld (mT r (od)) r (aW bl O.aq.length bO) ((h.pick 1).cell 3 rfl)<|?_;refine cS (od) [22,23] [Z ((O.aq.length:Nat):Int),dx ((wi (Y+1))<((O.aq.length:Nat):Int))]<|nv (od) (dx ((wi (Y+1))<((O.aq.length:Nat):Int)))<|G<|eB H (λuS H=>?_) λuS H=>?_
   ·refine wl<|ko [U,U,Z (wi (Y+1))]<|kV h (#[Z (wi (Y+1))]) 3 λsX w h=>?_;replace h:=h.fU (e:=3) (sz:=1) (enc:=cQ);refine qg H λpU H=>λ_ r=>kQ (n0:=0) (c:=1) (bytes:=8) (wn rfl) rfl rfl r rfl bp bp aO (E:=3) (xs:=([]:List Int)) bp bp h (news:=[wi (Y+1)]) (m:=1) rfl ((h.pick 1).news rfl) pU rfl λnh sV w _ h r=>qq r<|ko [aW nh (([]:List Int)++[wi (Y+1)]).length sV]<|G<|?_;exact λ_ r=>⟨(),nh,sV,(([]:List Int)++[wi (Y+1)]),gM H,r.fj (h.se 4 [2,0])⟩
   refine gw<|?_;replace h:=h.fU (e:=3) (sz:=1) (enc:=cQ);exact λ_ r=>⟨(),none,0,([]:List Int),gM H,r.fj (h.se 3 [1,0])⟩
  refine bW (bF od) [18,19,20,21,22,23]<|ny (bF od) (vB false)<|G<|λ_ r=>iO r (b:=false) rfl<|qq r<|gw<|?_;replace h:=h.fU (e:=3) (sz:=1) (enc:=cQ);exact λ_ r=>⟨(),none,0,([]:List Int),gM H,r.fj (h.se 3 [1,0])⟩
 clear h r;rintro _ a w ⟨E2,E3,l6,rfl,j,r,h⟩;replace H:=DJ Lj;refine qq r<|wq<|aL [U]<|kL h 0<|G<|wb<|aL [vB ((J O.aq Y.toNat).aE==3),vB ((J O.aq Y.toNat).aE==3)]<|G<|eB H (λwY H=>?_) λwY H=>?_
 ·refine wl<|ko dm<|kL h 1<|kV h (#[Z (J O.aq Y.toNat).A]) 3 λb17 w h=>qh h.m2 λh=>qg H λlO H=>λ_ r=>kQ (n0:=l6.length) (c:=1) (bytes:=8) (wn rfl) rfl rfl r rfl bp bp aO (E:=3) (xs:=l6) bp bp h (news:=[(J O.aq Y.toNat).A]) (m:=1) rfl ((h.pick 1).news rfl) lO rfl λDY DZ w _ h r=>qq r<|bS<|kl<|bn<|tn<|aL dm<|cu<|?_;cases H;exact ZB DY DZ (h.se 3 [0])
 refine aL [vB ((J O.aq Y.toNat).aE==4),vB ((J O.aq Y.toNat).aE==4)]<|G<|eB H (λsv H=>?_) λsv H=>?_
 ·refine wl<|ko dm<|kL h 2<|kV h (#[Z (J O.aq Y.toNat).B]) 3 λxJ w h=>qh h.m2 λh=>qg H λxH H=>λ_ r=>kQ (n0:=l6.length) (c:=1) (bytes:=8) (wn rfl) rfl rfl r rfl bp bp aO (E:=3) (xs:=l6) bp bp h (news:=[(J O.aq Y.toNat).B]) (m:=1) rfl ((h.pick 1).news rfl) xH rfl λac9 ada w _ h r=>qq r<|bS<|kl<|bn<|tn<|aL dm<|cu<|?_;cases H;exact ZB ac9 ada (h.se 3 [0])
 refine wk<|bn<|tn<|aL dm<|cu<|?_;cases H;exact ZB E2 E3 (h.se 2 [1])
def jt(K:Nat)(l8:List aQ)(zM:Int)(qZ:List Int):Nat->(List (aQ×aQ))->(List aQ)->Int->Option ((List (aQ×aQ))×(List aQ))
 | 0,_,_,_=>none
 | k2+1,M2,M3,nL=>(if nL<((qZ.length:Nat):Int)then if bG nL qZ.length then(if(wV M2 (⟨(J qZ nL.toNat),zM⟩:aQ)).isSome=true then(jt K l8 zM qZ k2 M2 M3 (wi (nL+1)))else if wV M2 (⟨(J qZ nL.toNat),zM⟩:aQ)=none then if(M3.length+1)*16<=140737488355328 then(jt K l8 zM qZ k2 (M2++[((⟨(J qZ nL.toNat),zM⟩:aQ),J l8 0)]) (M3++[(⟨(J qZ nL.toNat),zM⟩:aQ)]) (wi (nL+1)))else none else none)else none else some (M2,M3))
def kG(K:Nat)(O:aC)(Y:Int):Nat->(List (aQ×aQ))->(List aQ)->Option ((List (aQ×aQ)))
 | 0,_,_=>none
 | k1+1,l5,l8=>(if((l8.length:Nat):Int)>0 then if bG (0:Int) l8.length then if 0<=(1:Int)/\(1:Int)<=((l8.length:Nat):Int)then if 0<l8.length then eV (uU (J l8 0)) (λBz=>(if Bz=true then some l5 else if bG (J l8 0).J O.aq.length then eV (ve (J O.aq (J l8 0).J.toNat) Y (J l8 0).state) (λzM=>eV (vg O (J l8 0).J) (λqZ=>sQ ((jt K l8 zM qZ K l5 (l8.drop 1) 0)) (λOB EW=>(kG K O Y k1 OB EW))))else none))else none else none else none else some l5)
def qd(K:Nat)(O:aC)(Y:Int):Option ((List (aQ×aQ))):=
 (kG K O Y K (([]:List (aQ×aQ))++[((⟨0,1⟩:aQ),(⟨-1,0⟩:aQ))]) ([(⟨0,1⟩:aQ)]))
abbrev sw:aQ:=⟨0,1⟩
abbrev B9:aQ:=⟨-1,0⟩
abbrev xM:aQ:=⟨0,0⟩
theorem BA(H:qd K O Y=some r0)(h:jb z (L) w)(cE:bE L 5 cL bl O.aq)(uq:bE L 5 gF (some ⟨1,0,none⟩) wS) :
 Calls Tryz.prog 198 #[oQ #[Z O.aS,Z O.dc,Z O.bD,aW bl O.aq.length bO],Z Y,.func (.func 199) #[] #[]] w λe w=>∃Wq,e=.returned (.map (some Wq))/\Fit z (aB (mapOf dP dP Wq r0::L)) w:=by
 unfold qd at H;refine ke func198 73 rfl λj=>ks<|kN h (#[Z O.aS,Z O.dc,Z O.bD,aW bl O.aq.length bO]) 99 λb1 w h=>bS<|G<|λ_ r=>wp_scope_straight<|qq r<|aL [U]<|kN h (#[Z 0,Z 0]) 255 λb2 w h=>kA h (gG b2 #[Z 0,Z 1] 255) λw h=>G<|ks<|λ_ r=>RZ (wn rfl) rfl rfl r rfl dP dP h λb3 w _ h r=>qq r<|kM (h.pick 1)<|bS<|λ_ r=>R0 (t:=252) (et:=255) (wn rfl) rfl r (Or.inr rfl) bp sw B9 bp bp bp Jh rfl h λw h=>qq r<|ko dm<|G<|ks<|kM (h.pick 1)<|kV h (#[Z 0,Z 1]) 255 λb4 w h=>?_;replace h:=Fit.Bl (n:=1) (l:=[sw]) (by rfl) (by rfl) nH eF h;refine bS<|G<|wq<|λ_ r=>wp_label<|qq r<|tn<|wq<|wb<|qh h.Ov λh=>?_;have hn8:1=([sw]).length:=h.R7;replace h:=Fit.F2 hn8 (λq_=>Ck 255 2 dP (aW (some ⟨b4,0,none⟩) q_ 1) ([sw])) h;intro _ r;replace r:=r.re 9 (mX (λq_=>Value.slice (some ⟨b4,0,none⟩) q_ 1) hn8);refine dO (β:=Nat) id (λm a w=>∃DB:fO,∃cc7:Nat,∃l5:List (aQ×aQ),∃l8:List aQ,(kG K O Y m l5 l8)=some r0/\∃j,kI 73 (lk [(1,Z Y),(2,.func (.func 199) #[] #[]),(3,pA b1 0),(8,.map (some b3)),(9,aW DB l8.length cc7)] j) a/\Fit z (aB (qB b1 O bl bO::mapOf dP dP b3 l5::Ck 255 2 dP (aW DB l8.length cc7) l8::L)) w) K ⟨(some ⟨b4,0,none⟩),1,(([]:List (aQ×aQ))++[(sw,B9)]),([sw]),H,r.fj (h.se 4 [3,1,0])⟩<|?_;clear h r H;rintro k1 a w ⟨DB,cc7,l5,l8,H,j,r,h⟩;cases k1 with
 | zero=>exact absurd H (by simp[kG])
 | succ k1 =>
  rw[kG]at H;refine qq r<|wq<|aL [U,Z ((l8.length:Nat):Int),dx (((l8.length:Nat):Int)>0)]<|G<|eB H (λod H=>?_) λod H=>?_
  ·refine gw<|wb<|ks<|qg H λuS H=>bS<|kp (pA (dW DB) (j6 DB+0*2)) (ac3 (i:=(0:Int)) (k:=.i64) (E:=255) rfl bp bp bp bp (h.pick 2) uS)<|xm (vx (J l8 0)) (cs:=EP (J l8 0)) ⟨(h.pick 2).KY nH (f:=0) (aT uS) rfl,(h.pick 2).KY nH (f:=1) (aT uS) rfl,cz⟩<|?_;refine kN h (#[Z 0,Z 0]) 255 λsX w h=>kA h (Ox sX (J l8 0)) λw h=>G<|ks<|qg H λyz H=>qg H λwX H=>bS<|qh h.m3 λh=>λ_ r=>UN (k:=.i64) (wn rfl) rfl rfl r rfl bp bp (E:=255) bp bp nH h yz wX λCq adb a h r =>qq r<|bS<|G<|wq<|aL [U]<|kM (h.pick 1)<|gy H λBz C1 H=>fD (DX C1 h :) λw h=>G<|ED H (λsW H=>?_) λsW H=>?_
   ·refine wx<|te<|λ_ r=>DH eF<|qq r<|te<|bh<|tn<|aL dm<|cu<|λ_ r=>RX<|qq r<|?_;cases H;exact xy1 b3 (h.se 4 [3])
   refine gw<|wq<|qg H λlO H=>gy H λzM M4 H=>nK [(b1,3,[aW bl O.aq.length bO]),(sX,0,[Z (J l8 0).J]),(dW bl,j6 bl+(J l8 0).J.toNat*5,gK (J O.aq (J l8 0).J.toNat)),(sX,1,[Z (J l8 0).state])] [0,2,4,7] 11 h (λh=>⟨⟨(h.pick 2).cell 3 rfl,cz⟩,⟨(h.pick 1).cell 0 rfl,cz⟩,⟨cE.cell lO (h.dn 4) 0 rfl,cE.cell lO (h.dn 4) 1 rfl,cE.cell lO (h.dn 4) 2 rfl,cE.cell lO (h.dn 4) 3 rfl,cE.cell lO (h.dn 4) 4 rfl,cz⟩,⟨(h.pick 1).cell 1 rfl,cz⟩,cz⟩) λw h hd =>nl hd 7 [(0,35,pA b1 3),(2,37,pA sX 0),(6,41,Z Y),(7,42,pA sX 1)]<|fW hd 0 6 1 rfl<|fW hd 1 5 3 rfl<|oK hd 4 4 rfl (pA (dW bl) (j6 bl+(J l8 0).J.toNat*5)) (λw=>EU 146 bO rfl rfl cE lO)<|wD hd 2 3 5 rfl rfl<|fW hd 3 2 8 rfl<|lI 9 rfl<|fD (Gj M4 h :) λw h=>G<|mM<|iN 0 10 rfl (Z zM)<|nJ<|tn<|ks<|kM (h.pick 2)<|bS<|kL (h.pick 1) 0<|gy H λqZ UO H=>Wn (Gk (bl:=bl) (bO:=bO) (cE:=(bE.up 4 cE)) (uq:=bE.up 4 uq) UO h :) λD0 IC w h=>ko [Z ((qZ.length:Nat):Int),U]<|G<|qd2 H λo32 H ade=>λ_ r=>qY (λa w=>∃UW:fO,∃UX:Nat,∃OB:List (aQ×aQ),∃EW:List aQ,(OB,EW)=o32/\∃j,kI 73 (lk [(1,Z Y),(2,.func (.func 199) #[] #[]),(3,pA b1 0),(8,.map (some b3)),(9,aW UW EW.length UX)] j) a/\Fit z (aB (qB b1 O bl bO::mapOf dP dP b3 OB::Ck 255 2 dP (aW UW EW.length UX) EW::L)) w) ?_ ?_
   ·refine qq r<|wb<|λ_ r=>dO (β:=Nat) id (λm a w=>∃Jk:fO,∃Le:Nat,∃M2:List (aQ×aQ),∃M3:List aQ,∃nL:Int,(jt K l8 zM qZ m M2 M3 nL)=some o32/\∃j,kI 73 (lk [(1,Z Y),(2,.func (.func 199) #[] #[]),(3,pA b1 0),(8,.map (some b3)),(9,aW Jk M3.length Le),(10,pA sX 0),(11,Z zM),(48,aW D0 qZ.length IC),(49,Z ((qZ.length:Nat):Int)),(50,Z nL)] j) a/\Fit z (aB (qB b1 O bl bO::mapOf dP dP b3 M2::Ck 255 2 dP (aW Jk M3.length Le) M3::Ox sX (J l8 0)::xh D0 IC qZ::L)) w) K ⟨Cq,adb,l5,(l8.drop 1),0,H,r.fj (h.se 5 [3,4,1,2,0])⟩<|?_;clear h r H;rintro k2 a w ⟨Jk,Le,M2,M3,nL,H,j,r,h⟩;cases k2 with
    | zero=>exact absurd H (by simp[jt])
    | succ k2 =>
     rw[jt]at H;refine qq r<|aL [dx (nL<((qZ.length:Nat):Int))]<|G<|wq<|eB H (λKd H=>?_) λKd H=>?_
     ·refine gw<|wq<|wb<|ks<|qg H λCF H=>ki (h.pick 4) CF<|xl (Z (J qZ nL.toNat)) ((h.pick 4).bL aO (f:=0) (aT CF) rfl)<|?_;refine bS<|G<|aL lJ<|kN h (#[Z 0,Z 0]) 255 λb40 w h=>kA h (gG b40 #[Z (J qZ nL.toNat),Z zM] 255) λw h=>G<|wq<|aL [U]<|kM h<|λ_ r=>UI (et:=255) (wn rfl) rfl rfl r rfl bp (⟨(J qZ nL.toNat),zM⟩:aQ) bp bp Jh (v0:=xM) bp (h.pick 2)<|?_;refine ko [.tuple #[vx ((wV M2 (⟨(J qZ nL.toNat),zM⟩:aQ)).getD xM),vB (wV M2 (⟨(J qZ nL.toNat),zM⟩:aQ)).isSome],U,U]<|kN h (#[Z 0,Z 0]) 255 λb41 w h=>kA h (Ox b41 ((wV M2 (⟨(J qZ nL.toNat),zM⟩:aQ)).getD xM)) λw h=>bS<|G<|iq<|ED H (λBB H=>?_) λBB H=>?_
      ·refine wx<|te<|bh<|tn<|wl<|ko [Z (wi (nL+1)),Z (wi (nL+1))]<|G<|?_;exact λ_ r=>⟨_,⟨Jk,Le,M2,M3,(wi (nL+1)),H,r.fj (h.se 7 [2,3,4,5,6])⟩,gU _⟩
      refine gw<|aL [U]<|kM (h.pick 1)<|kM (h.pick 5)<|qh h.m3 λh=>qg H λP4 H=>λ_ r=>R0 (t:=252) (et:=255) (wn rfl) rfl r (Or.inl rfl) bp (⟨(J qZ nL.toNat),zM⟩:aQ) (J l8 0) bp bp bp Jh P4 h λw h=>qq r<|G<|wl<|bS<|kM (h.pick 2)<|kV h (#[Z (J qZ nL.toNat),Z zM]) 255 λOD w h=>qh h.m5 λh=>qg H λOE H=>λ_ r=>KZ (n0:=M3.length) (c:=1) (bytes:=16) (wn rfl) rfl rfl r rfl bp bp nH (E:=255) (xs:=M3) bp bp h (news:=[(⟨(J qZ nL.toNat),zM⟩:aQ)]) (m:=1) rfl ((h.pick 1).news rfl) OE rfl λM5 M6 w _ h r=>qq r<|bS<|kl<|bn<|tn<|wl<|ko [Z (wi (nL+1)),Z (wi (nL+1))]<|G<|?_;exact λ_ r=>⟨_,⟨M5,M6,(M2++[((⟨(J qZ nL.toNat),zM⟩:aQ),J l8 0)]),(M3++[(⟨(J qZ nL.toNat),zM⟩:aQ)]),(wi (nL+1)),H,r.fj (h.se 8 [5,2,0,6,7])⟩,gU _⟩
     refine wx<|te<|te<|bh<|tn<|?_;exact λ_ r=>⟨Jk,Le,M2,M3,gM H,r.fj (h.se 5 [0,1,2])⟩
   clear h r;rintro a w ⟨UW,UX,OB,EW,rfl,j,r,h⟩;replace H:=kk2 ade;refine qq r<|bn<|tn<|?_;exact λ_ r=>⟨_,⟨UW,UX,OB,EW,H,r.fj h⟩,gU _⟩
  refine wx<|te<|te<|bh<|tn<|aL dm<|cu<|λ_ r=>RX<|qq r<|?_;cases H;exact xy1 b3 (h.se 3 [1])
def og(K:Nat)(O:aC):Nat->(List (List Int))->Int->Option ((List (List Int)))
 | 0,_,_=>none
 | k1+1,l7,g8=>(if g8<(((List.replicate O.aq.length ([]:List Int)).length:Nat):Int)then if 0<=O.bD/\O.bD*8<=140737488355328 then if bG g8 l7.length then(og K O k1 (l7.set g8.toNat (List.replicate O.bD.toNat (0:Int))) (wi (g8+1)))else none else none else some l7)
def oh(K:Nat)(dD:Int)(wG:(aQ×aQ)):(List (List Int))->Option ((List (List Int)))
 | y9=>if bG wG.1.J y9.length then if bG dD (J y9 wG.1.J.toNat).length then some (y9.set wG.1.J.toNat ((J y9 wG.1.J.toNat).set dD.toNat (Q9 (J (J y9 wG.1.J.toNat) dD.toNat) wG.1.state)))else none else none
def oq(K:Nat)(O:aC):Nat->(List (List Int))->Int->Option ((List (List Int)))
 | 0,_,_=>none
 | k2+1,uo,dD=>(if dD<O.bD then eV (eV (qd K O dD) (λqZ=>(eV (u6 (oh K dD) uo qZ) (λy9=>some y9)))) (λyd=>(oq K O k2 yd (wi (dD+1))))else some uo)
def vh(K:Nat)(O:aC):Option ((List (List Int))):=
 if 0<=((O.aq.length:Nat):Int)/\((O.aq.length:Nat):Int)*24<=140737488355328 then eV ((og K O K (List.replicate O.aq.length ([]:List Int)) 0)) (λl4=>(oq K O K l4 0))else none
theorem AK(H:vh K O=some r0)(h:jb z (L) w)(cE:bE L 5 cL bl O.aq)(uq:bE L 5 gF (some ⟨1,0,none⟩) wS) :
 Calls Tryz.prog 170 #[oQ #[Z O.aS,Z O.dc,Z O.bD,aW bl O.aq.length bO]] w λe w=>∃y1 y2,e=.returned (aW y1 r0.length y2)/\Fit z (aB (Je y1 y2 r0::L)) w:=by
 unfold vh at H;refine ke func170 50 rfl λj=>ks<|kN h (#[Z O.aS,Z O.dc,Z O.bD,aW bl O.aq.length bO]) 99 λb1 w h=>bS<|G<|aL [U]<|kL h 3<|qg H λc2 H=>ko [Z ((O.aq.length:Nat):Int)]<|λ_ r=>CP (own:=jG) (i:=((O.aq.length:Nat):Int)) (bytes:=24) (zc:=#[aW none 0 0]) ([]:List Int) (wn rfl) rfl rfl r rfl bp bp c2 rfl (by simp[Value.oneCell']) eF (E:=28) bp bp rfl (λh=>iC (x:=([]:List Int)) (tj:=none) (tu:=0) (h.fU)) h λji w _ h r=>qq r<|bS<|G<|DM H λo6 H hK5=>λ_ r=>cW (β:=Unit) (λ_ a w=>∃l4:List (List Int),l4=o6/\∃j,kI 50 (lk [(1,pA b1 0),(3,aW ji (List.replicate O.aq.length ([]:List Int)).length O.aq.length)] j) a/\Fit z (aB (qB b1 O bl bO::su 28 1 jG (aW ji (List.replicate O.aq.length ([]:List Int)).length O.aq.length) l4::L)) w) ?_ ?_
 ·refine qq r<|aL [U,Z (((List.replicate O.aq.length ([]:List Int)).length:Nat):Int),U]<|G<|wb<|λ_ r=>dO (β:=Nat) id (λm a w=>∃l7:List (List Int),∃g8:Int,(og K O m l7 g8)=some o6/\∃j,kI 50 (lk [(1,pA b1 0),(3,aW ji (List.replicate O.aq.length ([]:List Int)).length O.aq.length),(12,Z (((List.replicate O.aq.length ([]:List Int)).length:Nat):Int)),(13,Z g8)] j) a/\Fit z (aB (qB b1 O bl bO::su 28 1 jG (aW ji (List.replicate O.aq.length ([]:List Int)).length O.aq.length) l7::L)) w) K ⟨(List.replicate O.aq.length ([]:List Int)),0,H,r.fj (h.se 2 [1,0])⟩<|?_;clear h r H;rintro k1 a w ⟨l7,g8,H,j,r,h⟩;cases k1 with
  | zero=>exact absurd H (by simp[og])
  | succ k1 =>
   rw[og]at H;refine qq r<|aL [dx (g8<(((List.replicate O.aq.length ([]:List Int)).length:Nat):Int))]<|G<|wq<|eB H (λc9 H=>?_) λc9 H=>?_
   ·refine gw<|wq<|wb<|aL dm<|G<|wl<|ko lJ<|kL h 2<|qg H λod H=>λ_ r=>oX (i:=O.bD) (bytes:=8) (zc:=#[Z 0]) (0:Int) (wn rfl) rfl rfl r rfl bp bp od aO (E:=3) bp bp rfl rfl h λaU w _ h r=>qq r<|qg H λCE H=>kp (mg ji g8 1) (Fo (k:=.i64) (E:=28) rfl bp bp bp bp (h.pick 2) CE)<|?_;obtain⟨ae3,h⟩:=h.m2.me (aT CE);obtain⟨nh,sV,Jm,h⟩:=ng (h.m1);subst Jm;refine qh h.m1 λh=>λ_ r=>B3 (wn rfl) rfl r rfl bp bp (v:=aW aU (List.replicate O.bD.toNat (0:Int)).length O.bD.toNat) rfl rfl bp bp h (i:=g8.toNat) (f:=0) eF λw h=>qq r<|kl<|bn<|tn<|wl<|ko [Z (wi (g8+1)),Z (wi (g8+1))]<|G<|qh h.m2 λh=>?_;replace h:=iC (x:=(List.replicate O.bD.toNat (0:Int))) h;replace h:=(h.m1).yu;exact λ_ r=>⟨_,⟨(l7.set g8.toNat (List.replicate O.bD.toNat (0:Int))),(wi (g8+1)),H,r.fj (h.se 3 [2,0])⟩,gU _⟩
   refine wx<|te<|te<|bh<|tn<|?_;exact λ_ r=>⟨(),l7,gM H,r.fj h⟩
 clear h r;rintro _ a w ⟨l4,rfl,j,r,h⟩;replace H:=DJ hK5;refine qq r<|wq<|aL [U]<|kL h 2<|bS<|G<|wb<|λ_ r=>dO (β:=Nat) id (λm a w=>∃uo:List (List Int),∃dD:Int,(oq K O m uo dD)=some r0/\∃j,kI 50 (lk [(1,pA b1 0),(3,aW ji (List.replicate O.aq.length ([]:List Int)).length O.aq.length),(24,Z O.bD),(25,Z dD)] j) a/\Fit z (aB (qB b1 O bl bO::su 28 1 jG (aW ji (List.replicate O.aq.length ([]:List Int)).length O.aq.length) uo::L)) w) K ⟨l4,0,H,r.fj h⟩<|?_;clear h r H;rintro k2 a w ⟨uo,dD,H,j,r,h⟩;cases k2 with
 | zero=>exact absurd H (by simp[oq])
 | succ k2 =>
  rw[oq]at H;refine qq r<|aL [dx (dD<O.bD)]<|G<|wq<|eB H (λsW H=>?_) λsW H=>?_
  ·refine gw<|DM H λo22 H adf=>λ_ r=>cW (β:=Unit) (λ_ a w=>∃yd:List (List Int),yd=o22/\∃j,kI 50 (lk [(1,pA b1 0),(3,aW ji (List.replicate O.aq.length ([]:List Int)).length O.aq.length),(24,Z O.bD),(25,Z dD)] j) a/\Fit z (aB (qB b1 O bl bO::su 28 1 jG (aW ji (List.replicate O.aq.length ([]:List Int)).length O.aq.length) yd::L)) w) ?_ ?_
   ·refine qq r<|wb<|aL dm<|G<|ks<|kM h<|gy H λqZ UO H=>bS<|ZA (BA (bl:=bl) (bO:=bO) (cE:=(bE.up 2 cE)) (uq:=bE.up 2 uq) UO h :) λaaT w h=>λ_ r=>R3 (kt:=255) (et:=255) (wn rfl) rfl rfl r rfl bp bp h λb26 w _ h r=>qq r<|G<|wb<|gy H λRc Lm H=>λ_ r=>MT qZ (oh K dD) uo (λaaU s_ a w=>∃y9:List (List Int),y9=s_/\∃j,kI 50 (lk [(1,pA b1 0),(3,aW ji (List.replicate O.aq.length ([]:List Int)).length O.aq.length),(5,Z dD),(24,Z O.bD),(25,Z dD),(31,pA b26 0)] j) a/\Fit z (aB (qB b1 O bl bO::su 28 1 jG (aW ji (List.replicate O.aq.length ([]:List Int)).length O.aq.length) y9::F9 b26 aaT qZ.length aaU::mapOf dP dP aaT qZ::L)) w) ⟨uo,rfl,r.fj (h.se 4 [2,3,0,1])⟩<|?_;clear h r;rintro aaU _ a w hs_ ⟨y9,rfl,j,r,h⟩;refine qq r<|ks<|qh h.m3.m3 λh=>λ_ r=>UJ (wn rfl) rfl rfl r rfl bp rfl h ?_ ?_
    ·clear r;intro aaV a r;have e_:=hs_.done Lm aaV;subst e_;refine qq r<|bS<|G<|wq<|λ_ r=>iO r (b:=false) rfl<|qq r<|wx<|te<|te<|bh<|bn<|tn<|?_;exact λ_ r=>⟨(),y9,gM H,r.fj (h.se 4 [2,3])⟩
    clear r h;intro ae4 wG w a hx_ hi_ h r;obtain⟨s1_,Hs_,hp_⟩:=hs_.push Lm hx_ hi_;clear H;have H:=Hs_;rw[oh]at H;refine qq r<|bS<|G<|wq<|λ_ r=>fV r (b:=true) rfl<|qq r<|gw<|wb<|ks<|λ_ r=>R4 (wn rfl) rfl rfl r rfl bp rfl h hx_<|?_;refine bS<|kN h (#[Z 0,Z 0]) 255 λJn w h=>kA h (Ox Jn wG.1) λw h=>G<|qg H λDS H=>?_;obtain⟨ae5,h⟩:=h.m4.me (aT DS);obtain⟨Sm,aaW,P0,h⟩:=ng (h.m1);subst P0;refine qg H λCF H=>nK [(Jn,0,[Z wG.1.J]),(dW ji,wG.1.J.toNat*1,[aW Sm (J y9 wG.1.J.toNat).length aaW]),(dW Sm,dD.toNat*1,[Z (J (J y9 wG.1.J.toNat) dD.toNat)]),(Jn,1,[Z wG.1.state])] [1,3,6,8] 13 h (λh=>⟨⟨(h.pick 2).cell 0 rfl,cz⟩,⟨(h.pick 1).oP eF (f:=0) rfl,cz⟩,⟨h.bL aO (f:=0) (aT CF) rfl,cz⟩,⟨(h.pick 2).cell 1 rfl,cz⟩,cz⟩) λw h hd =>nl hd 9 [(0,36,aW ji (List.replicate O.aq.length ([]:List Int)).length O.aq.length),(1,37,pA Jn 0),(5,41,Z dD),(8,44,pA Jn 1)]<|fW hd 0 8 2 rfl<|oK hd 7 3 rfl (pA (dW ji) (wG.1.J.toNat*1)) (λw=>vR (k:=.i64) (E:=28) rfl bp bp bp bp (h.pick 1) DS)<|fW hd 1 6 4 rfl<|oK hd 5 6 rfl (mg Sm dD 1) (λw=>tH 3 rfl h CF)<|fW hd 2 4 7 rfl<|fW hd 3 3 9 rfl<|oK hd 2 10 rfl (Z (Q9 (J (J y9 wG.1.J.toNat) dD.toNat) wG.1.state)) (λw=>ror rfl bp bp)<|oK hd 1 11 rfl (mg Sm dD 1) (λw=>tH 3 rfl h CF)<|λ_ r=>lM 12 rfl<|EN (wn rfl) r aO h dD.toNat 0 (Z (Q9 (J (J y9 wG.1.J.toNat) dD.toNat) wG.1.state)) (J (J y9 wG.1.J.toNat) dD.toNat) (Q9 (J (J y9 wG.1.J.toNat) dD.toNat) wG.1.state) (aT CF) λw h=>qq r<|G<|mM<|nJ<|bn<|tn<|?_;replace h:=h.Oj (λq_=>As 28 1 jG (aW ji (List.replicate O.aq.length ([]:List Int)).length O.aq.length) y9 wG.1.J.toNat [aW Sm q_ aaW]);replace h:=iC (x:=((J y9 wG.1.J.toNat).set dD.toNat (Q9 (J (J y9 wG.1.J.toNat) dD.toNat) wG.1.state))) h;replace h:=(h.m1).yu;exact λ_ r=>⟨_,_,hp_,(y9.set wG.1.J.toNat ((J y9 wG.1.J.toNat).set dD.toNat (Q9 (J (J y9 wG.1.J.toNat) dD.toNat) wG.1.state))),gM H,r.fj (h.se 5 [4,0,2,3])⟩
   clear h r;rintro _ a w ⟨yd,rfl,j,r,h⟩;replace H:=DJ adf;refine qq r<|wl<|ko [Z (wi (dD+1)),Z (wi (dD+1))]<|G<|?_;exact λ_ r=>⟨_,⟨yd,(wi (dD+1)),H,r.fj h⟩,gU _⟩
  refine wx<|te<|te<|bh<|tn<|aL dm<|cu<|λ_ r=>qD (aW ji (List.replicate O.aq.length ([]:List Int)).length O.aq.length) rfl r<|qh h.m1 λh=>?_;have Sl:(List.replicate O.aq.length ([]:List Int)).length=uo.length:=h.MO;replace h:=Fit.F2 Sl (λq_=>su 28 1 jG (aW ji q_ O.aq.length) uo) h;cases H;exact⟨ji,O.aq.length,(by first | rfl | simp only[Sl]),h.se 2 [0]⟩
def jl(K:Nat)(r2:List (List Int))(g6:Int):Nat->Int->Int->Option (Int)
 | 0,_,_=>none
 | k2+1,nL,BC=>(if BC<(((J r2 g6.toNat).length:Nat):Int)then if bG BC (J r2 g6.toNat).length then(if(iI (J (J r2 g6.toNat) BC.toNat) (2:Int))=0 then(jl K r2 g6 k2 nL (wi (BC+1)))else(jl K r2 g6 k2 56 (wi (BC+1))))else none else some nL)
def kX(K:Nat)(O:Int)(Y:aC)(r2:List (List Int)):Nat->Int->Option ((Unit)⊕mN)
 | 0,_=>none
 | k1+1,g6=>(if g6<((Y.aq.length:Nat):Int)then xF (if bG g6 Y.aq.length then eV ((if(J Y.aq g6.toNat).aE=5 then if bG g6 r2.length then if bG (J Y.aq g6.toNat).A (J r2 g6.toNat).length then(if(iI (J (J r2 g6.toNat) (J Y.aq g6.toNat).A.toNat) (2:Int))=0 then some 0 else some 54)else none else none else(if(J Y.aq g6.toNat).aE=7 then if bG g6 r2.length then if bG (J Y.aq g6.toNat).B (J r2 g6.toNat).length then(if(iI (J (J r2 g6.toNat) (J Y.aq g6.toNat).B.toNat) (3:Int))=0 then some 0 else some 55)else none else none else(if(J Y.aq g6.toNat).aE=9 then if bG g6 r2.length then(jl K r2 g6 K 0 0)else none else some 0)))) (λpo=>(if po=0 then some (.inl ())else some (.inr (.inr (⟨po,O,g6⟩:mN)))))else none) ((kX K O Y r2 k1 (wi (g6+1))))else some (.inl ()))
def uJ(K:Nat)(O:Int)(Y:aC):Option ((Unit)⊕mN):=
 eV (vh K Y) (λr2=>(kX K O Y r2 K 0))
abbrev u6_:List Value:=[U,U,U,U,U,U]
theorem Gl{K:Nat}{O:Int}{Y:aC}{de:fO}{di:Nat}(H:uJ K O Y=some (.inl ()))(h:jb z (L) w)(eN:bE L 5 cL de Y.aq)(uq:bE L 5 gF (some ⟨1,0,none⟩) wS) :
 nR 116 #[Z O,oQ #[Z Y.aS,Z Y.dc,Z Y.bD,aW de Y.aq.length di]] w z (.tuple #[]) (L):=by
 unfold uJ at H;refine ke func116 70 rfl λj=>ks<|kN h (#[Z Y.aS,Z Y.dc,Z Y.bD,aW de Y.aq.length di]) 99 λb1 w h=>G<|ks<|kM h<|gy H λr2 e3 H=>Wn (AK (bl:=de) (bO:=di) (cE:=(bE.up 1 eN)) (uq:=bE.up 1 uq) e3 h :) λx4 x5 w h=>bS<|G<|aL [U]<|kL (h.pick 1) 3<|ko [Z ((Y.aq.length:Nat):Int),U]<|G<|wb<|λ_ r=>dO (β:=Nat) id (λm a w=>∃g6:Int,(kX K O Y r2 m g6)=some (.inl ())/\∃j,kI 70 (lk [(0,Z O),(4,aW x4 r2.length x5),(13,aW de Y.aq.length di),(14,Z ((Y.aq.length:Nat):Int)),(15,Z g6)] j) a/\Fit z (aB (Je x4 x5 r2::L)) w) K ⟨0,H,r.fj (h.se 2 [0])⟩<|?_;clear h r H;rintro k1 a w ⟨g6,H,j,r,h⟩;cases k1 with
 | zero=>exact absurd H (by simp[kX])
 | succ k1 =>
  rw[kX]at H;refine qq r<|aL [dx (g6<((Y.aq.length:Nat):Int))]<|G<|wq<|eB H (λc7 H=>?_) λc7 H=>?_
  ·refine gw<|?_;obtain⟨o9,H,K7⟩:=Dx H;refine λ_ r=>cW (β:=Unit) (λ_ a w=>.inl ()=o9/\∃j,kI 70 (lk [(0,Z O),(4,aW x4 r2.length x5),(13,aW de Y.aq.length di),(14,Z ((Y.aq.length:Nat):Int)),(15,Z g6)] j) a/\Fit z (aB (Je x4 x5 r2::L)) w) ?_ ?_
   ·refine qq r<|wb<|ks<|qg H λod H=>bS<|kj 146 di eN od<|xm (iJ (J Y.aq g6.toNat)) (cs:=gK (J Y.aq g6.toNat)) ⟨eN.cell od (h.dn 1) 0 rfl,eN.cell od (h.dn 1) 1 rfl,eN.cell od (h.dn 1) 2 rfl,eN.cell od (h.dn 1) 3 rfl,eN.cell od (h.dn 1) 4 rfl,cz⟩<|?_;refine kN h (K8) 146 λMY w h=>bS<|kA h (wF MY (J Y.aq g6.toNat)) λw h=>G<|iq<|DM H λo14 H XN=>λ_ r=>cW (β:=Unit) (λ_ a w=>∃po:Int,po=o14/\∃j,kI 70 (lk [(0,Z O),(4,aW x4 r2.length x5),(5,Z g6),(7,Z po),(13,aW de Y.aq.length di),(14,Z ((Y.aq.length:Nat):Int)),(15,Z g6)] j) a/\Fit z (aB (Je x4 x5 r2::L)) w) ?_ ?_
    ·refine qq r<|aL [U]<|kL h 0<|G<|wb<|aL [vB ((J Y.aq g6.toNat).aE==5),vB ((J Y.aq g6.toNat).aE==5)]<|G<|eB H (λpU H=>?_) λpU H=>?_
     ·refine wq<|qg H λwY H=>?_;obtain⟨aaX,h⟩:=h.m1.me (aT wY);obtain⟨D1,M7,IB,h⟩:=ng (h.m1);subst IB;refine qg H λsv H=>nK [(dW x4,g6.toNat*1,[aW D1 (J r2 g6.toNat).length M7]),(MY,1,[Z (J Y.aq g6.toNat).A]),(dW D1,(J Y.aq g6.toNat).A.toNat*1,[Z (J (J r2 g6.toNat) (J Y.aq g6.toNat).A.toNat)])] [2,4,6] 10 h (λh=>⟨⟨(h.pick 1).oP eF (f:=0) rfl,cz⟩,⟨(h.pick 2).cell 1 rfl,cz⟩,⟨h.bL aO (f:=0) (aT sv) rfl,cz⟩,cz⟩) λw h hd =>nl hd 8 [(0,24,aW x4 r2.length x5),(1,25,Z g6)]<|oK hd 7 2 rfl (mg x4 g6 1) (λw=>vR (k:=.i64) (E:=28) rfl bp bp bp bp (h.pick 1) wY)<|nl hd 6 [(4,28,pA MY 1)]<|fW hd 0 5 3 rfl<|fW hd 1 4 5 rfl<|oK hd 3 6 rfl (pA (dW D1) ((J Y.aq g6.toNat).A.toNat*1)) (λw=>tH 3 rfl h sv)<|fW hd 2 2 7 rfl<|oK hd 1 8 rfl (Z (iI (J (J r2 g6.toNat) (J Y.aq g6.toNat).A.toNat) (2:Int))) (λw=>rand rfl bp bp)<|nl hd 0 [(9,33,vB ((iI (J (J r2 g6.toNat) (J Y.aq g6.toNat).A.toNat) (2:Int)) != 0))]<|nJ<|tn<|qx H (λC0 H=>?_) λC0 H=>?_
      ·refine wk<|bn<|tn<|?_;replace h:=iC (x:=(J r2 g6.toNat)) h;replace h:=(h.m1).ig;exact λ_ r=>⟨(),0,gM H,r.fj (h.se 2 [0])⟩
      refine wl<|bS<|kl<|bn<|tn<|?_;replace h:=iC (x:=(J r2 g6.toNat)) h;replace h:=(h.m1).ig;exact λ_ r=>⟨(),54,gM H,r.fj (h.se 2 [0])⟩
     refine aL [vB ((J Y.aq g6.toNat).aE==7),vB ((J Y.aq g6.toNat).aE==7)]<|G<|eB H (λw4 H=>?_) λw4 H=>?_
     ·refine wq<|qg H λxN H=>?_;obtain⟨adg,h⟩:=h.m1.me (aT xN);obtain⟨yA,Bv,P2,h⟩:=ng (h.m1);subst P2;refine qg H λB8 H=>nK [(dW x4,g6.toNat*1,[aW yA (J r2 g6.toNat).length Bv]),(MY,2,[Z (J Y.aq g6.toNat).B]),(dW yA,(J Y.aq g6.toNat).B.toNat*1,[Z (J (J r2 g6.toNat) (J Y.aq g6.toNat).B.toNat)])] [2,4,6] 10 h (λh=>⟨⟨(h.pick 1).oP eF (f:=0) rfl,cz⟩,⟨(h.pick 2).cell 2 rfl,cz⟩,⟨h.bL aO (f:=0) (aT B8) rfl,cz⟩,cz⟩) λw h hd =>nl hd 8 [(0,36,aW x4 r2.length x5),(1,37,Z g6)]<|oK hd 7 2 rfl (mg x4 g6 1) (λw=>vR (k:=.i64) (E:=28) rfl bp bp bp bp (h.pick 1) xN)<|nl hd 6 [(4,40,pA MY 2)]<|fW hd 0 5 3 rfl<|fW hd 1 4 5 rfl<|oK hd 3 6 rfl (pA (dW yA) ((J Y.aq g6.toNat).B.toNat*1)) (λw=>tH 3 rfl h B8)<|fW hd 2 2 7 rfl<|oK hd 1 8 rfl (Z (iI (J (J r2 g6.toNat) (J Y.aq g6.toNat).B.toNat) (3:Int))) (λw=>rand rfl bp bp)<|nl hd 0 [(9,45,vB ((iI (J (J r2 g6.toNat) (J Y.aq g6.toNat).B.toNat) (3:Int)) != 0))]<|nJ<|tn<|qx H (λtd H=>?_) λtd H=>?_
      ·refine wk<|bn<|tn<|?_;replace h:=iC (x:=(J r2 g6.toNat)) h;replace h:=(h.m1).ig;exact λ_ r=>⟨(),0,gM H,r.fj (h.se 2 [0])⟩
      refine wl<|bS<|kl<|bn<|tn<|?_;replace h:=iC (x:=(J r2 g6.toNat)) h;replace h:=(h.m1).ig;exact λ_ r=>⟨(),55,gM H,r.fj (h.se 2 [0])⟩
     refine aL [vB ((J Y.aq g6.toNat).aE==9),vB ((J Y.aq g6.toNat).aE==9)]<|G<|eB H (λuT H=>?_) λuT H=>?_
     ·refine ks<|qg H λGf H=>ko dm<|kp (mg x4 g6 1) (Fo (k:=.i64) (E:=28) rfl bp bp bp bp (h.pick 1) Gf)<|?_;obtain⟨adh,h⟩:=h.m1.me (aT Gf);obtain⟨E4,E5,Jj,h⟩:=ng (h.m1);subst Jj;refine xl (aW E4 (J r2 g6.toNat).length E5) ((h.pick 1).oP eF (f:=0) rfl)<|?_;refine ko [Z (((J r2 g6.toNat).length:Nat):Int),U]<|G<|wb<|λ_ r=>dO (β:=Nat) id (λm a w=>∃nL:Int,∃BC:Int,(jl K r2 g6 m nL BC)=some o14/\∃j,kI 70 (lk [(0,Z O),(4,aW x4 r2.length x5),(5,Z g6),(7,Z nL),(13,aW de Y.aq.length di),(14,Z ((Y.aq.length:Nat):Int)),(15,Z g6),(51,aW E4 (J r2 g6.toNat).length E5),(52,Z (((J r2 g6.toNat).length:Nat):Int)),(53,Z BC)] j) a/\Fit z (aB (As 28 1 jG (aW x4 r2.length x5) r2 g6.toNat [aW E4 (J r2 g6.toNat).length E5]::xh E4 E5 (J r2 g6.toNat)::L)) w) K ⟨0,0,H,r.fj (h.se 3 [1,0])⟩<|?_;clear h r H;rintro k2 a w ⟨nL,BC,H,j,r,h⟩;cases k2 with
      | zero=>exact absurd H (by simp[jl])
      | succ k2 =>
       rw[jl]at H;refine qq r<|aL [dx (BC<(((J r2 g6.toNat).length:Nat):Int))]<|G<|wq<|eB H (λCF H=>?_) λCF H=>?_
       ·refine gw<|wq<|wb<|ks<|qg H λDC H=>ki (h.pick 1) DC<|xl (Z (J (J r2 g6.toNat) BC.toNat)) ((h.pick 1).bL aO (f:=0) (aT DC) rfl)<|?_;refine bS<|G<|aL [U]<|kp (Z (iI (J (J r2 g6.toNat) BC.toNat) (2:Int))) (rand rfl bp bp)<|ko [vB ((iI (J (J r2 g6.toNat) BC.toNat) (2:Int)) != 0)]<|G<|qx H (λxK H=>?_) λxK H=>?_
        ·refine wk<|bn<|tn<|wl<|ko [Z (wi (BC+1)),Z (wi (BC+1))]<|G<|?_;exact λ_ r=>⟨_,⟨nL,(wi (BC+1)),H,r.fj h⟩,gU _⟩
        refine wl<|bS<|kl<|bn<|tn<|wl<|ko [Z (wi (BC+1)),Z (wi (BC+1))]<|G<|?_;exact λ_ r=>⟨_,⟨56,(wi (BC+1)),H,r.fj h⟩,gU _⟩
       refine wx<|te<|te<|bh<|bn<|tn<|qh h.m1 λh=>?_;replace h:=iC (x:=(J r2 g6.toNat)) h;replace h:=(h.m1).ig;exact λ_ r=>⟨(),nL,gM H,r.fj h⟩
     refine wk<|bn<|tn<|?_;exact λ_ r=>⟨(),0,gM H,r.fj (h.se 2 [1])⟩
    clear h r;rintro _ a w ⟨po,rfl,j,r,h⟩;replace H:=DJ XN;refine qq r<|aL [U,vB (po != 0)]<|G<|qx H (λBB H=>?_) λBB H=>?_
    ·refine wk<|bn<|tn<|?_;exact λ_ r=>⟨(),gM H,r.fj h⟩
    refine wl<|ko u6_<|λ_ r=>DL (wn rfl) r rfl (T:=194) (u:=oQ #[Z po,Z O,Z g6]) bp<|ta<|nG<|nG<|ta<|Bn r<|?_;replace H:=uD H K7;cases H
   clear h r;rintro _ a w ⟨rfl,j,r,h⟩;replace H:=Dy K7;refine qq r<|wl<|ko [Z (wi (g6+1)),Z (wi (g6+1))]<|G<|?_;exact λ_ r=>⟨_,⟨(wi (g6+1)),H,r.fj h⟩,gU _⟩
  refine wx<|te<|te<|bh<|?_;cases H;exact Ou (h.se 1 [])
theorem Gm{K:Nat}{O:Int}{Y:aC}{de:fO}{di:Nat}{rP:mN}(H:uJ K O Y=some (.inr rP))(h:jb z (L) w)(eN:bE L 5 cL de Y.aq)(uq:bE L 5 gF (some ⟨1,0,none⟩) wS) :
 Calls Tryz.prog 116 #[Z O,oQ #[Z Y.aS,Z Y.dc,Z Y.bD,aW de Y.aq.length di]] w λe w=>e=.panicked [{v:=if_ 194 (zK rP),recovered:=false}]/\Fit z (aB (L)) w:=by
 unfold uJ at H;refine ke func116 70 rfl λj=>ks<|kN h (#[Z Y.aS,Z Y.dc,Z Y.bD,aW de Y.aq.length di]) 99 λb1 w h=>G<|ks<|kM h<|gy H λr2 e3 H=>Wn (AK (bl:=de) (bO:=di) (cE:=(bE.up 1 eN)) (uq:=bE.up 1 uq) e3 h :) λx4 x5 w h=>bS<|G<|aL [U]<|kL (h.pick 1) 3<|ko [Z ((Y.aq.length:Nat):Int),U]<|G<|wb<|λ_ r=>dO (β:=Nat) id (λm a w=>∃g6:Int,(kX K O Y r2 m g6)=some (.inr rP)/\∃j,kI 70 (lk [(0,Z O),(4,aW x4 r2.length x5),(13,aW de Y.aq.length di),(14,Z ((Y.aq.length:Nat):Int)),(15,Z g6)] j) a/\Fit z (aB (Je x4 x5 r2::L)) w) K ⟨0,H,r.fj (h.se 2 [0])⟩<|?_;clear h r H;rintro k1 a w ⟨g6,H,j,r,h⟩;cases k1 with
 | zero=>exact absurd H (by simp[kX])
 | succ k1 =>
  rw[kX]at H;refine qq r<|aL [dx (g6<((Y.aq.length:Nat):Int))]<|G<|wq<|eB H (λc7 H=>?_) λc7 H=>?_
  ·refine gw<|?_;obtain⟨o9,H,K7⟩:=Dx H;refine λ_ r=>cW (β:=Unit) (λ_ a w=>.inl ()=o9/\∃j,kI 70 (lk [(0,Z O),(4,aW x4 r2.length x5),(13,aW de Y.aq.length di),(14,Z ((Y.aq.length:Nat):Int)),(15,Z g6)] j) a/\Fit z (aB (Je x4 x5 r2::L)) w) ?_ ?_
   ·refine qq r<|wb<|ks<|qg H λod H=>bS<|kj 146 di eN od<|xm (iJ (J Y.aq g6.toNat)) (cs:=gK (J Y.aq g6.toNat)) ⟨eN.cell od (h.dn 1) 0 rfl,eN.cell od (h.dn 1) 1 rfl,eN.cell od (h.dn 1) 2 rfl,eN.cell od (h.dn 1) 3 rfl,eN.cell od (h.dn 1) 4 rfl,cz⟩<|?_;refine kN h (K8) 146 λMY w h=>bS<|kA h (wF MY (J Y.aq g6.toNat)) λw h=>G<|iq<|DM H λo14 H XN=>λ_ r=>cW (β:=Unit) (λ_ a w=>∃po:Int,po=o14/\∃j,kI 70 (lk [(0,Z O),(4,aW x4 r2.length x5),(5,Z g6),(7,Z po),(13,aW de Y.aq.length di),(14,Z ((Y.aq.length:Nat):Int)),(15,Z g6)] j) a/\Fit z (aB (Je x4 x5 r2::L)) w) ?_ ?_
    ·refine qq r<|aL [U]<|kL h 0<|G<|wb<|aL [vB ((J Y.aq g6.toNat).aE==5),vB ((J Y.aq g6.toNat).aE==5)]<|G<|eB H (λpU H=>?_) λpU H=>?_
     ·refine wq<|qg H λwY H=>?_;obtain⟨aaX,h⟩:=h.m1.me (aT wY);obtain⟨D1,M7,IB,h⟩:=ng (h.m1);subst IB;refine qg H λsv H=>nK [(dW x4,g6.toNat*1,[aW D1 (J r2 g6.toNat).length M7]),(MY,1,[Z (J Y.aq g6.toNat).A]),(dW D1,(J Y.aq g6.toNat).A.toNat*1,[Z (J (J r2 g6.toNat) (J Y.aq g6.toNat).A.toNat)])] [2,4,6] 10 h (λh=>⟨⟨(h.pick 1).oP eF (f:=0) rfl,cz⟩,⟨(h.pick 2).cell 1 rfl,cz⟩,⟨h.bL aO (f:=0) (aT sv) rfl,cz⟩,cz⟩) λw h hd =>nl hd 8 [(0,24,aW x4 r2.length x5),(1,25,Z g6)]<|oK hd 7 2 rfl (mg x4 g6 1) (λw=>vR (k:=.i64) (E:=28) rfl bp bp bp bp (h.pick 1) wY)<|nl hd 6 [(4,28,pA MY 1)]<|fW hd 0 5 3 rfl<|fW hd 1 4 5 rfl<|oK hd 3 6 rfl (pA (dW D1) ((J Y.aq g6.toNat).A.toNat*1)) (λw=>tH 3 rfl h sv)<|fW hd 2 2 7 rfl<|oK hd 1 8 rfl (Z (iI (J (J r2 g6.toNat) (J Y.aq g6.toNat).A.toNat) (2:Int))) (λw=>rand rfl bp bp)<|nl hd 0 [(9,33,vB ((iI (J (J r2 g6.toNat) (J Y.aq g6.toNat).A.toNat) (2:Int)) != 0))]<|nJ<|tn<|qx H (λC0 H=>?_) λC0 H=>?_
      ·refine wk<|bn<|tn<|?_;replace h:=iC (x:=(J r2 g6.toNat)) h;replace h:=(h.m1).ig;exact λ_ r=>⟨(),0,gM H,r.fj (h.se 2 [0])⟩
      refine wl<|bS<|kl<|bn<|tn<|?_;replace h:=iC (x:=(J r2 g6.toNat)) h;replace h:=(h.m1).ig;exact λ_ r=>⟨(),54,gM H,r.fj (h.se 2 [0])⟩
     refine aL [vB ((J Y.aq g6.toNat).aE==7),vB ((J Y.aq g6.toNat).aE==7)]<|G<|eB H (λw4 H=>?_) λw4 H=>?_
     ·refine wq<|qg H λxN H=>?_;obtain⟨adg,h⟩:=h.m1.me (aT xN);obtain⟨yA,Bv,P2,h⟩:=ng (h.m1);subst P2;refine qg H λB8 H=>nK [(dW x4,g6.toNat*1,[aW yA (J r2 g6.toNat).length Bv]),(MY,2,[Z (J Y.aq g6.toNat).B]),(dW yA,(J Y.aq g6.toNat).B.toNat*1,[Z (J (J r2 g6.toNat) (J Y.aq g6.toNat).B.toNat)])] [2,4,6] 10 h (λh=>⟨⟨(h.pick 1).oP eF (f:=0) rfl,cz⟩,⟨(h.pick 2).cell 2 rfl,cz⟩,⟨h.bL aO (f:=0) (aT B8) rfl,cz⟩,cz⟩) λw h hd =>nl hd 8 [(0,36,aW x4 r2.length x5),(1,37,Z g6)]<|oK hd 7 2 rfl (mg x4 g6 1) (λw=>vR (k:=.i64) (E:=28) rfl bp bp bp bp (h.pick 1) xN)<|nl hd 6 [(4,40,pA MY 2)]<|fW hd 0 5 3 rfl<|fW hd 1 4 5 rfl<|oK hd 3 6 rfl (pA (dW yA) ((J Y.aq g6.toNat).B.toNat*1)) (λw=>tH 3 rfl h B8)<|fW hd 2 2 7 rfl<|oK hd 1 8 rfl (Z (iI (J (J r2 g6.toNat) (J Y.aq g6.toNat).B.toNat) (3:Int))) (λw=>rand rfl bp bp)<|nl hd 0 [(9,45,vB ((iI (J (J r2 g6.toNat) (J Y.aq g6.toNat).B.toNat) (3:Int)) != 0))]<|nJ<|tn<|qx H (λtd H=>?_) λtd H=>?_
      ·refine wk<|bn<|tn<|?_;replace h:=iC (x:=(J r2 g6.toNat)) h;replace h:=(h.m1).ig;exact λ_ r=>⟨(),0,gM H,r.fj (h.se 2 [0])⟩
      refine wl<|bS<|kl<|bn<|tn<|?_;replace h:=iC (x:=(J r2 g6.toNat)) h;replace h:=(h.m1).ig;exact λ_ r=>⟨(),55,gM H,r.fj (h.se 2 [0])⟩
     refine aL [vB ((J Y.aq g6.toNat).aE==9),vB ((J Y.aq g6.toNat).aE==9)]<|G<|eB H (λuT H=>?_) λuT H=>?_
     ·refine ks<|qg H λGf H=>ko dm<|kp (mg x4 g6 1) (Fo (k:=.i64) (E:=28) rfl bp bp bp bp (h.pick 1) Gf)<|?_;obtain⟨adh,h⟩:=h.m1.me (aT Gf);obtain⟨E4,E5,Jj,h⟩:=ng (h.m1);subst Jj;refine xl (aW E4 (J r2 g6.toNat).length E5) ((h.pick 1).oP eF (f:=0) rfl)<|?_;refine ko [Z (((J r2 g6.toNat).length:Nat):Int),U]<|G<|wb<|λ_ r=>dO (β:=Nat) id (λm a w=>∃nL:Int,∃BC:Int,(jl K r2 g6 m nL BC)=some o14/\∃j,kI 70 (lk [(0,Z O),(4,aW x4 r2.length x5),(5,Z g6),(7,Z nL),(13,aW de Y.aq.length di),(14,Z ((Y.aq.length:Nat):Int)),(15,Z g6),(51,aW E4 (J r2 g6.toNat).length E5),(52,Z (((J r2 g6.toNat).length:Nat):Int)),(53,Z BC)] j) a/\Fit z (aB (As 28 1 jG (aW x4 r2.length x5) r2 g6.toNat [aW E4 (J r2 g6.toNat).length E5]::xh E4 E5 (J r2 g6.toNat)::L)) w) K ⟨0,0,H,r.fj (h.se 3 [1,0])⟩<|?_;clear h r H;rintro k2 a w ⟨nL,BC,H,j,r,h⟩;cases k2 with
      | zero=>exact absurd H (by simp[jl])
      | succ k2 =>
       rw[jl]at H;refine qq r<|aL [dx (BC<(((J r2 g6.toNat).length:Nat):Int))]<|G<|wq<|eB H (λCF H=>?_) λCF H=>?_
       ·refine gw<|wq<|wb<|ks<|qg H λDC H=>ki (h.pick 1) DC<|xl (Z (J (J r2 g6.toNat) BC.toNat)) ((h.pick 1).bL aO (f:=0) (aT DC) rfl)<|?_;refine bS<|G<|aL [U]<|kp (Z (iI (J (J r2 g6.toNat) BC.toNat) (2:Int))) (rand rfl bp bp)<|ko [vB ((iI (J (J r2 g6.toNat) BC.toNat) (2:Int)) != 0)]<|G<|qx H (λxK H=>?_) λxK H=>?_
        ·refine wk<|bn<|tn<|wl<|ko [Z (wi (BC+1)),Z (wi (BC+1))]<|G<|?_;exact λ_ r=>⟨_,⟨nL,(wi (BC+1)),H,r.fj h⟩,gU _⟩
        refine wl<|bS<|kl<|bn<|tn<|wl<|ko [Z (wi (BC+1)),Z (wi (BC+1))]<|G<|?_;exact λ_ r=>⟨_,⟨56,(wi (BC+1)),H,r.fj h⟩,gU _⟩
       refine wx<|te<|te<|bh<|bn<|tn<|qh h.m1 λh=>?_;replace h:=iC (x:=(J r2 g6.toNat)) h;replace h:=(h.m1).ig;exact λ_ r=>⟨(),nL,gM H,r.fj h⟩
     refine wk<|bn<|tn<|?_;exact λ_ r=>⟨(),0,gM H,r.fj (h.se 2 [1])⟩
    clear h r;rintro _ a w ⟨po,rfl,j,r,h⟩;replace H:=DJ XN;refine qq r<|aL [U,vB (po != 0)]<|G<|qx H (λBB H=>?_) λBB H=>?_
    ·refine wk<|bn<|tn<|?_;exact λ_ r=>⟨(),gM H,r.fj h⟩
    refine wl<|ko u6_<|λ_ r=>DL (wn rfl) r rfl (T:=194) (u:=oQ #[Z po,Z O,Z g6]) bp<|ta<|nG<|nG<|ta<|Bn r<|?_;replace H:=uD H K7;replace H:=ejR H;subst H;exact⟨rfl,h.se 1 []⟩
   clear h r;rintro _ a w ⟨rfl,j,r,h⟩;replace H:=Dy K7;refine qq r<|wl<|ko [Z (wi (g6+1)),Z (wi (g6+1))]<|G<|?_;exact λ_ r=>⟨_,⟨(wi (g6+1)),H,r.fj h⟩,gU _⟩
  refine wx<|te<|te<|bh<|λ_ r=>p9 rfl r<|?_;cases H
def nX(K:Nat)(O:aJ):Nat->Int->Option ((Unit)⊕(eL))
 | 0,_=>none
 | k1+1,g9=>(if g9<((O.ah.length:Nat):Int)then if bG g9 O.ah.length then eV (tY (J O.ah g9.toNat)) (λxo=>(if xo=true then(nX K O k1 (wi (g9+1)))else some (.inr (⟨51,g9,0⟩:eL))))else none else some (.inl ()))
def nY(K:Nat)(O:aJ):Nat->Int->Option ((Unit)⊕(eL))
 | 0,_=>none
 | k2+1,dD=>(if dD<((O.ah.length:Nat):Int)then if bG dD O.ah.length then eV (nq K dD (J O.ah dD.toNat) O.ah) (λM8=>(match M8 with | .inl q24=>(nY K O k2 (wi (dD+1))) | .inr q25=>some (.inr (⟨q25.DP,q25.Cm,q25.Gd⟩:eL))))else none else some (.inl ()))
def pP(K:Nat)(O:aJ):Nat->Int->Option (eL)
 | 0,_=>none
 | k3+1,vi=>(if vi<((O.ah.length:Nat):Int)then if bG vi O.ah.length then eV (uJ K vi (J O.ah vi.toNat)) (λAA=>(match AA with | .inl q32=>(pP K O k3 (wi (vi+1))) | .inr q33=>some (⟨q33.DP,q33.Cm,q33.Gd⟩:eL)))else none else some (⟨0,0,0⟩:eL))
def wH(K:Nat)(O:aJ):Option (eL):=
 xF ((if((O.ah.length:Nat):Int)<1 then some (.inr (⟨50,0,0⟩:eL))else(if((O.ah.length:Nat):Int)>32 then some (.inr (⟨50,0,0⟩:eL))else some (.inl ())))) (xF ((nX K O K 0)) (xF ((nY K O K 0)) ((pP K O K 0))))
theorem Ht(H:wH K O=some r0)(h:jb z (L) w)(aV:Bt L bu aI O.ah)(uq:bE L 5 gF (some ⟨1,0,none⟩) wS) :
 nR 74 #[oQ #[aW bu O.ah.length bV]] w z (Ay r0) (L):=by
 unfold wH at H;refine Xw func74 rfl 62 rfl rfl [(0,oQ #[aW bu O.ah.length bV])] ⟨rfl,cz⟩ λj _ r=>qq r<|ks<|kN h (#[aW bu O.ah.length bV]) 24 λb1 w h=>kN h (#[Z 0,Z 0,Z 0]) 95 λb2 w h=>G<|aL [U]<|λ_ r=>R5 (wn rfl) rfl r (q:={target:=.fn (.func 113) #[pA b2 0],args:=#[]}) bp<|?_;refine G<|?_;obtain⟨o4,H,MZ⟩:=Dx H;refine λ_ r=>cW (β:=Unit) (λ_ a w=>.inl ()=o4/\∃j,cK [KU b2] 62 (lk [(1,pA b1 0),(2,pA b2 0)] j) a/\Fit z (aB (gG b1 #[aW bu O.ah.length bV] 24::gG b2 #[Z 0,Z 0,Z 0] 95::L)) w) ?_ ?_
 ·refine qq r<|aL [U]<|kL (h.pick 1) 0<|ko [Z ((O.ah.length:Nat):Int),dx (((O.ah.length:Nat):Int)<1),dx (((O.ah.length:Nat):Int)<1)]<|qI H (λc5 H=>?_) λc5 H=>?_
  ·refine bW (dT c5) [15,16,17,18]<|nv (dT c5) (vB true)<|G<|λ_ r=>fV r (b:=true) rfl<|qq r<|aL [U]<|kA h (gG b2 #[Z 50,Z 0,Z 0] 95) λw h=>cu<|tr<|λ_ r=>yV r rfl bp h<|?_;replace H:=uD H MZ;cases H;exact⟨rfl,h.se 2 []⟩
  refine cS (dF c5) [15] [pA b1 0]<|tc (dF c5) (h.pick 1) 0<|cS (dF c5) [17,18] [Z ((O.ah.length:Nat):Int),dx (((O.ah.length:Nat):Int)>32)]<|ny (dF c5) (dx (((O.ah.length:Nat):Int)>32))<|G<|eB H (λc6 H=>?_) λc6 H=>?_
  ·refine aL [U]<|kA h (gG b2 #[Z 50,Z 0,Z 0] 95) λw h=>cu<|tr<|λ_ r=>yV r rfl bp h<|?_;replace H:=uD H MZ;cases H;exact⟨rfl,h.se 2 []⟩
  refine gw<|?_;exact λ_ r=>⟨(),gM H,r.fj (h.se 2 [1,0])⟩
 clear h r;rintro _ a w ⟨rfl,j,r,h⟩;replace H:=Dy MZ;obtain⟨o8,H,Lj⟩:=Dx H;refine cW (β:=Unit) (λ_ a w=>.inl ()=o8/\∃j,cK [KU b2] 62 (lk [(1,pA b1 0),(2,pA b2 0)] j) a/\Fit z (aB (gG b1 #[aW bu O.ah.length bV] 24::gG b2 #[Z 0,Z 0,Z 0] 95::L)) w) ?_ ?_
 ·refine qq r<|aL [U]<|kL h 0<|ko [Z ((O.ah.length:Nat):Int),U]<|G<|wb<|λ_ r=>dO (β:=Nat) id (λm a w=>∃g9:Int,(nX K O m g9)=some o8/\∃j,cK [KU b2] 62 (lk [(1,pA b1 0),(2,pA b2 0),(22,aW bu O.ah.length bV),(23,Z ((O.ah.length:Nat):Int)),(24,Z g9)] j) a/\Fit z (aB (gG b1 #[aW bu O.ah.length bV] 24::gG b2 #[Z 0,Z 0,Z 0] 95::L)) w) K ⟨0,H,r.fj h⟩<|?_;clear h r H;rintro k1 a w ⟨g9,H,j,r,h⟩;cases k1 with
  | zero=>exact absurd H (by simp[nX])
  | succ k1 =>
   rw[nX]at H;refine qq r<|aL [dx (g9<((O.ah.length:Nat):Int))]<|G<|wq<|eB H (λod H=>?_) λod H=>?_
   ·refine gw<|wq<|wb<|ks<|qg H λuS H=>bS<|kp (pA (dW bu) (j6 bu+g9.toNat*4)) (DR 99 bV rfl rfl aV uS)<|xm (oQ #[Z (J O.ah g9.toNat).aS,Z (J O.ah g9.toNat).dc,Z (J O.ah g9.toNat).bD,aW ((aI g9.toNat).1) (J O.ah g9.toNat).aq.length ((aI g9.toNat).2)]) (cs:=[Z (J O.ah g9.toNat).aS,Z (J O.ah g9.toNat).dc,Z (J O.ah g9.toNat).bD,aW ((aI g9.toNat).1) (J O.ah g9.toNat).aq.length ((aI g9.toNat).2)]) ⟨aV.cell uS (h.dn 2) 0 rfl,aV.cell uS (h.dn 2) 1 rfl,aV.cell uS (h.dn 2) 2 rfl,aV.cell uS (h.dn 2) 3 rfl,cz⟩<|?_;refine kN h (#[Z 0,Z 0,Z 0,aW none 0 0]) 99 λsX w h=>bS<|kA h (qB sX (J O.ah g9.toNat) ((aI g9.toNat).1) ((aI g9.toNat).2)) λw h=>G<|ks<|kM h<|gy H λxo Hu H=>fD (EZ (bl:=((aI g9.toNat).1)) (bO:=((aI g9.toNat).2)) (cE:=(bE.up 3 (aV.u5 uS))) Hu h :) λw h=>ko [vB (!xo)]<|G<|DN H (λpU H=>?_) λpU H=>?_
    ·refine wk<|bn<|tn<|wl<|ko [Z (wi (g9+1)),Z (wi (g9+1))]<|G<|?_;exact λ_ r=>⟨_,⟨(wi (g9+1)),H,r.fj (h.se 3 [1,2])⟩,gU _⟩
    refine aL dm<|qh h.m2 λh=>kA h (gG b2 #[Z 51,Z g9,Z 0] 95) λw h=>cu<|br<|tr<|tr<|br<|tr<|λ_ r=>yV r rfl bp h<|?_;replace H:=uD H Lj;cases H;exact⟨rfl,h.se 3 []⟩
   refine wx<|te<|te<|bh<|tn<|?_;exact λ_ r=>⟨(),gM H,r.fj h⟩
 clear h r;rintro _ a w ⟨rfl,j,r,h⟩;replace H:=Dy Lj;obtain⟨T9,H,Hw⟩:=Dx H;refine cW (β:=Unit) (λ_ a w=>.inl ()=T9/\∃j,cK [KU b2] 62 (lk [(1,pA b1 0),(2,pA b2 0)] j) a/\Fit z (aB (gG b1 #[aW bu O.ah.length bV] 24::gG b2 #[Z 0,Z 0,Z 0] 95::L)) w) ?_ ?_
 ·refine qq r<|aL [U]<|kL h 0<|ko [Z ((O.ah.length:Nat):Int),U]<|G<|wb<|λ_ r=>dO (β:=Nat) id (λm a w=>∃dD:Int,(nY K O m dD)=some T9/\∃j,cK [KU b2] 62 (lk [(1,pA b1 0),(2,pA b2 0),(36,aW bu O.ah.length bV),(37,Z ((O.ah.length:Nat):Int)),(38,Z dD)] j) a/\Fit z (aB (gG b1 #[aW bu O.ah.length bV] 24::gG b2 #[Z 0,Z 0,Z 0] 95::L)) w) K ⟨0,H,r.fj h⟩<|?_;clear h r H;rintro k2 a w ⟨dD,H,j,r,h⟩;cases k2 with
  | zero=>exact absurd H (by simp[nY])
  | succ k2 =>
   rw[nY]at H;refine qq r<|aL [dx (dD<((O.ah.length:Nat):Int))]<|G<|wq<|eB H (λsW H=>?_) λsW H=>?_
   ·refine gw<|wq<|wb<|ks<|qg H λlO H=>bS<|kp (pA (dW bu) (j6 bu+dD.toNat*4)) (DR 99 bV rfl rfl aV lO)<|xm (oQ #[Z (J O.ah dD.toNat).aS,Z (J O.ah dD.toNat).dc,Z (J O.ah dD.toNat).bD,aW ((aI dD.toNat).1) (J O.ah dD.toNat).aq.length ((aI dD.toNat).2)]) (cs:=[Z (J O.ah dD.toNat).aS,Z (J O.ah dD.toNat).dc,Z (J O.ah dD.toNat).bD,aW ((aI dD.toNat).1) (J O.ah dD.toNat).aq.length ((aI dD.toNat).2)]) ⟨aV.cell lO (h.dn 2) 0 rfl,aV.cell lO (h.dn 2) 1 rfl,aV.cell lO (h.dn 2) 2 rfl,aV.cell lO (h.dn 2) 3 rfl,cz⟩<|?_;refine kN h (#[Z 0,Z 0,Z 0,aW none 0 0]) 99 λJo w h=>bS<|kA h (qB Jo (J O.ah dD.toNat) ((aI dD.toNat).1) ((aI dD.toNat).2)) λw h=>G<|wl<|bS<|kM h<|bS<|kL (h.pick 1) 0<|gy H λM8 AL H=>?_;cases M8 with
    | inl q24 =>
     refine fD (zV (xL:=bu) (yD:=bV) (E1:=(yc.up 3 aV)) (de:=((aI dD.toNat).1)) (di:=((aI dD.toNat).2)) (eN:=(bE.up 3 (aV.u5 lO))) (uq:=bE.up 3 uq) (T8:=aI) AL h :) λw h=>kl<|bn<|tn<|wl<|ko [Z (wi (dD+1)),Z (wi (dD+1))]<|G<|?_;exact λ_ r=>⟨_,⟨(wi (dD+1)),H,r.fj (h.se 3 [1,2])⟩,gU _⟩
    | inr q25 =>
     have hc:=zW (xL:=bu) (yD:=bV) (E1:=(yc.up 3 aV)) (de:=((aI dD.toNat).1)) (di:=((aI dD.toNat).2)) (eN:=(bE.up 3 (aV.u5 lO))) (uq:=bE.up 3 uq) (T8:=aI) (H:=AL) (h:=h);intro _ r;refine KO (wn rfl) r (f:=115) (args:=#[Z dD,oQ #[Z (J O.ah dD.toNat).aS,Z (J O.ah dD.toNat).dc,Z (J O.ah dD.toNat).bD,aW ((aI dD.toNat).1) (J O.ah dD.toNat).aq.length ((aI dD.toNat).2)],aW bu O.ah.length bV]) bp hc ?_;clear hc h;rintro _ w ⟨rfl,h⟩;refine⟨_,rfl,?_⟩;refine ta<|nG<|nG<|ta<|nG<|qh h.m2 λh=>Ga r rfl bp h λw h=>?_;replace H:=uD H Hw;cases H;exact⟨rfl,h.se 3 []⟩
   refine wx<|te<|te<|bh<|tn<|?_;exact λ_ r=>⟨(),gM H,r.fj h⟩
 clear h r;rintro _ a w ⟨rfl,j,r,h⟩;replace H:=Dy Hw;refine qq r<|wq<|aL [U]<|kL h 0<|ko [Z ((O.ah.length:Nat):Int),U]<|G<|wb<|λ_ r=>dO (β:=Nat) id (λm a w=>∃vi:Int,(pP K O m vi)=some r0/\∃j,cK [KU b2] 62 (lk [(2,pA b2 0),(50,aW bu O.ah.length bV),(51,Z ((O.ah.length:Nat):Int)),(52,Z vi)] j) a/\Fit z (aB (gG b2 #[Z 0,Z 0,Z 0] 95::L)) w) K ⟨0,H,r.fj (h.se 2 [1])⟩<|?_;clear h r H;rintro k3 a w ⟨vi,H,j,r,h⟩;cases k3 with
 | zero=>exact absurd H (by simp[pP])
 | succ k3 =>
  rw[pP]at H;refine qq r<|aL [dx (vi<((O.ah.length:Nat):Int))]<|G<|wq<|eB H (λrK H=>?_) λrK H=>?_
  ·refine gw<|wq<|wb<|ks<|qg H λzX H=>bS<|kp (pA (dW bu) (j6 bu+vi.toNat*4)) (DR 99 bV rfl rfl aV zX)<|xm (oQ #[Z (J O.ah vi.toNat).aS,Z (J O.ah vi.toNat).dc,Z (J O.ah vi.toNat).bD,aW ((aI vi.toNat).1) (J O.ah vi.toNat).aq.length ((aI vi.toNat).2)]) (cs:=[Z (J O.ah vi.toNat).aS,Z (J O.ah vi.toNat).dc,Z (J O.ah vi.toNat).bD,aW ((aI vi.toNat).1) (J O.ah vi.toNat).aq.length ((aI vi.toNat).2)]) ⟨aV.cell zX (h.dn 1) 0 rfl,aV.cell zX (h.dn 1) 1 rfl,aV.cell zX (h.dn 1) 2 rfl,aV.cell zX (h.dn 1) 3 rfl,cz⟩<|?_;refine kN h (#[Z 0,Z 0,Z 0,aW none 0 0]) 99 λb29 w h=>bS<|kA h (qB b29 (J O.ah vi.toNat) ((aI vi.toNat).1) ((aI vi.toNat).2)) λw h=>G<|wl<|bS<|kM h<|gy H λAA T6 H=>?_;cases AA with
   | inl q32 =>
    refine fD (Gl (de:=((aI vi.toNat).1)) (di:=((aI vi.toNat).2)) (eN:=(bE.up 2 (aV.u5 zX))) (uq:=bE.up 2 uq) T6 h :) λw h=>kl<|bn<|tn<|wl<|ko [Z (wi (vi+1)),Z (wi (vi+1))]<|G<|?_;exact λ_ r=>⟨_,⟨(wi (vi+1)),H,r.fj (h.se 2 [1])⟩,gU _⟩
   | inr q33 =>
    have hc:=Gm (de:=((aI vi.toNat).1)) (di:=((aI vi.toNat).2)) (eN:=(bE.up 2 (aV.u5 zX))) (uq:=bE.up 2 uq) (H:=T6) (h:=h);intro _ r;refine KO (wn rfl) r (f:=116) (args:=#[Z vi,oQ #[Z (J O.ah vi.toNat).aS,Z (J O.ah vi.toNat).dc,Z (J O.ah vi.toNat).bD,aW ((aI vi.toNat).1) (J O.ah vi.toNat).aq.length ((aI vi.toNat).2)]]) bp hc ?_;clear hc h;rintro _ w ⟨rfl,h⟩;refine⟨_,rfl,?_⟩;refine ta<|nG<|nG<|ta<|nG<|qh h.m1 λh=>Ga r rfl bp h λw h=>?_;cases H;exact⟨rfl,h.se 2 []⟩
  refine wx<|te<|te<|bh<|tn<|aL [U]<|kA h (gG b2 #[Z 0,Z 0,Z 0] 95) λw h=>cu<|λ_ r=>yV r rfl bp h<|?_;cases H;exact⟨rfl,h.se 1 []⟩
def qf(O:Int):Option (Bool):=
 (if O>=1 then some (decide (O<=64))else some false)
theorem xp(H:qf O=some r0)(h:jb z (L) w) :
 nR 75 #[Z O] w z (vB r0) (L):=by
 unfold qf at H;refine ke func75 9 rfl λj=>iq<|aL [U,dx (O>=1),dx (O>=1)]<|qI H (λc1 H=>?_) λc1 H=>?_
 ·refine cS (dT c1) [6,7] [Z O,dx (O<=64)]<|nv (dT c1) (dx (O<=64))<|ko [dx (O<=64)]<|cu<|?_;cases H;exact gR h
 refine bW (dF c1) [6,7]<|ny (dF c1) (vB false)<|bS<|cu<|?_;cases H;exact gR h
def qk(O:eK):Option (Bool):=
 (if O.cr>=1 then(if O.cr<=4096 then(if(1:Int)<=O.dQ then(if O.dQ<=O.jE then some (decide (O.jE<=4096))else some false)else some false)else some false)else some false)
theorem xq(H:qk O=some r0)(h:jb z (L) w) :
 nR 76 #[j4 O] w z (vB r0) (L):=by
 unfold qk at H;refine ke func76 28 rfl λj=>ks<|kN h (k8 O) 27 λb1 w h=>bS<|G<|aL [U]<|kL h 0<|ko [dx (O.cr>=1),dx (O.cr>=1)]<|qI H (λc2 H=>?_) λc2 H=>?_
 ·refine cS (dT c2) [7] [pA b1 0]<|tc (dT c2) h 0<|cS (dT c2) [9] [dx (O.cr<=4096)]<|nv (dT c2) (dx (O.cr<=4096))<|ko [dx (O.cr<=4096)]<|qI H (λc3 H=>?_) λc3 H=>?_
  ·refine cS (dT c3) [12] [pA b1 1]<|tc (dT c3) h 1<|cS (dT c3) [14] [dx ((1:Int)<=O.dQ)]<|nv (dT c3) (dx ((1:Int)<=O.dQ))<|ko [dx ((1:Int)<=O.dQ)]<|qI H (λc4 H=>?_) λc4 H=>?_
   ·refine cS (dT c4) [17] [pA b1 1]<|tc (dT c4) h 1<|cS (dT c4) [19] [pA b1 2]<|tc (dT c4) h 2<|cS (dT c4) [21] [dx (O.dQ<=O.jE)]<|nv (dT c4) (dx (O.dQ<=O.jE))<|ko [dx (O.dQ<=O.jE)]<|qI H (λc5 H=>?_) λc5 H=>?_
    ·refine cS (dT c5) [24] [pA b1 2]<|tc (dT c5) h 2<|cS (dT c5) [26] [dx (O.jE<=4096)]<|nv (dT c5) (dx (O.jE<=4096))<|ko [dx (O.jE<=4096)]<|cu<|?_;cases H;exact gR (h.se 1 [])
    refine bW (dF c5) [24,25,26]<|ny (dF c5) (vB false)<|bS<|cu<|?_;cases H;exact gR (h.se 1 [])
   refine bW (dF c4) [17,18,19,20,21]<|ny (dF c4) (vB false)<|bS<|bW (rfl:false=false) [24,25,26]<|ko dm<|cu<|?_;cases H;exact gR (h.se 1 [])
  refine bW (dF c3) [12,13,14]<|ny (dF c3) (vB false)<|bS<|bW (rfl:false=false) [17,18,19,20,21]<|ko dm<|bW (rfl:false=false) [24,25,26]<|ko dm<|cu<|?_;cases H;exact gR (h.se 1 [])
 refine bW (dF c2) [7,8,9]<|ny (dF c2) (vB false)<|bS<|bW (rfl:false=false) [12,13,14]<|ko dm<|bW (rfl:false=false) [17,18,19,20,21]<|ko dm<|bW (rfl:false=false) [24,25,26]<|ko dm<|cu<|?_;cases H;exact gR (h.se 1 [])
def mP(K:Nat)(O:aJ)(Y:List Int)(p2:Int)(p3:eK):Option (Int):=
 eV (wH K O) (λr3=>(if r3.Ow=0 then if bG (0:Int) O.ah.length then(if((Y.length:Nat):Int)=(J O.ah 0).aS then eV (qf p2) (λr8=>(if r8=true then eV (qk p3) (λvy=>(if vy=true then some 0 else some 111))else some 110))else some 61)else none else some 60))
theorem uK(H:mP K O Y p2 p3=some r0)(h:jb z (L) w)(aV:Bt L bu aI O.ah)(Ke:bE L 1 cQ Kf Y)(uq:bE L 5 gF (some ⟨1,0,none⟩) wS) :
 nR 50 #[oQ #[aW bu O.ah.length bV],aW Kf Y.length Lf,Z p2,j4 p3] w z (Z r0) (L):=by
 unfold mP at H;refine ke func50 31 rfl λj=>ks<|kN h (#[aW bu O.ah.length bV]) 24 λb1 w h=>kN h (k8 p3) 27 λb2 w h=>bS<|G<|wq<|wb<|ks<|xm (oQ #[aW bu O.ah.length bV]) (cs:=[aW bu O.ah.length bV]) ⟨(h.pick 1).cell 0 rfl,cz⟩<|?_;refine gy H λr3 e4 H=>fD (Ht (bu:=bu) (bV:=bV) (aV:=(yc.up 2 aV)) (uq:=bE.up 2 uq) (aI:=aI) e4 h :) λw h=>ko [U,vB (r3.Ow != 0),vB (r3.Ow != 0)]<|G<|qx H (λc5 H=>?_) λc5 H=>?_
 ·refine aL [U,Z ((Y.length:Nat):Int),U]<|kL (h.pick 1) 0<|qg H λc6 H=>kp (pA (dW bu) (j6 bu+0*4)) (DR 99 bV rfl rfl aV c6)<|bS<|xl (Z (J O.ah 0).aS) (aV.cell c6 (h.dn 2) 0 rfl)<|?_;refine ko [vB (((Y.length:Nat):Int) != (J O.ah 0).aS),vB (((Y.length:Nat):Int) != (J O.ah 0).aS)]<|G<|qx H (λc7 H=>?_) λc7 H=>?_
  ·refine ks<|gy H λr8 e9 H=>bS<|fD (xp e9 h :) λw h=>ko [vB (!r8),vB (!r8)]<|G<|DN H (λod H=>?_) λod H=>?_
   ·refine ks<|kM h<|gy H λvy DU H=>fD (xq DU h :) λw h=>ko [vB (!vy),vB (!vy)]<|G<|DN H (λyz H=>?_) λyz H=>?_
    ·refine wk<|bn<|tn<|iq<|wr<|?_;cases H;exact gR (h.se 2 [])
    refine iq<|wr<|br<|tr<|?_;cases H;exact gR (h.se 2 [])
   refine iq<|wr<|br<|tr<|?_;cases H;exact gR (h.se 2 [])
  refine iq<|wr<|br<|tr<|?_;cases H;exact gR (h.se 2 [])
 refine iq<|wr<|br<|tr<|?_;cases H;exact gR (h.se 2 [])
def mh(O:ae)(Y:Int):Option (Int):=
 (if Y<1 then some 21 else(if Y>(wi (O.mq-O.fe))then some 22 else some 0))
theorem za(H:mh O Y=some r0)(h:jb z (gz B0 O ku kr ji k6 L) w) :
 nR 261 #[pA B0 0,Z Y] w z (Z r0) (gz B0 O ku kr ji k6 L):=by
 unfold mh at H;refine ke func261 22 rfl λj=>iq<|wq<|aL [U,dx (Y<1)]<|G<|eB H (λc5 H=>?_) λc5 H=>?_
 ·refine iq<|wr<|tr<|?_;cases H;exact gR h
 refine gw<|wq<|wq<|nK [(B0,0,[Z O.mq]),(B0,1,[Z O.fe])] [1,5,6,9,10] 15 h (λh=>⟨⟨h.cell 0 rfl,cz⟩,⟨h.cell 1 rfl,cz⟩,cz⟩) λw h hd =>mU hd 12 7 [([0],pA B0 0),([1,2],vB false)]<|λ_ r=>DA hd 11 3 rfl (mT r (c:=false) rfl) r (Z Y)<|?_;refine λ_ r=>DA hd 10 4 rfl (mT r (c:=false) rfl) r (pA B0 0)<|?_;refine λ_ r=>DA hd 9 5 rfl (mT r (c:=false) rfl) r (pA B0 0)<|?_;refine λ_ r=>DA hd 8 6 rfl (mT r (c:=false) rfl) r (pA B0 0)<|?_;refine λ_ r=>DA hd 7 8 rfl (mT r (c:=false) rfl) r (pA B0 0)<|?_;refine λ_ r=>DA hd 6 9 rfl (mT r (c:=false) rfl) r (pA B0 0)<|?_;refine λ_ r=>DA hd 5 10 rfl (mT r (c:=false) rfl) r (pA B0 1)<|?_;refine λ_ r=>Xt hd 0 4 7 r (mT r (c:=false) rfl) rfl rfl<|?_;refine λ_ r=>Xt hd 1 3 11 r (mT r (c:=false) rfl) rfl rfl<|?_;refine λ_ r=>DA hd 2 12 rfl (mT r (c:=false) rfl) r (Z (wi (O.mq-O.fe)))<|?_;refine λ_ r=>DA hd 1 13 rfl (mT r (c:=false) rfl) r (dx (Y>(wi (O.mq-O.fe))))<|?_;refine nl hd 0 [(14,21,dx (Y>(wi (O.mq-O.fe))))]<|nJ<|tn<|eB H (λc6 H=>?_) λc6 H=>?_
 ·refine iq<|wr<|tr<|?_;cases H;exact gR h
 refine gw<|iq<|wr<|?_;cases H;exact gR h
def pq(O:ae)(Y:Int):Option (Int×ae):=
 some (O.fe,{O with fe:=wi (O.fe+Y)})
theorem AM(H:pq O Y=some (r0,q0))(h:jb z (gz B0 O ku kr ji k6 L) w) :
 wT 262 #[pA B0 0,Z Y] w z (Z r0) λx1 x2 x3 x4=>gz B0 q0 x1 x2 x3 x4 L:=by
 unfold pq at H;refine ke func262 19 rfl λj=>iq<|aL lJ<|kL h 1<|bS<|G<|aL lJ<|kL h 1<|ko [U,Z (wi (O.fe+Y)),U,U]<|kS h 1 (gG B0 #[Z O.mq,Z (wi (O.fe+Y)),aW ku O.cell.length kr,aW ji O.log.length k6,Z O.sG,vB O.watched] 92) λw h=>G<|aL dm<|cu<|?_;cases H;exact G1 ku kr ji k6 h
def fZ(O:ae)(Y:Int)(p2:Int)(p3:Int)(p4:Int)(p5:Bool):Option (ae):=
 (if O.watched=true then if(O.log.length+1)*48<=140737488355328 then some ({O with log:=O.log++[(⟨O.sG,Y,p2,p3,p4,p5⟩:aN)]})else none else some O)
abbrev UY (B:Nat) (S:ae) (a2:fO) (c2:Nat) (a3:fO) (c3:Nat) (q:Nat):aZ:=pts B (.cells #[Z S.mq,Z S.fe,.slice a2 S.cell.length c2,.slice a3 q c3,Z S.sG,vB S.watched] 92)
theorem mj(H:fZ O Y p2 p3 p4 p5=some q0)(h:jb z (gz B0 O ku kr ji k6 L) w) :
 wT 260 #[pA B0 0,Z Y,Z p2,Z p3,Z p4,vB p5] w z (.tuple #[]) λx1 x2 x3 x4=>gz B0 q0 x1 x2 x3 x4 L:=by
 unfold fZ at H;refine ke func260 35 rfl λj=>aL lJ<|kL h 5<|G<|ED H (λc5 H=>?_) λc5 H=>?_
 ·refine qg H λc9 H=>nK [(B0,3,[aW ji O.log.length k6]),(B0,4,[Z O.sG])] [2,3,6,7,14] 20 h (λh=>⟨⟨h.cell 3 rfl,cz⟩,⟨h.cell 4 rfl,cz⟩,cz⟩) λw h hd =>mU hd 8 16 [([0,1,2,5,6],pA B0 0),([3],pA B0 3),([7],pA B0 4),([9],Z Y),([10],Z p2),([11],Z p3),([12],Z p4),([13],vB p5)]<|fW hd 0 7 4 rfl<|fW hd 1 6 8 rfl<|nl hd 5 [(14,30,oQ #[Z O.sG,Z Y,Z p2,Z p3,Z p4,vB p5])]<|lI 15 rfl<|kV h (#[Z O.sG,Z Y,Z p2,Z p3,Z p4,vB p5]) 159 λb6 w h=>G<|λ_ r=>xE<|lM 16 rfl<|qh h.m3 λh=>kQ (n0:=O.log.length) (c:=1) (bytes:=48) (wn rfl) rfl rfl r rfl bp bp sI (E:=159) (xs:=O.log) bp bp h (news:=[(⟨O.sG,Y,p2,p3,p4,p5⟩:aN)]) (m:=1) rfl ((h.pick 1).news rfl) c9 rfl λkJ lq w _ h r=>qq r<|G<|mM<|iN 2 17 rfl (pA B0 0)<|iN 1 18 rfl (pA B0 3)<|lI 19 rfl<|qh h.m2 λh=>kS h 3 (UY B0 O ku kr kJ lq ((O.log++[(⟨O.sG,Y,p2,p3,p4,p5⟩:aN)]).length)) λw h=>G<|mM<|nJ<|?_;cases H;exact xv4 ku kr kJ lq (h.se 4 [0,3,1])
 refine wk<|?_;cases H;exact xv4 ku kr ji k6 h
def fL(O:ae)(Y:Int):Option (Int×Int×ae):=
 MN (some ()) (eV (mh O Y) (λr7=>(if r7=0 then sQ (pq O Y) (λAB AN=>if 0<=Y/\(AN.cell.length+Y.toNat)*8<=140737488355328 then eV (fZ ({AN with cell:=AN.cell++List.replicate Y.toNat (0:Int)}) 4 AB Y 0 true) (λgu=>some (AB,0,gu))else none)else some (0,r7,O))))
abbrev Fu (B:Nat) (S:ae) (a2:fO) (c2:Nat) (a3:fO) (c3:Nat) (q:Nat):aZ:=pts B (.cells #[Z S.mq,Z S.fe,.slice a2 q c2,.slice a3 S.log.length c3,Z S.sG,vB S.watched] 92)
theorem lX(H:fL O Y=some (r0,r1,q0))(h:jb z (gz B0 O ku kr ji k6 L) w) :
 wT 257 #[pA B0 0,Z Y] w z (.tuple #[Z r0,Z r1]) λx1 x2 x3 x4=>gz B0 q0 x1 x2 x3 x4 L:=by
 unfold fL at H;refine ke func257 37 rfl λj=>aL dm<|G<|iq<|qd0 H λo6 H hK5=>λ_ r=>cW (β:=Unit) (λ_ a w=>()=o6/\∃j,kI 37 (lk [(0,pA B0 0),(1,Z Y),(6,pA B0 0)] j) a/\Fit z (aB (gz B0 O ku kr ji k6 L)) w) ?_ ?_
 ·refine qq r<|aL dm<|G<|λ_ r=>fV r (b:=true) rfl<|qq r<|wl<|ko wc<|G<|?_;exact λ_ r=>⟨(),gM H,r.fj h⟩
 clear h r;rintro _ a w ⟨rfl,j,r,h⟩;replace H:=kk0 hK5;refine qq r<|wq<|ks<|gy H λr7 e8 H=>ko dm<|fD (za e8 h :) λw h=>bS<|G<|aL [U,vB (r7 != 0)]<|G<|qx H (λc9 H=>?_) λc9 H=>?_
 ·refine gw<|ks<|v7 H λAB AN DU H=>ko dm<|kP (AM DU h :) λvv ye C4 BE w h=>bS<|G<|aL wc<|kL h 2<|bS<|qh h.m1 λh=>qg H λsW H=>λ_ r=>PN (kx:=.i64) (n0:=AN.cell.length) (i:=Y) (m:=Y.toNat) (bytes:=8) (zc:=#[Z 0]) (0:Int) (wn rfl) rfl rfl r rfl bp bp (Int.toNat_of_nonneg sW.1).symm aO (E:=2) (xs:=AN.cell) bp bp bp rfl h sW.2 rfl λD1 M7 w _ h r=>qq r<|ko dm<|qh h.m1 λh=>kS h 2 (Fu B0 AN D1 M7 C4 BE ((AN.cell++List.replicate Y.toNat (0:Int)).length)) λw h=>G<|ks<|gy H λgu Ll H=>ko lJ<|kP (mj Ll h :) λmQ ur BF D0 w h=>G<|aL lJ<|cu<|?_;cases H;exact Ad mQ ur BF D0 h
 refine aL lJ<|cu<|tr<|?_;cases H;exact Ad ku kr ji k6 h
def q7(O:Int):Option (Int):=
 (if O<1 then some 0 else(if O>4096 then some 0 else some (wi ((1:Int)+(wi (O*10))))))
theorem vz(H:q7 O=some r0)(h:jb z (L) w) :
 nR 107 #[Z O] w z (Z r0) (L):=by
 unfold q7 at H;refine ke func107 12 rfl λj=>iq<|wq<|aL [U,dx (O<1),dx (O<1)]<|qI H (λc1 H=>?_) λc1 H=>?_
 ·refine bW (dT c1) [6,7]<|nv (dT c1) (vB true)<|G<|λ_ r=>fV r (b:=true) rfl<|qq r<|iq<|wr<|tr<|?_;cases H;exact gR h
 refine cS (dF c1) [6,7] [Z O,dx (O>4096)]<|ny (dF c1) (dx (O>4096))<|G<|eB H (λc2 H=>?_) λc2 H=>?_
 ·refine iq<|wr<|tr<|?_;cases H;exact gR h
 refine gw<|aL [U,Z (wi (O*10)),Z (wi ((1:Int)+(wi (O*10)))),Z (wi ((1:Int)+(wi (O*10))))]<|cu<|?_;cases H;exact gR h
def gH(O:aY)(Y:Int):Option (Int):=
 some (wi ((wi (O.kz+1))+(wi (Y*10))))
theorem kR(H:gH O Y=some r0)(h:jb z (L) w) :
 nR 117 #[fF O,Z Y] w z (Z r0) (L):=by
 unfold gH at H;refine ke func117 11 rfl λj=>ks<|kN h (gV O) 104 λb1 w h=>bS<|G<|aL [U]<|kL h 0<|ko [Z (wi (O.kz+1)),U,Z (wi (Y*10)),Z (wi ((wi (O.kz+1))+(wi (Y*10)))),Z (wi ((wi (O.kz+1))+(wi (Y*10))))]<|cu<|?_;cases H;exact gR (h.se 1 [])
def ql(O:ae)(Y:Int):Option (Bool):=
 (if Y>=0 then some (decide (Y<O.fe))else some false)
theorem BG(H:ql O Y=some r0)(h:jb z (gz B0 O ku kr ji k6 L) w) :
 nR 263 #[pA B0 0,Z Y] w z (vB r0) (gz B0 O ku kr ji k6 L):=by
 unfold ql at H;refine ke func263 15 rfl λj=>iq<|aL [U,dx (Y>=0),dx (Y>=0)]<|qI H (λc5 H=>?_) λc5 H=>?_
 ·refine cS (dT c5) [8,9,10,11] [Z Y,pA B0 0,pA B0 0,pA B0 1]<|tc (dT c5) h 1<|cS (dT c5) [13] [dx (Y<O.fe)]<|nv (dT c5) (dx (Y<O.fe))<|ko [dx (Y<O.fe)]<|cu<|?_;cases H;exact gR h
 refine bW (dF c5) [8,9,10,11,12,13]<|ny (dF c5) (vB false)<|bS<|cu<|?_;cases H;exact gR h
def hH(O:ae)(Y:Int):Option (Bool):=
 eV (ql O Y) (λr5=>some (!r5))
theorem nS(H:hH O Y=some r0)(h:jb z (gz B0 O ku kr ji k6 L) w) :
 nR 259 #[pA B0 0,Z Y] w z (vB r0) (gz B0 O ku kr ji k6 L):=by
 unfold hH at H;refine ke func259 15 rfl λj=>iq<|ks<|gy H λr5 e6 H=>ko lJ<|cS (rfl:false=false) [8,9,10,11] [pA B0 0,pA B0 0,pA B0 0,Z Y]<|Zz (rfl:false=false) (BG e6 h :) λw h=>cS (rfl:false=false) [13] [vB (!r5)]<|ko [vB (!r5),vB (!r5)]<|cu<|?_;cases H;exact gR h
def dU(O:ae)(Y:Int)(p2:Int):Option (Int×ae):=
 eV (hH O Y) (λr5=>(if r5=true then some (20,O)else if bG Y O.cell.length then eV (fZ ({O with cell:=O.cell.set Y.toNat p2}) 1 Y p2 0 true) (λMB=>some (0,MB))else none))
theorem _root_.Go.Proofs.YtpikpffbcjpmcaaGreatDoor.SL.Fit.Gn{α:Type}{e sz cc n:Nat}{enc:α->List Value}{ca:fO}{l:List α}{z w:World}{X:List aZ}{B:Nat}{S:ae}{a2:fO}{c2:Nat}{a3:fO}{c3:Nat}(h:Fit z (aB (rowOf e sz enc (.slice ca n cc) l::Fu B S a2 c2 a3 c3 n::X)) w):Fit z (aB (rowOf e sz enc (.slice ca l.length cc) l::Fu B S a2 c2 a3 c3 l.length::X)) w:=h.Oj (Fu B S a2 c2 a3 c3)
theorem fm(H:dU O Y p2=some (r0,q0))(h:jb z (gz B0 O ku kr ji k6 L) w) :
 wT 258 #[pA B0 0,Z Y,Z p2] w z (Z r0) λx1 x2 x3 x4=>gz B0 q0 x1 x2 x3 x4 L:=by
 unfold dU at H;refine ke func258 21 rfl λj=>iq<|wq<|ks<|gy H λr5 e6 H=>ko dm<|fD (nS e6 h :) λw h=>G<|ED H (λc7 H=>?_) λc7 H=>?_
 ·refine iq<|wr<|tr<|?_;cases H;exact G1 ku kr ji k6 h
 refine gw<|aL lJ<|kL h 2<|qg H λc8 H=>ko dm<|ki (h.pick 1) c8<|qh h.m1 λh=>λ_ r=>EN (wn rfl) r aO h Y.toNat 0 (Z p2) (J O.cell Y.toNat) p2 (aT c8) λw h=>qq r<|G<|aL lJ<|?_;replace h:=h.Gn;refine gy H λMB UP H=>qh h.m2.m1.m2 λh=>kP (mj UP h :) λzb vv ye C4 w h=>G<|iq<|wr<|?_;cases H;exact G1 zb vv ye C4 h
def ju(K:Nat)(Y:Int)(vy:Int):Nat->ae->Int->Option (aY×Int×ae)
 | 0,_,_=>none
 | k1+1,C5,vi=>(if vi<Y then eV (gH (⟨vy,Y⟩:aY) vi) (λyB=>sQ (dU C5 yB 1) (λAA OG=>(if AA=0 then(ju K Y vy k1 OG (wi (vi+1)))else some ((⟨0,0⟩:aY),AA,OG))))else some ((⟨vy,Y⟩:aY),0,C5))
def n6(K:Nat)(O:ae)(Y:Int):Option (aY×Int×ae):=
 eV (q7 Y) (λr6=>(if r6=0 then some ((⟨0,0⟩:aY),3,O)else eV (q7 Y) (λr9=>pL (fL O r9) (λvy wU G3=>(if wU=0 then(ju K Y vy K G3 0)else some ((⟨0,0⟩:aY),wU,G3))))))
theorem BH(H:n6 K O Y=some (r0,r1,q0))(h:jb z (gz B0 O ku kr ji k6 L) w) :
 wT 77 #[if_ 33 (pA B0 0),Z Y] w z (.tuple #[fF r0,Z r1]) λx1 x2 x3 x4=>gz B0 q0 x1 x2 x3 x4 L:=by
 unfold n6 at H;refine ke func77 53 rfl λj=>ks<|kN h (#[Z 0,Z 0]) 104 λb5 w h=>bS<|G<|wq<|aL dm<|G<|λ_ r=>iO r (b:=false) rfl<|qq r<|gw<|wq<|ks<|gy H λr6 e7 H=>bS<|fD (vz e7 h :) λw h=>ko [vB (r6==0)]<|G<|eB H (λc8 H=>?_) λc8 H=>?_
 ·refine aL [U]<|kA h (gG b5 #[Z 0,Z 0] 104) λw h=>bS<|cu<|tr<|λ_ r=>pY [Z 0,Z 0] (Z 3) rfl r (h.held 0 rfl)<|?_;cases H;exact⟨ku,kr,ji,k6,rfl,h.se 4 [1,2,3]⟩
 refine gw<|wq<|gy H λr9 Hx H=>tG H λvy wU G3 Hu H=>nK [] [] 12 h (λ_=>trivial) λw h hd =>mU hd 7 19 [([0],if_ 33 (pA B0 0)),([1],Z Y),([3,4],.func (.method "Reserve") #[if_ 33 (pA B0 0)] #[]),([5],if_ 33 (pA B0 0))]<|lI 2 rfl<|fD (vz Hx h :) λw h=>G<|λ_ r=>xE<|lM 6 rfl<|qh h.m3.m3.m3 λh=>qq r<|kP (lX Hu h :) λC4 BE Jp Gp w h=>G<|mM<|iN 4 7 rfl (.tuple #[Z vy,Z wU])<|iN 3 8 rfl (Z vy)<|iN 2 9 rfl (Z wU)<|iN 1 10 rfl (Z vy)<|iN 0 11 rfl (Z wU)<|nJ<|tn<|wq<|aL [U,vB (wU != 0)]<|G<|qx H (λsW H=>?_) λsW H=>?_
 ·refine gw<|aL lJ<|kN h (#[Z 0,Z 0]) 104 λM9 w h=>kA h (gG M9 #[Z vy,Z Y] 104) λw h=>G<|wq<|aL dm<|G<|wb<|λ_ r=>dO (β:=Nat) id (λm a w=>∃K9:fO,∃La:Nat,∃XO:fO,∃XP:Nat,∃C5:ae,∃vi:Int,(ju K Y vy m C5 vi)=some (r0,r1,q0)/\∃j,kI 53 (lk [(0,if_ 33 (pA B0 0)),(4,pA b5 0),(8,pA M9 0),(35,Z Y),(36,Z vi)] j) a/\Fit z (aB (gz B0 C5 K9 La XO XP (gG b5 #[Z 0,Z 0] 104::gG M9 #[Z vy,Z Y] 104::L))) w) K ⟨C4,BE,Jp,Gp,G3,0,H,r.fj (h.se 5 [1,2,3,4,0])⟩<|?_;clear h r H;rintro k1 a w ⟨K9,La,XO,XP,C5,vi,H,j,r,h⟩;cases k1 with
  | zero=>exact absurd H (by simp[ju])
  | succ k1 =>
   rw[ju]at H;refine qq r<|aL [dx (vi<Y)]<|G<|wq<|eB H (λrK H=>?_) λrK H=>?_
   ·refine gw<|wq<|wb<|aL dm<|G<|wq<|gy H λyB T7 H=>v7 H λAA OG M1 H=>nK [(M9,0,[Z vy,Z Y])] [3,4,5] 9 h (λh=>⟨((h.pick 4).held 0 rfl),cz⟩) λw h hd =>mU hd 4 39 [([0],if_ 33 (pA B0 0)),([2],Z vi),([4,5],.func (.method "Store") #[if_ 33 (pA B0 0)] #[]),([6],if_ 33 (pA B0 0))]<|wD hd 0 3 1 rfl rfl<|lI 3 rfl<|fD (kR T7 h :) λw h=>G<|uI ⟨((h.pick 4).held 0 rfl),cz⟩ λhd =>lI 7 rfl<|kP (fm M1 h :) λZC ZD x35 Fv w h=>G<|mM<|iN 0 8 rfl (Z AA)<|nJ<|tn<|aL [U,vB (AA != 0)]<|G<|qx H (λKh H=>?_) λKh H=>?_
    ·refine wk<|bn<|tn<|wl<|ko [Z (wi (vi+1)),Z (wi (vi+1))]<|G<|?_;exact λ_ r=>⟨_,⟨ZC,ZD,x35,Fv,OG,(wi (vi+1)),H,r.fj h⟩,gU _⟩
    refine aL dm<|qh h.m3 λh=>kA h (gG b5 #[Z 0,Z 0] 104) λw h=>bS<|cu<|br<|tr<|tr<|br<|tr<|λ_ r=>pY [Z 0,Z 0] (Z AA) rfl r (h.held 0 rfl)<|?_;cases H;exact⟨ZC,ZD,x35,Fv,rfl,h.se 5 [1,2,3]⟩
   refine wx<|te<|te<|bh<|tn<|ks<|kM (h.pick 4)<|qh h.m3 λh=>kA h (gG b5 #[Z vy,Z Y] 104) λw h=>bS<|cu<|λ_ r=>pY [Z vy,Z Y] (Z 0) rfl r (h.held 0 rfl)<|?_;cases H;exact⟨K9,La,XO,XP,rfl,h.se 5 [1,2,3]⟩
 refine aL dm<|qh h.m3 λh=>kA h (gG b5 #[Z 0,Z 0] 104) λw h=>bS<|cu<|tr<|λ_ r=>pY [Z 0,Z 0] (Z wU) rfl r (h.held 0 rfl)<|?_;cases H;exact⟨C4,BE,Jp,Gp,rfl,h.se 4 [1,2,3]⟩
def mH(O:Int):Option (Int):=
 (if O<1 then some 0 else(if O>64 then some 0 else some (wi ((2:Int)+O))))
theorem sY(H:mH O=some r0)(h:jb z (L) w) :
 nR 108 #[Z O] w z (Z r0) (L):=by
 unfold mH at H;refine ke func108 11 rfl λj=>iq<|wq<|aL [U,dx (O<1),dx (O<1)]<|qI H (λc1 H=>?_) λc1 H=>?_
 ·refine bW (dT c1) [6,7]<|nv (dT c1) (vB true)<|G<|λ_ r=>fV r (b:=true) rfl<|qq r<|iq<|wr<|tr<|?_;cases H;exact gR h
 refine cS (dF c1) [6,7] [Z O,dx (O>64)]<|ny (dF c1) (dx (O>64))<|G<|eB H (λc2 H=>?_) λc2 H=>?_
 ·refine iq<|wr<|tr<|?_;cases H;exact gR h
 refine gw<|aL [U,Z (wi ((2:Int)+O)),Z (wi ((2:Int)+O))]<|cu<|?_;cases H;exact gR h
def qm(O:ae)(Y:Int):Option (eZ×Int×ae):=
 eV (mH Y) (λr6=>(if r6=0 then some ((⟨0,0⟩:eZ),3,O)else eV (mH Y) (λr9=>pL (fL O r9) (λvy wU G3=>(if wU=0 then some ((⟨vy,Y⟩:eZ),0,G3)else some ((⟨0,0⟩:eZ),wU,G3))))))
theorem C6(H:qm O Y=some (r0,r1,q0))(h:jb z (gz B0 O ku kr ji k6 L) w) :
 wT 78 #[if_ 33 (pA B0 0),Z Y] w z (.tuple #[pM r0,Z r1]) λx1 x2 x3 x4=>gz B0 q0 x1 x2 x3 x4 L:=by
 unfold qm at H;refine ke func78 32 rfl λj=>ks<|kN h (#[Z 0,Z 0]) 106 λb5 w h=>bS<|G<|wq<|aL dm<|G<|λ_ r=>iO r (b:=false) rfl<|qq r<|gw<|wq<|ks<|gy H λr6 e7 H=>bS<|fD (sY e7 h :) λw h=>ko [vB (r6==0)]<|G<|eB H (λc8 H=>?_) λc8 H=>?_
 ·refine aL [U]<|kA h (gG b5 #[Z 0,Z 0] 106) λw h=>bS<|cu<|tr<|λ_ r=>pY [Z 0,Z 0] (Z 3) rfl r (h.held 0 rfl)<|?_;cases H;exact⟨ku,kr,ji,k6,rfl,h.se 4 [1,2,3]⟩
 refine gw<|wq<|gy H λr9 Hx H=>tG H λvy wU G3 Hu H=>nK [] [] 12 h (λ_=>trivial) λw h hd =>mU hd 7 16 [([0],if_ 33 (pA B0 0)),([1],Z Y),([3,4],.func (.method "Reserve") #[if_ 33 (pA B0 0)] #[]),([5],if_ 33 (pA B0 0))]<|lI 2 rfl<|fD (sY Hx h :) λw h=>G<|λ_ r=>xE<|lM 6 rfl<|qh h.m3.m3.m3 λh=>qq r<|kP (lX Hu h :) λC4 BE Jp Gp w h=>G<|mM<|iN 4 7 rfl (.tuple #[Z vy,Z wU])<|iN 3 8 rfl (Z vy)<|iN 2 9 rfl (Z wU)<|iN 1 10 rfl (Z vy)<|iN 0 11 rfl (Z wU)<|nJ<|tn<|wq<|aL [U,vB (wU != 0)]<|G<|qx H (λsW H=>?_) λsW H=>?_
 ·refine gw<|aL lJ<|qh h.m3 λh=>kA h (gG b5 #[Z vy,Z Y] 106) λw h=>bS<|cu<|λ_ r=>pY [Z vy,Z Y] (Z 0) rfl r (h.held 0 rfl)<|?_;cases H;exact⟨C4,BE,Jp,Gp,rfl,h.se 4 [1,2,3]⟩
 refine aL dm<|qh h.m3 λh=>kA h (gG b5 #[Z 0,Z 0] 106) λw h=>bS<|cu<|tr<|λ_ r=>pY [Z 0,Z 0] (Z wU) rfl r (h.held 0 rfl)<|?_;cases H;exact⟨C4,BE,Jp,Gp,rfl,h.se 4 [1,2,3]⟩
def sx(O:Int)(Y:Int):Option (Bool):=
 (if(1:Int)<=O then(if O<=Y then some (decide (Y<=4096))else some false)else some false)
theorem zN(H:sx O Y=some r0)(h:jb z (L) w) :
 nR 118 #[Z O,Z Y] w z (vB r0) (L):=by
 unfold sx at H;refine ke func118 16 rfl λj=>iq<|aL [U,dx ((1:Int)<=O),dx ((1:Int)<=O)]<|qI H (λc1 H=>?_) λc1 H=>?_
 ·refine cS (dT c1) [8,9,10] [Z O,Z Y,dx (O<=Y)]<|nv (dT c1) (dx (O<=Y))<|ko [dx (O<=Y)]<|qI H (λc2 H=>?_) λc2 H=>?_
  ·refine cS (dT c2) [13,14] [Z Y,dx (Y<=4096)]<|nv (dT c2) (dx (Y<=4096))<|ko [dx (Y<=4096)]<|cu<|?_;cases H;exact gR h
  refine bW (dF c2) [13,14]<|ny (dF c2) (vB false)<|bS<|cu<|?_;cases H;exact gR h
 refine bW (dF c1) [8,9,10]<|ny (dF c1) (vB false)<|bS<|bW (rfl:false=false) [13,14]<|ko dm<|cu<|?_;cases H;exact gR h
def oR(O:ae)(Y:Int)(p2:Int):Option (ck×Int×ae):=
 eV (sx Y p2) (λr6=>(if r6=true then pL (fL O (wi ((4:Int)+Y))) (λr9 AB AN=>(if AB=0 then sQ (dU AN (wi (r9+2)) (wi (r9+3))) (λlV tK=>(if lV=0 then sQ (dU tK (wi (r9+3)) Y) (λCp OH=>(if Cp=0 then some ((⟨r9,p2⟩:ck),0,OH)else some ((⟨0,0⟩:ck),Cp,OH)))else some ((⟨0,0⟩:ck),lV,tK)))else some ((⟨0,0⟩:ck),AB,AN)))else some ((⟨0,0⟩:ck),30,O)))
end
open Go SL GX
section
variable {K:Nat}
theorem Ca{i:Nat}(h:i<4611686018427387904):wi ((i:Int)+1)=((i+1:Nat):Int):=by rw[eI I];omega
theorem zd{α:Type}[Inhabited α]{n i:Nat}{x:α}(h:i<n):J (List.replicate n x) i=x:=by
 unfold J;rw[List.getD_eq_getElem?_getD,List.getElem?_replicate,aP h];rfl
theorem ua{α:Type}[Inhabited α]{l:List α}{i:Nat}(h:i<l.length):J l i∈l:=by
 unfold J;rw[List.getD_eq_getElem?_getD,List.getElem?_eq_getElem h];exact List.getElem_mem h
theorem Jq{α β:Type}[Inhabited α][Inhabited β](f:α->β){l:List α}{i:Nat}(h:i<l.length):J (l.map f) i=f (J l i):=by
 unfold J;rw[List.getD_eq_getElem?_getD,List.getD_eq_getElem?_getD,List.getElem?_map,List.getElem?_eq_getElem h];rfl
abbrev Pt:=Int×Int
def nx(f:aC)(a:Int):List Int:=
 if (J f.aq a.toNat).aE=3 then [(J f.aq a.toNat).A]else if(J f.aq a.toNat).aE=9 then []else if(J f.aq a.toNat).aE=4 then [a+1,(J f.aq a.toNat).B]else [a+1]
def Na(f:aC)(sl a st:Int):Int:=
 if (J f.aq a.toNat).aE=5/\(J f.aq a.toNat).A=sl then 2 else if(J f.aq a.toNat).aE=6/\st=2 then 4 else st
def nw(V:List Pt)(s:Int):List Int->List Pt
 | []=>[]
 | n::ns=>if(n,s)∈V then nw V s ns else(n,s)::nw (V++[(n,s)]) s ns
def OJ(f:aC)(sl:Int):Nat->List Pt->Nat->List Pt
 | 0,V,_=>V
 | d+1,V,k=>if k<V.length then OJ f sl d (V++nw V (Na f sl (J V k).1 (J V k).2) (nx f (J V k).1)) (k+1)else V
structure Nb(f:aC):Prop where
 lo:1<=f.aq.length
 hi:f.aq.length<=512
 nx:∀a:Int,0<=a->a<f.aq.length->∀n∈nx f a,0<=n/\n<f.aq.length
 kind:∀a:Int,0<=a->a<f.aq.length->0<=(J f.aq a.toNat).aE/\(J f.aq a.toNat).aE<10
def P5(s:Int):Prop:=s=1∨s=2∨s=4
structure Ln(f:aC)(V:List Pt):Prop where
 Ua:∀x∈V,0<=x.1/\x.1<f.aq.length/\P5 x.2
 nd:V.Nodup
theorem Gq:∀(n:Nat) (l:List Nat),l.Nodup->(∀x∈l,x<n)->l.length<=n
 | 0,l,_,h=>by cases l with | nil=>simp | cons a l=>exact absurd (h a (by simp)) I
 | n+1,l,hd,h=>by
  by_cases e:n∈l
  ·have:=Gq n (l.erase n) (hd.erase n) (λx hx=>by
    have h1:=h x (List.mem_of_mem_erase hx);have:x≠n:=λe=>by subst e;exact(List.Nodup.not_mem_erase hd) hx
    omega)
   rw[List.length_erase_of_mem e]at this;omega
  ·have:=Gq n l hd (λx hx=>by
    have h1:=h x hx;have:x≠n:=λe'=>by subst e';exact e hx
    omega)
   omega
def cd(x:Pt):Nat:=x.1.toNat*3+(if x.2=1 then 0 else if x.2=2 then 1 else 2)
theorem Ln.len{f:aC}{V:List Pt}(h:Ln f V):V.length<=3*f.aq.length:=by
 have:=Gq (3*f.aq.length) (V.map cd) (by
  refine List.pairwise_map.2 (h.nd.imp_of_mem λ{x y} hx hy hxy e=>hxy ?_);obtain⟨a1,a2,a3⟩:=h.Ua x hx;obtain⟨b1,b2,b3⟩:=h.Ua y hy;obtain⟨x1,x2⟩:=x;obtain⟨y1,y2⟩:=y;unfold cd at e;simp only at *;rcases a3 with rfl | rfl | rfl<;>rcases b3 with rfl | rfl | rfl<;>simp at e<;>first | omega | (obtain rfl:x1=y1:=I);rfl) (λn hn=>by
  obtain⟨x,hx,rfl⟩:=List.mem_map.1 hn;obtain⟨a1,a2,a3⟩:=h.Ua x hx;unfold cd;rcases a3 with h | h | h<;>simp only[h]<;>simp<;>omega)
 simpa using this
theorem Jr{f:aC}{s:Int}(hs:P5 s):∀(ns:List Int) (V:List Pt),Ln f V->(∀n∈ns,0<=n/\n<f.aq.length)->Ln f (V++nw V s ns)/\∀n∈ns,(n,s)∈V++nw V s ns
 | [],V,h,_=>by simp[nw];exact h
 | n::ns,V,h,hn=>by
  unfold nw;split
  ·rename_i e;obtain⟨a,b⟩:=Jr hs ns V h (λm hm=>hn m (Ik _ hm));refine⟨a,λm hm => ?_⟩;rcases List.mem_cons.1 hm with rfl | hm
   ·exact List.mem_append_left _ e
   ·exact b m hm
  ·rename_i e;have h':Ln f (V++[(n,s)]):=⟨λx hx=>by
    rcases List.mem_append.1 hx with hx | hx
    ·exact h.Ua x hx
    ·rw[List.mem_singleton.1 hx];exact⟨(hn n (by simp)).1,(hn n (by simp)).2,hs⟩,List.nodup_append.2 ⟨h.nd,by simp,λx hx y hy e'=>by rw[List.mem_singleton.1 hy]at e';subst e';exact e hx⟩⟩
   obtain⟨a,b⟩:=Jr hs ns (V++[(n,s)]) h' (λm hm=>hn m (Ik _ hm));rw[pS,Il]at a b;refine⟨a,λm hm => ?_⟩;rcases List.mem_cons.1 hm with rfl | hm
   ·simp
   ·exact b m hm
def Cr(f:aC)(sl:Int)(V:List Pt)(k:Nat):Prop:=∀j,j<k->j<V.length->∀n∈nx f (J V j).1,(n,Na f sl (J V j).1 (J V j).2)∈V
theorem XQ{f:aC}{sl a s:Int}(h:P5 s):P5 (Na f sl a s):=by
 unfold Na;split
 ·exact .inr (.inl rfl)
 ·split
  ·exact .inr (.inr rfl)
  ·exact h
theorem D2{f:aC}(hf:Nb f){sl:Int}{V:List Pt}{k:Nat}(h:Ln f V)(hk:k<V.length)(hc:Cr f sl V k) :
 Ln f (V++nw V (Na f sl (J V k).1 (J V k).2) (nx f (J V k).1))/\Cr f sl (V++nw V (Na f sl (J V k).1 (J V k).2) (nx f (J V k).1)) (k+1):=by
 obtain⟨a1,a2,a3⟩:=h.Ua _ (ua hk);obtain⟨a,b⟩:=Jr (XQ (f:=f) (sl:=sl) (a:=(J V k).1) a3) (nx f (J V k).1) V h (hf.nx _ a1 a2);refine⟨a,λj hj hl n hn => ?_⟩;have hjV:j<V.length:=by omega
 rw[rV hjV]at hn⊢;by_cases e:j=k
 ·subst e;exact b n hn
 ·exact List.mem_append_left _ (hc j I hjV n hn)
theorem Sn{f:aC}(hf:Nb f){sl:Int}:∀(d k:Nat) (V:List Pt),k+d=3*f.aq.length->Ln f V->Cr f sl V k->k<=V.length->
 Ln f (OJ f sl d V k)/\Cr f sl (OJ f sl d V k) (OJ f sl d V k).length/\(∀x∈V,x∈OJ f sl d V k)
 | 0,k,V,hd,h,hc,hk=>by
  unfold OJ;have:=h.len;obtain rfl:k=V.length:=by omega
  exact⟨h,hc,λ_ h=>h⟩
 | d+1,k,V,hd,h,hc,hk=>by
  unfold OJ;split
  ·rename_i e;obtain⟨a,b⟩:=D2 hf h e hc;obtain⟨r1,r2,r3⟩:=Sn hf d (k+1) _ I a b (by rw[jM];omega);exact⟨r1,r2,λx hx=>r3 x (List.mem_append_left _ hx)⟩
  ·rename_i e;obtain rfl:k=V.length:=by omega
   exact⟨h,hc,λ_ h=>h⟩
def wt(V:List Pt)(a:Int):Int:=(if(a,1)∈V then 1 else 0)+(if(a,2)∈V then 2 else 0)+(if(a,4)∈V then 4 else 0)
structure Ws(f:aC)(V:List Pt)(met:List Int):Prop where
 len:met.length=f.aq.length
 val:∀a,a<f.aq.length->J met a=wt V a
theorem aaY:∀(a b c:Bool) (s:Int),P5 s->((iI ((if a then 1 else 0)+(if b then 2 else 0)+(if c then 4 else 0)) s=0)↔(s=1/\a=false)∨(s=2/\b=false)∨(s=4/\c=false)):=by
 intro a b c s hs;rcases hs with rfl | rfl | rfl<;>cases a<;>cases b<;>cases c<;>decide
theorem Fw{V:List Pt}{a s:Int}(hs:P5 s):iI (wt V a) s=0↔(a,s)∉V:=by
 have:=aaY (decide ((a,1)∈V)) (decide ((a,2)∈V)) (decide ((a,4)∈V)) s hs;simp only[Aj,decide_eq_false_iff_not]at this;unfold wt;rw[this];rcases hs with rfl | rfl | rfl<;>simp
theorem XR{V:List Pt}{a:Int}:0<=wt V a/\wt V a<=7:=by
 unfold wt;split<;>split<;>split<;>omega
theorem XS{V:List Pt}{n s:Int}(hs:P5 s)(hn:(n,s)∉V)(a:Int):wt (V++[(n,s)]) a=if a=n then wt V a+s else wt V a:=by
 unfold wt;by_cases e:a=n
 ·subst e;rw[aP rfl];rcases hs with rfl | rfl | rfl<;>simp[hn]<;>omega
 ·rw[ct e];simp[e]
theorem Ws.add{f:aC}{V:List Pt}{met:List Int}{n s:Int}(h:Ws f V met)(hs:P5 s)(hn:(n,s)∉V)(h0:0<=n)(h1:n<f.aq.length) :
 Ws f (V++[(n,s)]) (met.set n.toNat (wi (J met n.toNat+s))):=by
 refine⟨by rw[gY];exact h.len,λa ha => ?_⟩;rw[XS hs hn];by_cases e:n.toNat=a
 ·subst e;rw[tB (by rw[h.len];omega),pR,h.val _ ha];have:=XR (V:=V) (a:=((n.toNat:Nat):Int));rw[eI];rcases hs with rfl | rfl | rfl<;>omega
 ·rw[yo e,ez,h.val a ha]
theorem Nc{f:aC}{s:Int}(hs:P5 s){ns:List Int}(PS:∀n∈ns,0<=n/\n<f.aq.length)(hlen:f.aq.length<=512)(hnl:ns.length<=2):∀(d k i:Nat) (V:List Pt) (met:List Int),i+d=ns.length->d<k->Ln f V->Ws f V met->
 ∃met',gI K s ns k met (V.map (·.1)) (V.map (·.2)) (i:Int)=some (met',(V++nw V s (ns.drop i)).map (·.1),(V++nw V s (ns.drop i)).map (·.2))/\Ws f (V++nw V s (ns.drop i)) met'
 | d,k,i,V,met,hd,hk,hV,hm=>by
  obtain⟨k,rfl⟩ :∃m,k=m+1:=⟨k-1,I⟩;rw[gI];have hL:=hV.len;by_cases hi:i<ns.length
  ·obtain⟨d,rfl⟩ :∃m,d=m+1:=⟨d-1,I⟩;have hdr:ns.drop i=J ns i::ns.drop (i+1):=by
    rw[N9 hi];unfold J;rw[List.getD_eq_getElem?_getD,List.getElem?_eq_getElem hi];rfl
   obtain⟨n0,n1⟩:=PS _ (ua hi);rw[pR,aP ⟨I,I⟩,cO,aP ⟨n0,by rw[hm.len];exact n1⟩,hm.val _ I,show(((J ns i).toNat:Nat):Int)=J ns i by omega,Ca I,hdr];rw[nw];by_cases e:(J ns i,s)∈V
   ·rw[ct (λh=>(Fw hs).1 h e),aP e];exact Nc hs PS hlen hnl d k (i+1) V met I I hV hm
   ·rw[aP ((Fw hs).2 e),ct e,aP (by rw[BS];omega),aP (by rw[BS];omega)];have hV':Ln f (V++[(J ns i,s)]):=⟨λx hx=>by
     rcases List.mem_append.1 hx with hx | hx
     ·exact hV.Ua x hx
     ·rw[List.mem_singleton.1 hx];exact⟨n0,n1,hs⟩,List.nodup_append.2 ⟨hV.nd,by simp,λx hx y hy e'=>by rw[List.mem_singleton.1 hy]at e';subst e';exact e hx⟩⟩
    have hm':=hm.add hs e n0 n1;rw[hm.val _ I,show(((J ns i).toNat:Nat):Int)=J ns i by omega]at hm';obtain⟨met',r1,r2⟩:=Nc hs PS hlen hnl d k (i+1) _ _ I I hV' hm';refine⟨met',?_,?_⟩
    ·rw[FF,FF,pS,Il]at r1;exact r1
    ·rw[pS,Il]at r2;exact r2
  ·rw[ez,yg I];simp only[nw,zH];exact⟨met,rfl,hm⟩
theorem Lo{f:aC}{sl a s:Int}:oZ (J f.aq a.toNat) sl s=some (Na f sl a s)/\ve (J f.aq a.toNat) sl s=some (Na f sl a s):=by
 unfold oZ ve Na;by_cases h1:(J f.aq a.toNat).aE=5
 ·by_cases h2:(J f.aq a.toNat).A=sl
  ·simp[h1,h2]
  ·simp[h1,h2]
 ·by_cases h2:(J f.aq a.toNat).aE=6
  ·by_cases h3:s=2<;>simp[h1,h2,h3]
  ·simp[h1,h2]
theorem So{f:aC}(hlen:f.aq.length<=512){a:Int}(h0:0<=a)(h1:a<f.aq.length):pe f a=some (nx f a):=by
 unfold pe nx;rw[aP ⟨h0,h1⟩,eI (x:=a+1) I];split
 ·rfl
 ·split
  ·rfl
  ·split<;>rfl
theorem Js{f:aC}{a:Int}:(nx f a).length<=2:=by
 unfold nx;split
 ·simp
 split
 ·simp
 split<;>simp
theorem Sp{f:aC}(hf:Nb f){sl:Int}(hK:3000<K):∀(d j k:Nat) (V:List Pt) (met:List Int),j+d=3*f.aq.length->d<k->j<=V.length->Ln f V->Cr f sl V j->Ws f V met->
 ∃met',ic K f sl k met (V.map (·.1)) (V.map (·.2)) (j:Int)=some met'/\Ws f (OJ f sl d V j) met'
 | d,j,k,V,met,hd,hk,hj,hV,hc,hm=>by
  obtain⟨k,rfl⟩ :∃m,k=m+1:=⟨k-1,I⟩;rw[ic];have hL:=hV.len;have Jt:=hf.hi;by_cases hi:j<V.length
  ·obtain⟨d,rfl⟩ :∃m,d=m+1:=⟨d-1,I⟩;obtain⟨a1,a2,a3⟩:=hV.Ua _ (ua hi);rw[aP (by rw[BS];omega),aP ⟨I,by rw[BS];omega⟩,cO,Jq _ hi,Jq _ hi,aP ⟨a1,a2⟩,aP ⟨I,by rw[BS];omega⟩,Lo.1,ax,So Jt a1 a2,ax,Ca I];obtain⟨met',r1,r2⟩:=Nc (K:=K) (f:=f) (s:=Na f sl (J V j).1 (J V j).2) (XQ a3) (ns:=nx f (J V j).1) (hf.nx _ a1 a2) Jt Js (nx f (J V j).1).length K 0 V met I (by have:=Js (f:=f) (a:=(J V j).1);omega) hV hm;rw[pT]at r1;rw[r1,dw,OJ,aP hi];obtain⟨b1,b2⟩:=D2 hf hV hi hc;exact Sp hf hK d (j+1) k _ _ I I (by rw[jM];omega) b1 b2 r2
  ·rw[ct (by rw[BS];omega)];refine⟨met,rfl,?_⟩;cases d with
   | zero=>exact hm
   | succ d=>rw[OJ,ct hi];exact hm
def reach(f:aC)(sl:Int):List Pt:=OJ f sl (3*f.aq.length) [(0,1)] 0
theorem XT{f:aC}(hf:Nb f):Ln f [(0,1)]:=⟨λx hx=>by rw[List.mem_singleton.1 hx];exact⟨eF,by have:=hf.lo;omega,.inl rfl⟩,by simp⟩
theorem Gr{f:aC}(hf:Nb f)(sl:Int):Ln f (reach f sl)/\Cr f sl (reach f sl) (reach f sl).length/\(0,1)∈reach f sl:=by
 obtain⟨a,b,c⟩:=Sn hf (sl:=sl) (3*f.aq.length) 0 [(0,1)] I (XT hf) (λj hj=>I) (by simp);exact⟨a,b,c _ (by simp)⟩
theorem Nd{f:aC}(hf:Nb f)(sl:Int)(hK:3000<K) :∃met,lW K f sl=some met/\Ws f (reach f sl) met:=by
 unfold lW;have h1:=hf.lo;have h2:=hf.hi;rw[aP ⟨I,I⟩,aP ⟨eF,by rw[mo];omega⟩];exact Sp hf hK (3*f.aq.length) 0 K [(0,1)] _ I I (by simp) (XT hf) (λj hj=>I) ⟨by simp,λa ha=>by
  by_cases e:a=0
  ·subst e;rw[tB (by simpa using ha)];simp[wt]
  ·rw[yo I,zd ha];unfold wt;rw[ct (by simp;omega),ct (by simp),ct (by simp)];rfl⟩
end
section
variable {K:Nat}
abbrev pt(x:Pt):aQ:=⟨x.1,x.2⟩
theorem XU{x y:Pt}(h:pt x=pt y):x=y:=by
 obtain⟨a,b⟩:=x;obtain⟨c,d⟩:=y;simp only[pt,aQ.mk.injEq]at h;rw[h.1,h.2]
theorem Lp{β:Type}:∀(l:List (aQ×β)) (k:aQ),(wV l k).isSome=true↔k∈l.map (·.1)
 | [],k=>by simp[wV]
 | (a,b)::l,k=>by
  unfold wV;by_cases e:k=a
  ·simp[e]
  ·rw[ct e,Lp l k];simp[e]
theorem mem_keys{V:List Pt}{m:List (aQ×aQ)}(h:m.map (·.1)=V.map pt)(x:Pt):(wV m (pt x)).isSome=true↔x∈V:=by
 rw[Lp,h,List.mem_map];exact⟨λ⟨y,hy,e⟩=>XU e▸ hy,λhx=>⟨x,hx,rfl⟩⟩
theorem Ju{f:aC}{s:Int}(hs:P5 s){ns:List Int}(l8:List aQ)(PS:∀n∈ns,0<=n/\n<f.aq.length)(hlen:f.aq.length<=512)(hnl:ns.length<=2):∀(d k i:Nat) (V:List Pt) (m:List (aQ×aQ)) (afs:List aQ),i+d=ns.length->d<k->Ln f V->m.map (·.1)=V.map pt->afs.length<=V.length->
 ∃m',jt K l8 s ns k m afs (i:Int)=some (m',afs++(nw V s (ns.drop i)).map pt)/\m'.map (·.1)=(V++nw V s (ns.drop i)).map pt
 | d,k,i,V,m,afs,hd,hk,hV,hm,hW=>by
  obtain⟨k,rfl⟩ :∃m,k=m+1:=⟨k-1,I⟩;rw[jt];have hL:=hV.len;by_cases hi:i<ns.length
  ·obtain⟨d,rfl⟩ :∃m,d=m+1:=⟨d-1,I⟩;have hdr:ns.drop i=J ns i::ns.drop (i+1):=by
    rw[N9 hi];unfold J;rw[List.getD_eq_getElem?_getD,List.getElem?_eq_getElem hi];rfl
   obtain⟨n0,n1⟩:=PS _ (ua hi);rw[pR,aP ⟨I,I⟩,cO,Ca I,hdr,nw];by_cases e:(J ns i,s)∈V
   ·rw[aP ((mem_keys hm (J ns i,s)).2 e),aP e];exact Ju hs l8 PS hlen hnl d k (i+1) V m afs I I hV hm hW
   ·have e0:¬(wV m (⟨J ns i,s⟩:aQ)).isSome=true:=λh=>e ((mem_keys hm (J ns i,s)).1 h);have e1:wV m (⟨J ns i,s⟩:aQ)=none:=by
     cases h:wV m (⟨J ns i,s⟩:aQ)with
     | none=>rfl
     | some x=>rw[h]at e0;exact absurd rfl e0
    rw[ct e0,ct e,aP e1,pR];have hV':Ln f (V++[(J ns i,s)]):=⟨λx hx=>by
     rcases List.mem_append.1 hx with hx | hx
     ·exact hV.Ua x hx
     ·rw[List.mem_singleton.1 hx];exact⟨n0,n1,hs⟩,List.nodup_append.2 ⟨hV.nd,by simp,λx hx y hy e'=>by rw[List.mem_singleton.1 hy]at e';subst e';exact e hx⟩⟩
    obtain⟨m',r1,r2⟩:=Ju hs l8 PS hlen hnl d k (i+1) (V++[(J ns i,s)]) (m++[((⟨J ns i,s⟩:aQ),J l8 0)]) (afs++[(⟨J ns i,s⟩:aQ)]) I I hV' (by rw[FF,FF,hm];rfl) (by simp;omega);refine⟨m',?_,?_⟩
    ·rw[pS,Il]at r1;exact r1
    ·rw[pS,Il]at r2;exact r2
  ·rw[ez,yg I];simp only[nw,zH,Ai];exact⟨m,rfl,hm⟩
theorem adi{k:Int}(h0:0<=k)(h1:k<10):(J wS k.toNat).next = !(decide (k=3)||decide (k=9)):=by
 rcases(by omega:k=0∨k=1∨k=2∨k=3∨k=4∨k=5∨k=6∨k=7∨k=8∨k=9)with rfl | rfl | rfl | rfl | rfl | rfl | rfl | rfl | rfl | rfl<;>rfl
theorem P6{f:aC}(hf:Nb f){a:Int}(h0:0<=a)(h1:a<f.aq.length):vg f a=some (nx f a):=by
 have Jt:=hf.hi;obtain⟨k0,k1⟩:=hf.kind a h0 h1;have hn:=hf.nx a h0 h1;unfold vg;rw[aP ⟨h0,h1⟩,aP ⟨k0,by exact k1⟩,adi k0 k1,eI (x:=a+1) I];unfold nx at hn⊢;by_cases e3:(J f.aq a.toNat).aE=3
 ·simp[e3]
 ·by_cases e9:(J f.aq a.toNat).aE=9
  ·simp[e9]
  ·by_cases e4:(J f.aq a.toNat).aE=4
   ·have:a+1<f.aq.length:=by rw[ct e3,ct e9,aP e4]at hn;exact(hn (a+1) (by simp)).2
    simp[e4,this]
   ·have:a+1<f.aq.length:=by rw[ct e3,ct e9,ct e4]at hn;exact(hn (a+1) (by simp)).2
    simp[e3,e4,e9,this]
theorem OL{f:aC}(hf:Nb f){sl:Int}(hK:3000<K):∀(d j k:Nat) (V:List Pt) (m:List (aQ×aQ)),j+d=3*f.aq.length->d<k->j<=V.length->Ln f V->Cr f sl V j->m.map (·.1)=V.map pt->
 ∃m',kG K f sl k m ((V.drop j).map pt)=some m'/\m'.map (·.1)=(OJ f sl d V j).map pt
 | d,j,k,V,m,hd,hk,hj,hV,hc,hm=>by
  obtain⟨k,rfl⟩ :∃m,k=m+1:=⟨k-1,I⟩;rw[kG];have hL:=hV.len;have Jt:=hf.hi;by_cases hi:j<V.length
  ·obtain⟨d,rfl⟩ :∃m,d=m+1:=⟨d-1,I⟩;obtain⟨a1,a2,a3⟩:=hV.Ua _ (ua hi);have hl:((V.drop j).map pt).length=V.length-j:=by simp
   have h0:J ((V.drop j).map pt) 0=pt (J V j):=by
    rw[Jq _ (by simp;omega)];congr 1;unfold J;simp[List.getD_eq_getElem?_getD]
   have h1:((V.drop j).map pt).drop 1=(V.drop (j+1)).map pt:=by rw[<-List.map_drop,List.drop_drop]
   rw[aP (by rw[hl];omega),aP ⟨eF,by rw[hl];omega⟩,aP ⟨eF,by rw[hl];omega⟩,aP (by rw[hl];omega),h0,h1,uU,ax,ct eF,aP ⟨a1,a2⟩,Lo.2,ax,P6 hf a1 a2,ax];obtain⟨m',r1,r2⟩:=Ju (K:=K) (f:=f) (s:=Na f sl (J V j).1 (J V j).2) (XQ a3) (ns:=nx f (J V j).1) ((V.drop j).map pt) (hf.nx _ a1 a2) Jt Js (nx f (J V j).1).length K 0 V m ((V.drop (j+1)).map pt) I (by have:=Js (f:=f) (a:=(J V j).1);omega) hV hm (by simp);rw[pT]at r1;rw[r1,fc,OJ,aP hi,mY];rw[mY]at r2;obtain⟨b1,b2⟩:=D2 hf hV hi hc;rw[show(V.drop (j+1)).map pt++(nw V (Na f sl (J V j).1 (J V j).2) (nx f (J V j).1)).map pt=((V++nw V (Na f sl (J V j).1 (J V j).2) (nx f (J V j).1)).drop (j+1)).map pt by rw[Ia I,FF]];exact OL hf hK d (j+1) k _ m' I I (by rw[jM];omega) b1 b2 r2
  ·have:(V.drop j).map pt=[]:=by rw[yg I];rfl
   rw[this,ct (by simp)];refine⟨m,rfl,?_⟩;cases d with
   | zero=>exact hm
   | succ d=>rw[OJ,ct hi];exact hm
theorem UZ{f:aC}(hf:Nb f)(sl:Int)(hK:3000<K) :∃m,qd K f sl=some m/\m.map (·.1)=(reach f sl).map pt:=by
 unfold qd;have h2:=hf.hi;exact OL hf hK (3*f.aq.length) 0 K [(0,1)] _ I I (by simp) (XT hf) (λj hj=>I) rfl
structure OM(f:aC)(R:List (List Int))(n:Nat):Prop where
 len:R.length=f.aq.length
 wid:∀a,a<f.aq.length->(J R a).length=f.bD.toNat
 val:∀a,a<f.aq.length->∀c,c<n->c<f.bD.toNat->J (J R a) c=wt (reach f c) a
 zero:∀a,a<f.aq.length->∀c,n<=c->c<f.bD.toNat->J (J R a) c=0
theorem Sq{f:aC}{R Q:List (List Int)}{n:Nat}(h:OM f R n)(k:OM f Q n):R=Q:=by
 have ext:∀{α:Type} [Inhabited α] (x y:List α),x.length=y.length->(∀i,i<x.length->J x i=J y i)->x=y:=by
  intro α _ x y hl he;refine Kp hl λi h1 h2 => ?_;have:=he i h1;unfold J at this;rw[List.getD_eq_getElem?_getD,List.getD_eq_getElem?_getD,List.getElem?_eq_getElem h1,List.getElem?_eq_getElem h2]at this;exact this
 refine ext R Q (by rw[h.len,k.len]) λi hi => ?_;rw[h.len]at hi;exact ext _ _ (by rw[h.wid i hi,k.wid i hi]) λc hc=>by
  rw[h.wid i hi]at hc;by_cases e:c<n
  ·rw[h.val i hi c e hc,k.val i hi c e hc]
  ·rw[h.zero i hi c I hc,k.zero i hi c I hc]
end
section
variable {K:Nat}
theorem pV{α:Type}[Inhabited α]{l:List α}{i k:Nat}{x:α}(h:i<l.length):J (l.set i x) k=if k=i then x else J l k:=by
 by_cases e:k=i
 ·subst e;rw[tB h,aP rfl]
 ·rw[yo (λe'=>e e'.symm),ct e]
def Zero(f:aC)(R:List (List Int))(i:Nat):Prop:=R.length=f.aq.length/\∀a,a<i->J R a=List.replicate f.bD.toNat 0
theorem ON{f:aC}(hf:Nb f)(h0:0<=f.bD)(h8:f.bD<=8):∀(d k i:Nat) (R:List (List Int)),i+d=f.aq.length->d<k->Zero f R i->
 ∃R',kD K f k R (i:Int)=some R'/\og K f k R (i:Int)=some R'/\Zero f R' f.aq.length
 | d,k,i,R,hd,hk,hz=>by
  obtain⟨k,rfl⟩ :∃m,k=m+1:=⟨k-1,I⟩;rw[kD,og];have h2:=hf.hi;by_cases hi:i<f.aq.length
  ·obtain⟨d,rfl⟩ :∃m,d=m+1:=⟨d-1,I⟩;rw[aP (by rw[mo];omega),aP ⟨h0,I⟩,aP ⟨I,by rw[hz.1];omega⟩,aP (by rw[mo];omega),aP ⟨h0,I⟩,aP ⟨I,by rw[hz.1];omega⟩,cO,Ca I];exact ON hf h0 h8 d k (i+1) _ I I ⟨by rw[gY];exact hz.1,λa ha=>by
    rw[pV (by rw[hz.1];exact hi)];split
    ·rfl
    ·exact hz.2 a I⟩
  ·rw[ct (by rw[mo];omega),ct (by rw[mo];omega)];obtain rfl:i=f.aq.length:=by omega
   exact⟨R,rfl,rfl,hz⟩
structure Sr(f:aC)(R R':List (List Int))(c:Nat)(i:Nat)(v:Nat->Int):Prop where
 len:R'.length=f.aq.length
 wid:∀a,a<f.aq.length->(J R' a).length=f.bD.toNat
 lo:∀a,a<i->a<f.aq.length->J (J R' a) c=v a
 hi:∀a,i<=a->a<f.aq.length->J (J R' a) c=J (J R a) c
 Ub:∀a,a<f.aq.length->∀b,b≠c->J (J R' a) b=J (J R a) b
theorem Sr.tab{f:aC}{R R':List (List Int)}{c:Nat}(h:OM f R c)(k:Sr f R R' c f.aq.length (λa=>wt (reach f c) a)):OM f R' (c+1):=by
 refine⟨k.len,k.wid,λa ha b hb hs => ?_,λa ha b hb hs => ?_⟩
 ·by_cases e:b=c
  ·subst e;exact k.lo a ha ha
  ·rw[k.Ub a ha b e];exact h.val a ha b I hs
 ·rw[k.Ub a ha b I];exact h.zero a ha b I hs
theorem OO{f:aC}(hf:Nb f){c:Nat}(hc:c<f.bD.toNat){met:List Int}(hm:met.length=f.aq.length){R:List (List Int)}:∀(d k i:Nat) (Q:List (List Int)),i+d=f.aq.length->d<k->Sr f R Q c i (λa=>J met a)->
 ∃R',kE K f (c:Int) met k Q (i:Int)=some R'/\Sr f R R' c f.aq.length (λa=>J met a)
 | d,k,i,Q,hd,hk,hz=>by
  obtain⟨k,rfl⟩ :∃m,k=m+1:=⟨k-1,I⟩;rw[kE];have h2:=hf.hi;by_cases hi:i<f.aq.length
  ·obtain⟨d,rfl⟩ :∃m,d=m+1:=⟨d-1,I⟩;have hl:=hz.len;have hw:=hz.wid i hi;rw[aP (by rw[mo];omega),aP ⟨I,I⟩,aP ⟨I,I⟩,cO,aP ⟨I,by rw[hw];omega⟩,cO,Ca I];refine OO hf hc hm d k (i+1) _ I I ⟨by rw[gY];exact hl,λa ha => ?_,λa ha hb => ?_,λa ha hb => ?_,λa ha b hb => ?_⟩
   ·rw[pV I];split
    ·rw[gY];exact hw
    ·exact hz.wid a ha
   ·rw[pV I];split
    ·rename_i e;subst e;rw[tB I]
    ·exact hz.lo a I hb
   ·rw[pV I,ez];exact hz.hi a I hb
   ·rw[pV I];split
    ·rename_i e;subst e;rw[yo (λe=>hb e.symm)];exact hz.Ub a ha b hb
    ·exact hz.Ub a ha b hb
  ·rw[ct (by rw[mo];omega)];obtain rfl:i=f.aq.length:=by omega
   exact⟨Q,rfl,hz⟩
theorem Sr.zero{f:aC}{R:List (List Int)}{c n:Nat}(h:OM f R n)(v:Nat->Int):Sr f R R c 0 v:=⟨h.len,h.wid,λa ha=>I,λ_ _ _=>rfl,λ_ _ _ _=>rfl⟩
theorem OP{f:aC}(hf:Nb f)(h0:0<=f.bD)(h8:f.bD<=8)(hK:3000<K):∀(d k i:Nat) (R:List (List Int)),i+d=f.bD.toNat->d<k->OM f R i->
 ∃R',kF K f k R (i:Int)=some R'/\OM f R' f.bD.toNat
 | d,k,i,R,hd,hk,hz=>by
  obtain⟨k,rfl⟩ :∃m,k=m+1:=⟨k-1,I⟩;rw[kF];have h2:=hf.hi;by_cases hi:i<f.bD.toNat
  ·obtain⟨d,rfl⟩ :∃m,d=m+1:=⟨d-1,I⟩;obtain⟨met,e1,e2⟩:=Nd (K:=K) hf (i:Int) hK;obtain⟨R',r1,r2⟩:=OO (K:=K) hf hi e2.len f.aq.length K 0 R I I (Sr.zero hz _);rw[pR,e1,ax,pT]at *;rw[r1,ax,Ca I];refine OP hf h0 h8 hK d k (i+1) R' I I (Sr.tab hz ⟨r2.len,r2.wid,λa ha hb => ?_,r2.hi,r2.Ub⟩);rw[r2.lo a ha hb];exact e2.val a hb
  ·rw[ez];obtain rfl:i=f.bD.toNat:=by omega
   exact⟨R,rfl,hz⟩
theorem XV:∀(a b c:Bool) (s:Int),P5 s->(Q9 ((if a then 1 else 0)+(if b then 2 else 0)+(if c then 4 else 0)) s)=(if a||decide (s=1)then 1 else 0)+(if b||decide (s=2)then 2 else 0)+(if c||decide (s=4)then 4 else 0):=by
 intro a b c s hs;rcases hs with rfl | rfl | rfl<;>cases a<;>cases b<;>cases c<;>decide
theorem aaZ{V:List Pt}{a s:Int}(hs:P5 s):Q9 (wt V a) s=wt (V++[(a,s)]) a:=by
 have:=XV (decide ((a,1)∈V)) (decide ((a,2)∈V)) (decide ((a,4)∈V)) s hs;simp only[Aj]at this;unfold wt;rw[this];simp only[List.mem_append,List.mem_singleton,Prod.mk.injEq,true_and];rcases hs with rfl | rfl | rfl<;>simp
theorem aa0{V:List Pt}{a b s:Int}(h:a≠b):wt (V++[(b,s)]) a=wt V a:=by unfold wt;simp[h]
theorem XW{V afs:List Pt}(h:∀x,x∈V↔x∈afs)(a:Int):wt V a=wt afs a:=by unfold wt;simp only[h]
theorem OQ{f:aC}(hf:Nb f){c:Nat}(hc:c<f.bD.toNat){R:List (List Int)}:∀(l:List (aQ×aQ)) (U:List Pt) (Q:List (List Int)),(∀x∈l,0<=x.1.J/\x.1.J<f.aq.length/\P5 x.1.state)->Sr f R Q c f.aq.length (λa=>wt U a)->
 ∃R',l.foldlM (λs x=>oh K (c:Int) x s) Q=some R'/\Sr f R R' c f.aq.length (λa=>wt (U++l.map (λx=>(x.1.J,x.1.state))) a)
 | [],U,Q,_,hz=>⟨Q,rfl,by simpa using hz⟩
 | x::l,U,Q,hl,hz=>by
  obtain⟨a1,a2,a3⟩:=hl x (by simp);have hL:=hz.len;have hw:=hz.wid x.1.J.toNat I;rw[List.foldlM_cons,oh,aP ⟨a1,I⟩,aP ⟨I,by rw[hw];omega⟩,cO];have hv:J (J Q x.1.J.toNat) c=wt U ((x.1.J.toNat:Nat):Int):=hz.lo x.1.J.toNat I I;rw[hv,aaZ a3,show((x.1.J.toNat:Nat):Int)=x.1.J by omega];obtain⟨R',r1,r2⟩:=OQ hf hc (R:=R) l (U++[(x.1.J,x.1.state)]) (Q.set x.1.J.toNat ((J Q x.1.J.toNat).set c (wt (U++[(x.1.J,x.1.state)]) x.1.J))) (λy hy=>hl y (Ik _ hy)) (by
   refine⟨by rw[gY];exact hL,λa ha => ?_,λa ha hb => ?_,λa ha hb=>I,λa ha b hb => ?_⟩
   ·rw[pV I];split
    ·rw[gY];exact hw
    ·exact hz.wid a ha
   ·rw[pV I];split
    ·rename_i e;subst e;rw[tB I,show((x.1.J.toNat:Nat):Int)=x.1.J by omega]
    ·rename_i e;rw[hz.lo a ha hb,aa0 I]
   ·rw[pV I];split
    ·rename_i e;subst e;rw[yo (λe=>hb e.symm)];exact hz.Ub _ ha b hb
    ·exact hz.Ub a ha b hb)
  refine⟨R',r1,?_⟩;rw[pS,Il]at r2;exact r2
theorem ID{f:aC}(hf:Nb f)(h0:0<=f.bD)(h8:f.bD<=8)(hK:3000<K):∀(d k i:Nat) (R:List (List Int)),i+d=f.bD.toNat->d<k->OM f R i->
 ∃R',oq K f k R (i:Int)=some R'/\OM f R' f.bD.toNat
 | d,k,i,R,hd,hk,hz=>by
  obtain⟨k,rfl⟩ :∃m,k=m+1:=⟨k-1,I⟩;rw[oq];by_cases hi:i<f.bD.toNat
  ·obtain⟨d,rfl⟩ :∃m,d=m+1:=⟨d-1,I⟩;obtain⟨m,e1,e2⟩:=UZ (K:=K) hf (i:Int) hK;obtain⟨v1,v2,v3⟩:=Gr hf (i:Int);have key:∀l':List (aQ×aQ),l'.Perm m->∃R',l'.foldlM (λs x=>oh K (i:Int) x s) R=some R'/\OM f R' (i+1):=by
    intro l' hp;have hr:∀x∈l',(x.1.J,x.1.state)∈reach f (i:Int):=λx hx=>by
     have:x.1∈m.map (·.1):=List.mem_map.2 ⟨x,hp.mem_iff.1 hx,rfl⟩;rw[e2]at this;obtain⟨y,hy,e⟩:=List.mem_map.1 this;rw[<-e];exact hy
    obtain⟨R',r1,r2⟩:=OQ (K:=K) hf hi (R:=R) l' [] R (λx hx=>v1.Ua _ (hr x hx)) ⟨hz.len,hz.wid,λa _ ha=>by rw[hz.zero a ha i (j5 _) hi];rfl,λa _ _=>rfl,λ_ _ _ _=>rfl⟩;refine⟨R',r1,Sr.tab hz ⟨r2.len,r2.wid,λa ha hb => ?_,r2.hi,r2.Ub⟩⟩;rw[r2.lo a ha hb];refine XW (λx => ?_) a;rw[yQ,List.mem_map];refine⟨λ⟨y,hy,e⟩=>e▸ hr y hy,λhx => ?_⟩;have:pt x∈m.map (·.1):=by rw[e2];exact List.mem_map.2 ⟨x,hx,rfl⟩
    obtain⟨y,hy,e⟩:=List.mem_map.1 this;exact⟨y,hp.mem_iff.2 hy,by rw[e]⟩
   obtain⟨R',r1,r2⟩:=key m (List.Perm.refl _);have aa1:u6 (oh K (i:Int)) R m=some R':=KR λl' hp=>by
    obtain⟨R2,q1,q2⟩:=key l' hp;rw[q1,Sq q2 r2]
   rw[pR,e1,ax,aa1,ax,ax,Ca I];exact ID hf h0 h8 hK d k (i+1) R' I I r2
  ·rw[ez];obtain rfl:i=f.bD.toNat:=by omega
   exact⟨R,rfl,hz⟩
end
section
variable {K:Nat}
def Nf(x:Int):Prop:=-9223372036854775808<=x/\x<=9223372036854775807
structure P64(p:aJ):Prop where
 f:∀f∈p.ah,Nf f.aS/\Nf f.dc/\Nf f.bD
 c:∀f∈p.ah,∀c∈f.aq,Nf c.A/\Nf c.B/\Nf c.C/\Nf c.K
def uu(x n:Int):Bool:=decide (0<=x)&&decide (x<n)
theorem vS{x n:Int}:uu x n=true↔0<=x/\x<n:=by simp[uu]
structure Ki(f:aC):Prop where
 O:0<=f.aS
 p8:f.aS<=8
 r1:1<=f.dc
 rp:f.aS<=f.dc
 r16:f.dc<=16
 s0:0<=f.bD
 s8:f.bD<=8
 c1:1<=f.aq.length
 Jv:f.aq.length<=512
theorem Lr(f:aC) :∃b,jR f=some b/\tY f=some b/\(b=true->Ki f):=by
 have e:tY f=jR f:=rfl;rw[e];unfold jR;by_cases h1:f.aS<0
 ·rw[aP h1];exact⟨false,rfl,rfl,λh=>Bool.noConfusion h⟩
 rw[ct h1];by_cases h2:f.aS>8
 ·rw[aP h2];exact⟨false,rfl,rfl,λh=>Bool.noConfusion h⟩
 rw[ct h2];by_cases h3:f.dc<1
 ·rw[aP h3];exact⟨false,rfl,rfl,λh=>Bool.noConfusion h⟩
 rw[ct h3];by_cases h4:f.dc<f.aS
 ·rw[aP h4];exact⟨false,rfl,rfl,λh=>Bool.noConfusion h⟩
 rw[ct h4];by_cases h5:f.dc>16
 ·rw[aP h5];exact⟨false,rfl,rfl,λh=>Bool.noConfusion h⟩
 rw[ct h5,eJ];by_cases h6:f.bD>=0
 ·rw[aP h6];by_cases h7:f.bD<=8
  ·rw[aP h7];by_cases h8:((f.aq.length:Nat):Int)>=1
   ·rw[aP h8];exact⟨_,rfl,rfl,λh=>⟨I,I,I,I,I,h6,h7,I,by have:=of_decide_eq_true h;omega⟩⟩
   ·rw[ct h8];exact⟨false,rfl,rfl,λh=>Bool.noConfusion h⟩
  ·rw[ct h7];exact⟨false,rfl,rfl,λh=>Bool.noConfusion h⟩
 ·rw[ct h6];exact⟨false,rfl,rfl,λh=>Bool.noConfusion h⟩
def ot(f:aC)(c:bZ):Bool:=
 if c.aE=0∨c.aE=8∨c.aE=9 then uu c.A f.dc
 else if c.aE=1 then uu c.A f.dc&&uu c.B f.dc
 else if c.aE=2 then uu c.A f.dc&&uu c.B f.dc&&uu c.C f.dc&&uu c.K 16
 else if c.aE=3 then uu c.A f.aq.length
 else if c.aE=4 then uu c.A f.dc&&uu c.B f.aq.length
 else if c.aE=5 then uu c.A f.bD
 else if c.aE=6 then true
 else if c.aE=7 then uu c.A f.dc&&uu c.B f.bD
 else false
def xu(p:aJ)(f:aC)(c:bZ):Bool:=
 if c.aE=5 then uu c.B p.ah.length&&(decide ((J p.ah c.B.toNat).aS=0)||(decide (0<=c.C)&&decide (c.C<=f.dc-(J p.ah c.B.toNat).aS)))else true
theorem Gs(x n:Int):gC x n=some (uu x n):=by
 unfold gC uu;by_cases h:0<=x
 ·rw[aP h];simp[h]
 ·rw[ct h];simp[h]
theorem uV(x n:Int):(if x>=0 then some (decide (x<n))else some false)=some (uu x n):=by
 unfold uu;by_cases h:0<=x
 ·rw[aP h];simp[h]
 ·rw[ct h];simp[h]
theorem Lt(f:aC)(c:bZ):nn f c=some (ot f c):=by
 unfold nn ot;simp only[Gs,ax];by_cases h0:c.aE=0
 ·simp[h0]
 by_cases h8:c.aE=8
 ·simp[h8]
 by_cases h9:c.aE=9
 ·simp[h9]
 simp only[h0,h8,h9,if_false,ax,false_or];have:((c.aE==9)=true)=False:=by simp[h9]
 simp only[this,if_false];by_cases h1:c.aE=1
 ·simp only[h1,if_true];cases uu c.A f.dc<;>simp
 by_cases h2:c.aE=2
 ·simp only[h2,if_true,ct (show ¬(2:Int)=1 by decide)];cases uu c.A f.dc<;>cases uu c.B f.dc<;>cases uu c.C f.dc<;>simp[uu];by_cases h:0<=c.K<;>simp[h]
 by_cases h3:c.aE=3
 ·simp[h3]
 by_cases h4:c.aE=4
 ·simp only[h4,if_true,ct (show ¬(4:Int)=1 by decide),ct (show ¬(4:Int)=2 by decide),ct (show ¬(4:Int)=3 by decide)];cases uu c.A f.dc<;>simp
 by_cases h5:c.aE=5
 ·simp[h5]
 by_cases h6:c.aE=6
 ·simp[h6]
 by_cases h7:c.aE=7
 ·simp only[h7,if_true,ct (show ¬(7:Int)=1 by decide),ct (show ¬(7:Int)=2 by decide),ct (show ¬(7:Int)=3 by decide),ct (show ¬(7:Int)=4 by decide),ct (show ¬(7:Int)=5 by decide),ct (show ¬(7:Int)=6 by decide)];cases uu c.A f.dc<;>simp
 simp[h1,h2,h3,h4,h5,h6,h7]
theorem P7{p:aJ}{f:aC}{c:bZ}(hs:∀g∈p.ah,Ki g)(hf:Ki f):oe p f c=some (xu p f c):=by
 unfold oe xu;by_cases h5:c.aE=5
 ·rw[aP h5,aP h5,Gs,ax];cases hb:uu c.B p.ah.length
  ·simp
  ·have hb':=vS.1 hb;have hg:=hs _ (ua (l:=p.ah) (i:=c.B.toNat) I);rw[aP rfl,aP hb'];by_cases hn:(J p.ah c.B.toNat).aS=0
   ·rw[aP hn];simp[hn]
   ·rw[ct hn,Gs,ax];have:=hg.O;have:=hg.p8;have:=hf.r16;cases hc:uu c.C f.dc
    ·have:¬(0<=c.C/\c.C<=f.dc-(J p.ah c.B.toNat).aS):=λh=>by
      have:uu c.C f.dc=true:=vS.2 ⟨h.1,I⟩;rw[hc]at this;exact Bool.noConfusion this
     simp[hn];intro h;omega
    ·have E6:=vS.1 hc;rw[aP rfl,eI (x:=f.dc-c.C) I];simp[hn,E6.1];omega
 ·rw[ct h5,ct h5]
theorem Ss{p:aJ}{f:aC}{c:bZ}(hs:∀g∈p.ah,Ki g)(hf:Ki f)(hp:0<p.ah.length):tZ c f p.ah=some (ot f c&&xu p f c):=by
 unfold tZ ot xu;by_cases XX:c.aE<0
 ·rw[aP XX];simp only[I6];rw[ez,ez,ez,ez,ez,ez,ez,ez];rfl
 by_cases hk1:c.aE>=10
 ·rw[ct XX,aP hk1];simp only[I6];rw[ez,ez,ez,ez,ez,ez,ez,ez];rfl
 rw[ct XX,ct hk1,eJ,aP ⟨I,show c.aE<10 by omega⟩,aP hp,je];have hl:¬((p.ah.length:Nat):Int)<0:=by omega
 have hK:(if c.K<0 then(some (.inr false):Option (Unit⊕Bool))else(if c.K>=16 then some (.inr false)else some (.inl ())))=if uu c.K 16=true then some (.inl ())else some (.inr false):=by
  unfold uu;by_cases h:c.K<0
  ·rw[aP h];simp;omega
  ·rw[ct h];by_cases h':c.K>=16
   ·rw[aP h'];simp;omega
   ·rw[ct h'];simp;omega
 unfold we;rcases(by omega:c.aE=0∨c.aE=1∨c.aE=2∨c.aE=3∨c.aE=4∨c.aE=5∨c.aE=6∨c.aE=7∨c.aE=8∨c.aE=9)with h | h | h | h | h | h | h | h | h | h
 ·simp only[h,show(J wS (0:Int).toNat)=⟨1,0,0,0,true⟩from rfl];simp[uV];cases uu c.A f.dc<;>simp[eV,xF]
 ·simp only[h,show(J wS (1:Int).toNat)=⟨1,1,0,0,true⟩from rfl];simp[uV];cases uu c.A f.dc<;>cases uu c.B f.dc<;>simp[eV,xF]
 ·simp only[h,show(J wS (2:Int).toNat)=⟨1,1,1,5,true⟩from rfl];simp[uV];cases uu c.A f.dc<;>cases uu c.B f.dc<;>cases uu c.C f.dc<;>simp[eV,xF,hK];cases uu c.K 16<;>simp
 ·simp only[h,show(J wS (3:Int).toNat)=⟨3,0,0,0,false⟩from rfl];simp[uV];cases uu c.A f.aq.length<;>simp[eV,xF]
 ·simp only[h,show(J wS (4:Int).toNat)=⟨1,3,0,0,true⟩from rfl];simp[uV];cases uu c.A f.dc<;>cases uu c.B f.aq.length<;>simp[eV,xF]
 ·simp only[h,show(J wS (5:Int).toNat)=⟨2,4,0,0,true⟩from rfl];simp[uV,hl,hp];cases hA:uu c.A f.bD
  ·simp[eV,xF]
  ·cases hB:uu c.B p.ah.length
   ·simp[eV,xF]
   ·have hb':=vS.1 hB;have hg:=hs _ (ua (l:=p.ah) (i:=c.B.toNat) I);have:=hg.O;have:=hg.p8;have:=hf.r16;have:=hf.r1;rw[eI (x:=f.dc-(J p.ah c.B.toNat).aS) I];have hir:bG c.B p.ah.length:=⟨hb'.1,hb'.2⟩;simp[eV,xF];by_cases hn:(J p.ah c.B.toNat).aS=0
    ·simp[hn];exact hir
    ·simp[hn];by_cases hc:0<=c.C<;>simp[hc]<;>exact hir
 ·simp only[h,show(J wS (6:Int).toNat)=⟨0,0,0,0,true⟩from rfl];simp[uV,eV,xF]
 ·simp only[h,show(J wS (7:Int).toNat)=⟨1,2,0,0,true⟩from rfl];simp[uV];cases uu c.A f.dc<;>cases uu c.B f.bD<;>simp[eV,xF]
 ·simp only[h,show(J wS (8:Int).toNat)=⟨1,0,0,0,true⟩from rfl];simp[uV];cases uu c.A f.dc<;>simp[eV,xF]
 ·simp only[h,show(J wS (9:Int).toNat)=⟨1,0,0,0,false⟩from rfl];simp[uV];cases uu c.A f.dc<;>simp[eV,xF]
end
section
variable {K:Nat}
def Ng(f:aC):Bool:=(decide ((J f.aq (f.aq.length-1)).aE=3)||decide ((J f.aq (f.aq.length-1)).aE=9))
theorem Jw{f:aC}(hf:Ki f):mG f=some (Ng f)/\vb f=some (Ng f):=by
 have e:vb f=mG f:=rfl;rw[e,and_self];unfold mG Ng;have h1:=hf.c1;have h2:=hf.Jv;rw[eI I,aP ⟨I,I⟩,show(((f.aq.length:Nat):Int)-1).toNat=f.aq.length-1 by omega];split
 ·rename_i h;simp[h]
 ·rename_i h;simp[h];rfl
def OR(p:aJ)(f:aC)(c:bZ):Prop:=ot f c=true/\xu p f c=true
structure Code(p:aJ)(f:aC):Prop where
 ins:∀a,a<f.aq.length->OR p f (J f.aq a)
 fin:Ng f=true
theorem Code.snd{p:aJ}{f:aC}(hs:Ki f)(h:Code p f):Nb f:=by
 have h1:=hs.c1;have h2:=hs.Jv;have kd:∀a:Nat,a<f.aq.length->0<=(J f.aq a).aE/\(J f.aq a).aE<10:=λa ha=>by
  have:=(h.ins a ha).1;unfold ot at this;by_cases e:0<=(J f.aq a).aE/\(J f.aq a).aE<10
  ·exact e
  ·rw[ez,ez,ez,ez,ez,ez,ez,ez]at this;exact Bool.noConfusion this
 have en:=h.fin;unfold Ng at en;simp only[xb,Aj]at en;refine⟨h1,h2,λa h0 h1 n hn => ?_,λa h0 h1=>kd _ I⟩;have hi:=(h.ins a.toNat I).1;unfold ot at hi;have last:¬(J f.aq a.toNat).aE=3->¬(J f.aq a.toNat).aE=9->a+1<f.aq.length:=λe3 e9=>by
  by_cases e:a.toNat=f.aq.length-1
  ·rw[<-e]at en;rcases en with en | en
   ·exact absurd en e3
   ·exact absurd en e9
  ·omega
 unfold Mo.nx at hn;split at hn
 ·rename_i e;rw[ez,ez,ez,aP e]at hi;rw[List.mem_singleton.1 hn];exact vS.1 hi
 ·rename_i e3;split at hn
  ·exact absurd hn (by simp)
  ·rename_i e9;have:=last e3 e9;split at hn
   ·rename_i e4;rw[ez,ez,ez,ez,aP e4,lP]at hi;have:=vS.1 hi.2;rcases List.mem_cons.1 hn with rfl | hn
    ·omega
    ·rw[List.mem_singleton.1 hn];exact this
   ·rw[List.mem_singleton.1 hn];omega
theorem Wt{p:aJ}(hn:p.ah.length<=32):∀(d k i:Nat),i+d=p.ah.length->d<k->(∀a,a<i->Ki (J p.ah a))->
 (∃x:eL,iV K p k (i:Int)=some (.inr x)/\nX K p k (i:Int)=some (.inr x)/\x.Ow≠0)∨
 (iV K p k (i:Int)=some (.inl ())/\nX K p k (i:Int)=some (.inl ())/\∀a,a<p.ah.length->Ki (J p.ah a))
 | d,k,i,hd,hk,h=>by
  obtain⟨k,rfl⟩ :∃m,k=m+1:=⟨k-1,I⟩;rw[iV,nX];by_cases hi:i<p.ah.length
  ·obtain⟨d,rfl⟩ :∃m,d=m+1:=⟨d-1,I⟩;obtain⟨b,e1,e2,e3⟩:=Lr (J p.ah i);rw[pR,aP ⟨I,I⟩,pR,aP ⟨I,I⟩,cO,e1,ax,e2,ax,Ca I];cases b
   ·left;exact⟨⟨51,i,0⟩,rfl,rfl,by show(51:Int)≠0;decide⟩
   ·exact Wt hn d k (i+1) I I (λa ha=>by
     by_cases e:a=i
     ·subst e;exact e3 rfl
     ·exact h a I)
  ·rw[ez,ez]
   right;exact⟨rfl,rfl,λa ha=>h a I⟩
theorem Wu{p:aJ}{n:Nat}(hs:∀g∈p.ah,Ki g)(hn:n<p.ah.length):∀(d k i:Nat),i+d=(J p.ah n).aq.length->d<k->(∀a,a<i->OR p (J p.ah n) (J (J p.ah n).aq a))->
 (∃j:Int,iW K p (n:Int) k (i:Int)=some (.inr (.inr (.inr ⟨52,n,j⟩)))/\gq K (n:Int) (J p.ah n) p.ah k (i:Int)=some (.inr (.inr ⟨52,n,j⟩)))∨
 (iW K p (n:Int) k (i:Int)=some (.inl ())/\gq K (n:Int) (J p.ah n) p.ah k (i:Int)=some (.inl ())/\∀a,a<(J p.ah n).aq.length->OR p (J p.ah n) (J (J p.ah n).aq a))
 | d,k,i,hd,hk,h=>by
  obtain⟨k,rfl⟩ :∃m,k=m+1:=⟨k-1,I⟩;have hf:=hs _ (ua hn);have Jt:=hf.Jv;rw[iW,gq];by_cases hi:i<(J p.ah n).aq.length
  ·obtain⟨d,rfl⟩ :∃m,d=m+1:=⟨d-1,I⟩;rw[cO,pR,aP ⟨I,I⟩,pR,aP ⟨I,I⟩,cO,Lt,ax,Ss hs hf I,ax,Ca I];cases e1:ot (J p.ah n) (J (J p.ah n).aq i)
   ·left;exact⟨i,rfl,rfl⟩
   ·rw[aP rfl,P7 hs hf,ax];cases e2:xu p (J p.ah n) (J (J p.ah n).aq i)
    ·left;exact⟨i,rfl,rfl⟩
    ·rw[aP rfl,Bool.true_and,aP rfl];exact Wu hs hn d k (i+1) I I (λa ha=>by
      by_cases e:a=i
      ·subst e;exact⟨e1,e2⟩
      ·exact h a I)
  ·rw[cO,ez,ez]
   right;exact⟨rfl,rfl,λa ha=>h a I⟩
theorem Wv{p:aJ}(hn:p.ah.length<=32)(hs:∀g∈p.ah,Ki g)(hK:3000<K):∀(d k i:Nat),i+d=p.ah.length->d<k->(∀a,a<i->Code p (J p.ah a))->
 (∃x:eL,iX K p k (i:Int)=some (.inr x)/\nY K p k (i:Int)=some (.inr x)/\x.Ow≠0)∨
 (iX K p k (i:Int)=some (.inl ())/\nY K p k (i:Int)=some (.inl ())/\∀a,a<p.ah.length->Code p (J p.ah a))
 | d,k,i,hd,hk,h=>by
  obtain⟨k,rfl⟩ :∃m,k=m+1:=⟨k-1,I⟩;rw[iX,nY];by_cases hi:i<p.ah.length
  ·obtain⟨d,rfl⟩ :∃m,d=m+1:=⟨d-1,I⟩;have hf:=hs _ (ua hi);have Jt:=hf.Jv;rw[pR,aP ⟨I,I⟩,pR,aP ⟨I,I⟩,cO];unfold nq;rcases Wu (K:=K) hs hi (J p.ah i).aq.length K 0 I I (λa ha=>I)with ⟨j,e1,e2⟩ | ⟨e1,e2,e3⟩
   ·rw[pT]at e1 e2;rw[e1,e2];left;exact⟨⟨52,i,j⟩,rfl,rfl,by show(52:Int)≠0;decide⟩
   ·rw[pT]at e1 e2;rw[e1,e2,eJ,eJ,(Jw hf).1,(Jw hf).2,ax,ax];cases e4:Ng (J p.ah i)
    ·left;exact⟨⟨53,i,wi (((J p.ah i).aq.length:Int)-1)⟩,rfl,rfl,by show(53:Int)≠0;decide⟩
    ·rw[aP rfl,aP rfl,eJ,ax,Ca I];exact Wv hn hs hK d k (i+1) I I (λa ha=>by
      by_cases e:a=i
      ·subst e;exact⟨e3,e4⟩
      ·exact h a I)
  ·rw[ez,ez]
   right;exact⟨rfl,rfl,λa ha=>h a I⟩
def D3(f:aC)(a:Nat):Prop:=
 ((J f.aq a).aE=5->((a:Int),2)∉reach f (J f.aq a).A)/\
 ((J f.aq a).aE=7->((a:Int),1)∉reach f (J f.aq a).B/\((a:Int),2)∉reach f (J f.aq a).B)/\
 ((J f.aq a).aE=9->∀c:Nat,c<f.bD.toNat->((a:Int),2)∉reach f c)
theorem aa2:∀(a b c:Bool),((iI ((if a then 1 else 0)+(if b then 2 else 0)+(if c then 4 else 0)) 3=0)↔a=false/\b=false):=by
 intro a b c;cases a<;>cases b<;>cases c<;>decide
theorem Su{V:List Pt}{a:Int}:iI (wt V a) 3=0↔(a,1)∉V/\(a,2)∉V:=by
 have:=aa2 (decide ((a,1)∈V)) (decide ((a,2)∈V)) (decide ((a,4)∈V));simp only[Aj,decide_eq_false_iff_not]at this;unfold wt;rw[this]
theorem U0{p:aJ}{f:aC}(hs:Ki f)(hc:Code p f)(hK:3000<K) :∃R,qc K f=some R/\vh K f=some R/\OM f R f.bD.toNat:=by
 have hf:=hc.snd hs;have h1:=hs.c1;have h2:=hs.Jv;have hsd:∀(d k i:Nat),i+d=f.aq.length->d<k->iU K f k (i:Int)=some true:=by
  intro d
  induction d with
  | zero =>
   intro k i hd hk;obtain⟨k,rfl⟩ :∃m,k=m+1:=⟨k-1,I⟩;rw[iU,ez,(Jw hs).1,ax,hc.fin]
  | succ d ih =>
   intro k i hd hk;obtain⟨k,rfl⟩ :∃m,k=m+1:=⟨k-1,I⟩;rw[iU,pR,aP ⟨I,I⟩,Lt,ax,cO,(hc.ins i I).1,aP rfl,Ca I];exact ih k (i+1) I I
 obtain⟨b,e1,e2,e3⟩:=Lr f;have hb:b=true:=by
  cases b
  ·exfalso
   unfold jR at e1;have:=hs.O;have:=hs.p8;have:=hs.r1;have:=hs.rp;have:=hs.r16;have:=hs.s0;have:=hs.s8;rw[ez,ez,ez,ez,ez,eJ,pR,pR,pR,tP I]at e1;exact Bool.noConfusion (Option.some.inj e1)
  ·rfl
 unfold qc rO vh;have aa3:=hsd f.aq.length K 0 I I;rw[pT]at aa3;rw[e1,ax,hb,aP rfl,aa3,ax,aP rfl,aP ⟨I,I⟩,aP ⟨I,I⟩];obtain⟨R,r1,r2,r3⟩:=ON (K:=K) hf hs.s0 hs.s8 f.aq.length K 0 (List.replicate f.aq.length []) I I ⟨by simp,λa ha=>I⟩;rw[pT]at r1 r2;rw[r1,r2,ax,ax];have hs8:=hs.s8;have ht:OM f R 0:=⟨r3.1,λa ha=>by rw[r3.2 a ha];simp,λa ha c hc=>I,λa ha c _ hc=>by rw[r3.2 a ha,zd hc]⟩;obtain⟨R1,a1,a2⟩:=OP (K:=K) hf hs.s0 hs.s8 hK f.bD.toNat K 0 R I I ht;obtain⟨R2,b1,b2⟩:=ID (K:=K) hf hs.s0 hs.s8 hK f.bD.toNat K 0 R I I ht;rw[pT]at a1 b1;have:=Sq a2 b2;subst this;exact⟨R1,a1,b1,a2⟩
theorem Sv{f:aC}{R:List (List Int)}(ht:OM f R f.bD.toNat)(h8:f.bD<=8){a:Nat}(ha:a<f.aq.length):∀(d k i:Nat),i+d=f.bD.toNat->d<k->
 ((∃c,i<=c/\c<f.bD.toNat/\((a:Int),2)∈reach f c)->gQ K (J R a) k (i:Int)=some 56/\∀g,jl K R a k g (i:Int)=some 56)/\
 ((∀c,i<=c->c<f.bD.toNat->((a:Int),2)∉reach f c)->gQ K (J R a) k (i:Int)=some 0/\∀g,jl K R a k g (i:Int)=some g)
 | d,k,i,hd,hk=>by
  obtain⟨k,rfl⟩ :∃m,k=m+1:=⟨k-1,I⟩;have hw:=ht.wid a ha;simp only[gQ,jl,cO];by_cases hi:i<f.bD.toNat
  ·obtain⟨d,rfl⟩ :∃m,d=m+1:=⟨d-1,I⟩;obtain⟨XB,XC⟩:=Sv ht h8 ha d k (i+1) I I;have key:iI (J (J R a) i) 2=0↔((a:Int),(2:Int))∉reach f i:=by rw[ht.val a ha i hi hi];exact Fw (.inr (.inl rfl))
   rw[pR,aP ⟨I,I⟩,Ca I];by_cases e:((a:Int),(2:Int))∈reach f i
   ·rw[ct (λh=>key.1 h e)];refine⟨λ_=>⟨rfl,λg => ?_⟩,λh=>absurd e (h i (j5 _) hi)⟩;rw[pR,aP ⟨I,I⟩,ct (λh=>key.1 h e)];by_cases e2 :∃c,i+1<=c/\c<f.bD.toNat/\((a:Int),(2:Int))∈reach f c
    ·exact(XB e2).2 56
    ·exact(XC (λc h1 h2 h3=>e2 ⟨c,h1,h2,h3⟩)).2 56
   ·have hb:=key.2 e;rw[aP hb];refine⟨λ⟨c,h1,h2,h3⟩ => ?_,λh => ?_⟩
    ·have:c≠i:=λe'=>by subst e';exact e h3
     obtain⟨x,y⟩:=XB ⟨c,I,h2,h3⟩;refine⟨x,λg => ?_⟩;rw[pR,aP ⟨I,I⟩,aP hb];exact y g
    ·obtain⟨x,y⟩:=XC (λc h1 h2=>h c I h2);refine⟨x,λg => ?_⟩;rw[pR,aP ⟨I,I⟩,aP hb];exact y g
  ·rw[ez];refine⟨λ⟨c,h1,h2,_⟩=>I,λ_=>⟨rfl,λg => ?_⟩⟩;rw[ez]
theorem OS{p:aJ}{n:Nat}(hn:n<p.ah.length)(hs:Ki (J p.ah n))(hc:Code p (J p.ah n))(hK:3000<K){R:List (List Int)}(ht:OM (J p.ah n) R (J p.ah n).bD.toNat):∀(d k i:Nat),i+d=(J p.ah n).aq.length->d<k->(∀a,a<i->D3 (J p.ah n) a)->
 (∃e j:Int,e≠0/\iY K p (n:Int) R k (i:Int)=some (.inr ⟨e,n,j⟩)/\kX K (n:Int) (J p.ah n) R k (i:Int)=some (.inr ⟨e,n,j⟩))∨
 (iY K p (n:Int) R k (i:Int)=some (.inl ())/\kX K (n:Int) (J p.ah n) R k (i:Int)=some (.inl ())/\∀a,a<(J p.ah n).aq.length->D3 (J p.ah n) a)
 | d,k,i,hd,hk,h=>by
  obtain⟨k,rfl⟩ :∃m,k=m+1:=⟨k-1,I⟩;have Jt:=hs.Jv;have h8:=hs.s8;rw[iY,kX];by_cases hi:i<(J p.ah n).aq.length
  ·obtain⟨d,rfl⟩ :∃m,d=m+1:=⟨d-1,I⟩;have hl:=ht.len;have hw:=ht.wid i hi;rw[cO,pR,aP ⟨I,I⟩,aP ⟨I,I⟩,pR,aP ⟨I,I⟩,cO,Ca I];have key :∃e:Int,mC K (J (J p.ah n).aq i) (J R i)=some e/\
    (if(J (J p.ah n).aq i).aE=5 then if bG (i:Int) R.length then if bG (J (J p.ah n).aq i).A (J R i).length then(if(iI (J (J R i) (J (J p.ah n).aq i).A.toNat) (2:Int))=0 then some 0 else some 54)else none else none else(if(J (J p.ah n).aq i).aE=7 then if bG (i:Int) R.length then if bG (J (J p.ah n).aq i).B (J R i).length then(if(iI (J (J R i) (J (J p.ah n).aq i).B.toNat) (3:Int))=0 then some 0 else some 55)else none else none else(if(J (J p.ah n).aq i).aE=9 then if bG (i:Int) R.length then(jl K R i K 0 0)else none else some 0)))=some e/\(e=0->D3 (J p.ah n) i):=by
    have Sw:=(hc.ins i hi).1;unfold ot at Sw;unfold mC;by_cases k5:(J (J p.ah n).aq i).aE=5
    ·rw[ez,ez,ez,ez,ez,aP k5]at Sw;have hA:=vS.1 Sw;have key:iI (J (J R i) (J (J p.ah n).aq i).A.toNat) 2=0↔((i:Int),(2:Int))∉reach (J p.ah n) (J (J p.ah n).aq i).A:=by
      rw[ht.val i hi _ I I,show(((J (J p.ah n).aq i).A.toNat:Nat):Int)=(J (J p.ah n).aq i).A by omega];exact Fw (.inr (.inl rfl))
     by_cases e:((i:Int),(2:Int))∈reach (J p.ah n) (J (J p.ah n).aq i).A
     ·rw[aP k5,aP k5,aP ⟨hA.1,I⟩,ct (λh=>key.1 h e),aP ⟨I,I⟩];exact⟨54,rfl,rfl,λh=>absurd h eF⟩
     ·rw[aP k5,aP k5,aP ⟨hA.1,I⟩,aP (key.2 e),aP ⟨I,I⟩];exact⟨0,rfl,rfl,λ_=>⟨λ_=>e,λh=>I,λh=>I⟩⟩
    rw[ct k5,ct k5];by_cases k7:(J (J p.ah n).aq i).aE=7
    ·rw[ez,ez,ez,ez,ez,ez,ez,aP k7,lP]at Sw;have hB:=vS.1 Sw.2;have key:iI (J (J R i) (J (J p.ah n).aq i).B.toNat) 3=0↔((i:Int),(1:Int))∉reach (J p.ah n) (J (J p.ah n).aq i).B/\((i:Int),(2:Int))∉reach (J p.ah n) (J (J p.ah n).aq i).B:=by
      rw[ht.val i hi _ I I,show(((J (J p.ah n).aq i).B.toNat:Nat):Int)=(J (J p.ah n).aq i).B by omega];exact Su
     by_cases e:iI (J (J R i) (J (J p.ah n).aq i).B.toNat) 3=0
     ·rw[aP k7,aP k7,aP ⟨hB.1,I⟩,aP e,aP ⟨I,I⟩];exact⟨0,rfl,rfl,λ_=>⟨λh=>I,λ_=>key.1 e,λh=>I⟩⟩
     ·rw[aP k7,aP k7,aP ⟨hB.1,I⟩,ct e,aP ⟨I,I⟩];exact⟨55,rfl,rfl,λh=>absurd h eF⟩
    rw[ct k7,ct k7];by_cases k9:(J (J p.ah n).aq i).aE=9
    ·rw[aP k9,aP k9,aP ⟨I,I⟩];obtain⟨o1,o2⟩:=Sv (K:=K) ht h8 hi (J p.ah n).bD.toNat K 0 I I;rw[pT]at o1 o2;by_cases e :∃c,0<=c/\c<(J p.ah n).bD.toNat/\((i:Int),(2:Int))∈reach (J p.ah n) c
     ·exact⟨56,(o1 e).1,(o1 e).2 0,λh=>absurd h eF⟩
     ·have e':∀c,0<=c->c<(J p.ah n).bD.toNat->((i:Int),(2:Int))∉reach (J p.ah n) c:=λc h1 h2 h3=>e ⟨c,h1,h2,h3⟩;exact⟨0,(o2 e').1,(o2 e').2 0,λ_=>⟨λh=>I,λh=>I,λ_ c hc=>e' c (BT _) hc⟩⟩
    ·rw[ct k9,ct k9];exact⟨0,rfl,rfl,λ_=>⟨λh=>absurd h k5,λh=>absurd h k7,λh=>absurd h k9⟩⟩
   obtain⟨e,e1,e2,e3⟩:=key;rw[e1,e2,ax,ax];by_cases e0:e=0
   ·rw[aP e0,aP e0,eJ];exact OS hn hs hc hK ht d k (i+1) I I (λa ha=>by
     by_cases e:a=i
     ·subst e;exact e3 e0
     ·exact h a I)
   ·rw[ct e0,ct e0];left;exact⟨e,i,e0,rfl,rfl⟩
  ·rw[cO,ez,ez]
   right;exact⟨rfl,rfl,λa ha=>h a I⟩
theorem Ww{p:aJ}(hn:p.ah.length<=32)(hs:∀g∈p.ah,Ki g)(hc:∀a,a<p.ah.length->Code p (J p.ah a))(hK:3000<K):∀(d k i:Nat),i+d=p.ah.length->d<k->(∀a,a<i->∀b,b<(J p.ah a).aq.length->D3 (J p.ah a) b)->
 ∃x:eL,jS K p k (i:Int)=some x/\pP K p k (i:Int)=some x/\(x.Ow=0->∀a,a<p.ah.length->∀b,b<(J p.ah a).aq.length->D3 (J p.ah a) b)
 | d,k,i,hd,hk,h=>by
  obtain⟨k,rfl⟩ :∃m,k=m+1:=⟨k-1,I⟩;rw[jS,pP];by_cases hi:i<p.ah.length
  ·obtain⟨d,rfl⟩ :∃m,d=m+1:=⟨d-1,I⟩;have hf:=hs _ (ua hi);have Jt:=hf.Jv;rw[pR,aP ⟨I,I⟩,pR,aP ⟨I,I⟩,cO];unfold uJ;obtain⟨R,r1,r2,r3⟩:=U0 (K:=K) hf (hc i hi) hK;rw[r1,r2,ax,ax];rcases OS (K:=K) hi hf (hc i hi) hK r3 (J p.ah i).aq.length K 0 I I (λa ha=>I)with ⟨e,j,e0,e1,e2⟩ | ⟨e1,e2,e3⟩
   ·rw[pT]at e1 e2;rw[e1,e2];exact⟨⟨e,i,j⟩,rfl,rfl,λh=>absurd h e0⟩
   ·rw[pT]at e1 e2;rw[e1,e2,eJ,ax,Ca I];exact Ww hn hs hc hK d k (i+1) I I (λa ha=>by
     by_cases e:a=i
     ·subst e;exact e3
     ·exact h a I)
  ·rw[ez,ez];exact⟨⟨0,0,0⟩,rfl,rfl,λ_ a ha=>h a I⟩
structure Valid(p:aJ):Prop where
 n1:1<=p.ah.length
 n32:p.ah.length<=32
 Jx:∀a,a<p.ah.length->Ki (J p.ah a)
 code:∀a,a<p.ah.length->Code p (J p.ah a)
 slot:∀a,a<p.ah.length->∀b,b<(J p.ah a).aq.length->D3 (J p.ah a) b
theorem Sx(p:aJ)(hK:3000<K) :∃x:eL,pn K p=some x/\wH K p=some x/\(x.Ow=0->Valid p):=by
 unfold pn wH;by_cases h1:((p.ah.length:Nat):Int)<1
 ·rw[aP h1];exact⟨_,rfl,rfl,λh=>absurd h eF⟩
 rw[ct h1];by_cases h2:((p.ah.length:Nat):Int)>32
 ·rw[aP h2];exact⟨_,rfl,rfl,λh=>absurd h eF⟩
 rw[ct h2,eJ,eJ];rcases Wt (K:=K) (p:=p) I p.ah.length K 0 I I (λa ha=>I)with ⟨x,e1,e2,e3⟩ | ⟨e1,e2,e3⟩
 ·rw[pT]at e1 e2;rw[e1,e2];exact⟨x,rfl,rfl,λh=>absurd h e3⟩
 rw[pT]at e1 e2;have hs:∀g∈p.ah,Ki g:=λg hg=>by
  obtain⟨i,hi,e⟩:=List.getElem_of_mem hg;have:=e3 i hi;unfold J at this;rw[List.getD_eq_getElem?_getD,List.getElem?_eq_getElem hi]at this;rw[<-e];exact this
 rw[e1,e2,eJ,eJ];rcases Wv (K:=K) (p:=p) I hs hK p.ah.length K 0 I I (λa ha=>I)with ⟨x,a1,a2,a3⟩ | ⟨a1,a2,a3⟩
 ·rw[pT]at a1 a2;rw[a1,a2];exact⟨x,rfl,rfl,λh=>absurd h a3⟩
 rw[pT]at a1 a2;rw[a1,a2,eJ,eJ];obtain⟨x,b1,b2,b3⟩:=Ww (K:=K) (p:=p) I hs a3 hK p.ah.length K 0 I I (λa ha=>I);rw[pT]at b1 b2;exact⟨x,b1,b2,λh=>⟨I,I,e3,a3,b3 h⟩⟩
end
end Mo
end
end Go.Proofs.YtpikpffbcjpmcaaGreatDoor

/- plunderlaw11.WorkerAccesses answers true for every input of the bulk that the statement names and leaves its input alone; the last part states it. Conditions: none. -/
import Derived.Test.YtpikpffbcjpmcaaGreatDoorY0
set_option linter.unusedVariables false
set_option linter.unusedSimpArgs false
set_option linter.unusedSectionVars false
namespace Go.Proofs.YtpikpffbcjpmcaaGreatDoor
section
namespace SL
open Go Go.RowKit
def yq{α:Type}(e:TypeId)(sz:Nat)(enc:α→List Value)(v:Value)(l:List α):bE:=λh =>
 (v= .slice none 0 0∧l=[]∧h=Hp.none)∨
 ∃g off cap k cur,v= .slice (some ⟨g,off,none⟩) l.length cap∧l.length≤cap∧(0<cap→off=k*sz)∧k+cap≤maxLen∧cur.size=(k+cap)*sz∧(cur.toList.drop (k*sz)).take (l.length*sz)=l.flatMap enc∧pts g (.cells cur e) h
section
variable {w0 w:World}{L:List bE}{α:Type}{e:TypeId}{sz:Nat}{enc:α→List Value}{v:Value}{l:List α}{ca:Option Addr}{n cc:Nat}
theorem Fit.F7(h:Fit w0 (an (yq e sz enc v l::L)) w):(v= .slice none 0 0∧l=[]∧Fit w0 (an L) w)∨
 ∃g off cap k cur,v= .slice (some ⟨g,off,none⟩) l.length cap∧l.length≤cap∧(0<cap→off=k*sz)∧k+cap≤maxLen∧cur.size=(k+cap)*sz∧(cur.toList.drop (k*sz)).take (l.length*sz)=l.flatMap enc∧Fit w0 (an (pts g (.cells cur e)::L)) w:=by
 obtain⟨x,hx,a,c,hd,ee,hp,q⟩:=h.sat
 rcases hp with ⟨h1,h2,h3⟩ | ⟨g,off,cap,k,cur,h1,h2,h3,h4,h5,h6,h7⟩
 ·left
  exact⟨h1,h2,h.drop⟩
 ·right
  exact⟨g,off,cap,k,cur,h1,h2,h3,h4,h5,h6,⟨x,hx,a,c,hd,ee,h7,q⟩,h.os,h.tape,h.output,h.size⟩
theorem Fit.Jn(h:Fit w0 (an (rowOf e sz enc v l::L)) w):Fit w0 (an (yq e sz enc v l::L)) w:=
 h.head λ_ hx=>by
  rcases hx with h | ⟨g,cap,cur,h1,h2,h3,h4,h5,h6⟩
  ·exact .inl h
  ·exact .inr ⟨g,0,cap,0,cur,h1,h2,λ_=>by simp,by omega,by simpa using h4,by simpa using h5,h6⟩
theorem Fit.Mu(h:Fit w0 (an (yq e sz enc (.slice ca n cc) l::L)) w):n=l.length:=by
 rcases h.F7 with ⟨h1,h2,_⟩ | ⟨g,off,cap,k,cur,h1,_⟩
 ·simp only[Value.slice.injEq]at h1;rw[h2];exact h1.2.1
 ·simp only[Value.slice.injEq]at h1;exact h1.2.1
theorem Fit.Km(h:Fit w0 (an (yq e sz enc (.slice ca n cc) l::L)) w)(hl:0<l.length):ca=some ⟨GX.bg ca,GX.jY ca,none⟩:=by
 rcases h.F7 with ⟨h1,h2,_⟩ | ⟨g,off,cap,k,cur,h1,_⟩
 ·rw[h2]at hl;simp at hl
 ·simp only[Value.slice.injEq]at h1;rw[h1.1];rfl
theorem Fit.F8(he:pU enc sz)(h:Fit w0 (an (yq e sz enc (.slice ca n cc) l::L)) w){i:Nat}{f:Nat}{x:α}{u:Value}(hi:l[i]? = some x)(hf:(enc x)[f]? = some u):w.cell? ⟨GX.bg ca,GX.jY ca+i*sz+f,none⟩=some u:=by
 have BE:i<l.length:=(List.getElem?_eq_some_iff.1 hi).1
 rcases h.F7 with ⟨h1,h2,_⟩ | ⟨g,off,cap,k,cur,h1,h2,h3,h4,h5,h6,h7⟩
 ·rw[h2]at BE;simp at BE
 ·simp only[Value.slice.injEq]at h1
  obtain⟨rfl,_,rfl⟩:=h1
  have Xo:f<sz:=by rw[←he.len x];exact(List.getElem?_eq_some_iff.1 hf).1
  have h8:=he.get l i f x hi Xo
  rw[←h6,List.getElem?_take]at h8
  have hlt:i*sz+f<l.length*sz:=by
   have:(i+1)*sz≤l.length*sz:=Nat.mul_le_mul_right _ BE
   rw[Nat.add_mul]at this
   omega
  rw[fQ hlt,hf,List.getElem?_drop]at h8
  have ho:=h3 (by omega)
  show w.cell? ⟨g,off+i*sz+f,none⟩=some u
  rw[ho,show k*sz+i*sz+f=k*sz+(i*sz+f) by omega]
  refine h7.cell _ ?_
  simpa using h8
theorem Em(vs:List Value):∀(o:Nat) (cs:Array Value),o+vs.length≤cs.size→∃cs':Array Value,cs'.toList=cs.toList.take o++vs++cs.toList.drop (o+vs.length)∧∀{w0 w:World} {L:List bE} {b:Nat} {t:TypeId},Fit w0 (an (pts b (.cells cs t)::L)) w→Fit w0 (an (pts b (.cells cs' t)::L)) (w.setCells b o vs):=by
 induction vs with
 | nil=>intro o cs h;exact⟨cs,by simp,λh=>h⟩
 | cons v vs ih =>
  intro o cs h
  simp only[List.length_cons]at h
  obtain⟨cs',h1,h2⟩:=ih (o+1) (cs.setIfInBounds o v) (by simp;omega)
  refine⟨cs',?_,λhF=>h2 (hF.set o v)⟩
  rw[h1]
  have ho:o<cs.toList.length:=by simp;omega
  simp only[Array.toList_setIfInBounds,List.length_cons]
  rw[List.take_succ_eq_append_getElem (by simpa using ho),List.getElem_set_self,List.take_set_of_le (Nat.le_refl o),List.drop_set,fQ (by omega)]
  rw[show o+1+vs.length=o+(vs.length+1) by omega]
  simp
end
end SL
namespace GX
open Go Go.RowKit SL
section
variable {P:Program}{w w0 w1 z:World}{ops:Array Oper}{Q:Exit→Act→World→Prop}{a:Act}{rest:List Oper}{o:Oper}{n d:Nat}{l:List (Nat×Value)}{j e:Nat→Value}{Df:List Deferred}{L:List bE}{t E:TypeId}
variable {α:Type}{sz n0 cc:Nat}{enc:α→List Value}{xs:List α}{ca:Option Addr}
theorem Ya{x y:Operand}{k:IntKind}{i:Int}{w':World}(ho:o.op= .indexAddr t x y)(hx:eJ e x= .slice ca n0 cc)(hy:eJ e y= .int k i)
 (ht:P.underlying t=some (.slice E)) (hs:(P.info? E).map (·.size)=some sz) (hF:Fit w0 (an (yq E sz enc (.slice ca n0 cc) xs::L)) w) (hi:bT i xs.length):(execOp (eJ e) o).run P w'= .ok (.value (.pointer (some ⟨bg ca,jY ca+i.toNat*sz,none⟩))) w':=by
 have hn:=hF.Mu
 have h0:=hi.1;have h1:=hi.2
 exact Xq (hF.Km (by omega)) ho hx hy ht hs h0 (by omega)
theorem OM{x y:Operand}{k:IntKind}{i:Int}(hw:Region.wanted o (yielded ops a.tmps)=true)(hd:o.dst=some d)(hn:Nat.blt d n=true)(hr:cy Df n (lk l j) a)(ho:o.op= .slice t x (some y) none none)(hx:eJ (lk l j) x= .slice ca n0 cc)(hy:eJ (lk l j) y= .int k i)
 (ht:P.underlying t=some (.slice E)) (hs:(P.info? E).map (·.size)=some sz) (he:pU enc sz) (hF:Fit z (an (yq E sz enc (.slice ca n0 cc) xs::L)) w) (hi:0≤i∧i≤((xs.length:Nat):Int)) (hne:0<xs.length)
 (k:∀ca cc a,Fit z (an (yq E sz enc (.slice ca (xs.drop i.toNat).length cc) (xs.drop i.toNat)::L)) w→cy Df n (lk ((d,.slice ca (xs.drop i.toNat).length cc)::l) j) a→wpList P ops Q rest a w):wpList P ops Q (o::rest) a w:=by
 obtain⟨h0,h1⟩:=hi
 rcases hF.F7 with ⟨h2,h3,_⟩ | ⟨g,off,cap,q,cur,e1,e2,e3,e4,e5,e6,e7⟩
 ·rw[h3]at hne;simp at hne
 ·simp only[Value.slice.injEq]at e1
  obtain⟨rfl,rfl,rfl⟩:=e1
  obtain⟨m,rfl⟩ :∃m:Nat,i=m:=⟨i.toNat,by omega⟩
  simp only[Int.toNat_natCast]at k⊢
  have hm:m≤xs.length:=by omega
  have hlen:(xs.drop m).length=xs.length-m:=by simp
  have hrun:(execOp (eJ (lk l j)) o).run P w= .ok (.value (.slice (some (if cc=m then⟨g,off,none⟩else(⟨g,off,none⟩:Addr).add (m*sz))) (xs.length-m) (cc-m))) w:=by
   unfold execOp
   cases hq:P.info? E with
   | none=>simp[hq]at hs
   | some q =>
    simp[hq]at hs
    have c:cc=m∨¬cc=m:=Classical.em _
    rcases c with c | c<;>simp[ho,hx,hy,Instr.sliceAt,Instr.slice,Instr.sliceBounds,Instr.sliceBound,run_underlying ht,asIntOf,sizeOf,typeInfo,hq,hs,h1,hm,c]
  refine oM hw hd hn hr (w1:=w) hrun λa Fm => ?_
  rw[←hlen]at Fm
  refine k _ _ a ?_ Fm
  refine e7.head λy hy=>.inr ⟨g,if cc=m then off else off+m*sz,cc-m,q+m,cur,?_,by rw[hlen];omega,?_,by omega,by rw[e5];congr 1;omega,?_,hy⟩
  ·congr 1
   by_cases c:cc=m
   ·simp[fQ c]
   ·simp[fh c,Addr.add_lit]
  ·intro hc
   rw[fh (by omega),e3 (by omega)]
   simp[Nat.add_mul]
  ·rw[hlen]
   have h8:((cur.toList.drop (q*sz)).take (xs.length*sz)).drop (m*sz)=(xs.drop m).flatMap enc:=by
    rw[e6]
    have h9:(xs.take m).flatMap enc++(xs.drop m).flatMap enc=xs.flatMap enc:=by rw[←List.flatMap_append,List.take_append_drop]
    rw[←h9,List.drop_append_of_le_length (by rw[he.flat,List.length_take,Nat.min_eq_left hm];exact Nat.le_refl _)]
    rw[List.drop_eq_nil_of_le (by rw[he.flat,List.length_take,Nat.min_eq_left hm];exact Nat.le_refl _)]
    rfl
   rw[←h8,List.drop_take,List.drop_drop,Nat.add_mul,←Nat.sub_mul]
theorem F9{bytes:Nat}{s x:Operand}{ad:Addr}{m c:Nat}(hw:Region.wanted o (yielded ops a.tmps)=true)(hd:o.dst=some d)(hn:Nat.blt d n=true)(hr:cy Df n (lk l j) a)
 (ho:o.op= .call {callee:=.builtin .append,args:=#[s,x],argTypes:=#[t,t]}) (hs:eJ (lk l j) s= .slice ca n0 cc) (hx:eJ (lk l j) x= .slice (some ad) m c)
 (he:pU enc sz) (hty:P.underlying t=some (.slice E)) (nX:(P.info? E).map (λi=>(i.size,i.bytes,i.zero.map (·.cells.size)))=some (sz,bytes,some sz))
 (hF:Fit w0 (an (yq E sz enc (.slice ca n0 cc) xs::L)) w) {news:List α} (hm:news.length=m) (hnews:∀j u,(news.flatMap enc)[j]? = some u→w.cell? (ad.add j)=some u)
 (hb:(xs.length+m)*bytes≤140737488355328) (Hg:Nat.blt 0 bytes=true)
 (k:∀ca cc w1 a,Fit w0 (an (yq E sz enc (.slice ca (xs++news).length cc) (xs++news)::L)) w1→cy Df n (lk ((d,.slice ca (xs++news).length cc)::l) j) a→wpList P ops Q rest a w1):wpList P ops Q (o::rest) a w:=by
 rcases hF.F7 with ⟨h2,h3,h4⟩ | ⟨g,off,cap,q,cur,e1,e2,e3,e4,e5,e6,e7⟩
 ·simp only[Value.slice.injEq]at h2
  obtain⟨rfl,rfl,rfl⟩:=h2
  subst h3
  exact mO hw hd hn hr ho hs hx he hty nX (h4.jX (e:=E) (sz:=sz) (enc:=enc)) hm hnews hb Hg λca cc w1 a h Fm=>k ca cc w1 a h.Jn Fm
 ·simp only[Value.slice.injEq]at e1
  obtain⟨rfl,rfl,rfl⟩:=e1
  cases hi:P.info? E with
  | none=>simp[hi]at nX
  | some i =>
   simp only[hi,Option.map_some,Option.some.injEq,Prod.mk.injEq]at nX
   obtain⟨i1,i2,i3⟩:=nX
   cases hz:i.zero with
   | none=>simp[hz]at i3
   | some zv =>
    simp only[hz,Option.map_some,Option.some.injEq]at i3
    subst i1;subst i2
    have FG:0<i.bytes:=Nat.le_of_ble_eq_true Hg
    have h63:xs.length+m≤maxLen:=by
     have:xs.length+m≤(xs.length+m)*i.bytes:=Nat.le_mul_of_pos_right _ FG
     simp only[maxLen];omega
    have Ok:((xs.length+m:Nat):Int)≤9223372036854775807:=by simp only[maxLen]at h63;omega
    have hlen:(news.flatMap enc).length=m*i.size:=by rw[he.flat,hm]
    have fin:∀v' w',(Builtin.append_ #[t,t] o.type #[.slice (some ⟨g,off,none⟩) xs.length cc,.slice (some ad) m c]).run P w= .ok v' w'→(∃ca cc,v'= .slice ca (xs++news).length cc∧Fit w0 (an (yq E i.size enc v' (xs++news)::L)) w')→wpList P ops Q (o::rest) a w:=by
     rintro v' w' hrun ⟨ca,cc,rfl,zW⟩
     refine oM hw hd hn hr ?_ (λa hr=>k ca cc w' a zW hr)
     unfold execOp
     simp only[ho,resolve,invoke,builtin,Sem.run_bind,Sem.run_pure,Result.andThen_ok,List.map_toArray,List.map_cons,List.map_nil,hs,hx,hrun]
    by_cases hroom:xs.length+m≤cc
    ·by_cases LU:m=0
     ·subst LU
      have Rb:news=[]:=List.eq_nil_of_length_eq_zero hm
      subst Rb
      have Rj:=run_append_room_cells (P:=P) (w:=w) t o.type E i hty hi g off xs.length cc ad 0 c [] (by simp) (by simp) (by simp) hroom (by simp) (by simp)
      refine fin _ _ Rj ⟨some ⟨g,off,none⟩,cc,by simp,?_⟩
      simpa [World.setCells]using hF
     ·have Yb:=e3 (by omega)
      subst Yb
      have hfit:(q+xs.length)*i.size+(news.flatMap enc).length≤cur.size:=by rw[hlen,e5,←Nat.add_mul];exact Nat.mul_le_mul_right _ (by omega)
      have hpos:q*i.size+xs.length*i.size=(q+xs.length)*i.size:=(Nat.add_mul _ _ _).symm
      have Rj:=run_append_room_cells (P:=P) (w:=w) t o.type E i hty hi g (q*i.size) xs.length cc ad m c (news.flatMap enc) hlen hnews (he.wu news) hroom
       (λk hk=>by rw[hpos];rw[e7.cell ((q+xs.length)*i.size+k) (v:=cur[(q+xs.length)*i.size+k]'(by omega)) (by rw[Array.getElem?_eq_getElem])];rfl) (λk hk=>e7.free _)
      rw[hpos]at Rj
      obtain⟨cs',c1,c2⟩:=Em (news.flatMap enc) ((q+xs.length)*i.size) cur hfit
      have hsz:cs'.size=cur.size:=by
       have:=congrArg List.length c1
       simp only[List.length_append,List.length_take,List.length_drop,Array.length_toList]at this
       omega
      refine fin _ _ Rj ⟨_,_,by rw[List.length_append,hm],(c2 e7).head λy hy=>.inr ⟨g,_,cc,q,cs',by rw[List.length_append,hm],by rw[List.length_append,hm];exact hroom,λ_=>rfl,e4,by rw[hsz];exact e5,?_,hy⟩⟩
      rw[c1,List.flatMap_append,←e6,List.length_append,hm]
      have hA:(cur.toList.take ((q+xs.length)*i.size)).length=(q+xs.length)*i.size:=by rw[List.length_take,Array.length_toList];exact Nat.min_eq_left (Nat.le_trans (Nat.le_add_right _ _) hfit)
      rw[List.append_assoc,List.drop_append_of_le_length (by rw[hA,Nat.add_mul];omega)]
      have hB:(cur.toList.take ((q+xs.length)*i.size)).drop (q*i.size)=(cur.toList.drop (q*i.size)).take (xs.length*i.size):=by
       rw[List.drop_take,Nat.add_mul,Nat.add_sub_cancel_left]
      rw[hB,←List.append_assoc]
      have hC:(((cur.toList.drop (q*i.size)).take (xs.length*i.size))++news.flatMap enc).length=(xs.length+m)*i.size:=by
       rw[e6,List.length_append,he.flat,hlen,Nat.add_mul]
      rw[←hC]
      exact List.take_left
    ·have holds:∀j u,(xs.flatMap enc)[j]? = some u→w.cell? ((⟨g,off,none⟩:Addr).add j)=some u:=by
      intro jj u hu
      have hj:jj<xs.length*i.size:=by rw[←he.flat];exact(List.getElem?_eq_some_iff.1 hu).1
      have hx0:0<xs.length:=by
       rcases Nat.eq_zero_or_pos xs.length with h0 | h0
       ·rw[h0]at hj;simp at hj
       ·exact h0
      rw[Addr.add_lit,e3 (by omega)]
      refine e7.cell _ ?_
      rw[←e6,List.getElem?_take,fQ hj,List.getElem?_drop]at hu
      simpa using hu
     have Rj:=run_append_grow (P:=P) w t o.type E i zv hty hi hz ⟨g,off,none⟩ xs.length cc (xs.flatMap enc) (he.flat xs) holds ad m c (news.flatMap enc) hlen hnews (by omega) Ok (growslice_fits (by omega) hb)
     have hge:=grownCap_ge w (xs.length+m) cc E
     have SO:grownCap w (xs.length+m) cc E≤maxLen:=grownCap_le_maxLen w (xs.length+m) cc E h63
     refine fin _ _ Rj ⟨_,_,by rw[List.length_append,hm],?_⟩
     refine(e7.drop.drew.alloc _).head λx hx=>.inr ⟨w.heap.size,0,grownCap w (xs.length+m) cc E,0,_,by rw[List.length_append,hm],by rw[List.length_append,hm];exact hge,λ_=>by simp,by omega,?_,?_,hx⟩
     ·simp only[Array.size_append,List.size_toArray,size_zeroCells,i3,he.flat,hm,←Nat.add_mul]
      congr 1
      omega
     ·rw[List.flatMap_append,List.length_append,hm]
      simp only[Array.toList_append,Nat.zero_mul,List.drop_zero]
      rw[show(xs.length+m)*i.size=((xs.flatMap enc)++(news.flatMap enc)).length by rw[List.length_append,hlen,he.flat,Nat.add_mul]]
      exact List.take_left
end
end GX
end
section
namespace GX
open Go Go.RowKit SL
def B3:Value→Value→Bool
 | .int k _,.int k' _=>k==k'
 | .bool _,.bool _=>true
 | _,_=>false
def wD:List Value→List Value→Bool
 | [],[]=>true
 | u::us,v::vs=>B3 u v&&wD us vs
 | _,_=>false
def Mv:List Value→List Value→Bool
 | .int a _::_,.int b _::_=>a==b
 | _,_=>false
def Mw:List Value→List Value→Bool
 | .bool _::_,.bool _::_=>true
 | _,_=>false
theorem Ga{us vs:List Value}(h:Mv us vs=true) :∃k x y us' vs',us= .int k x::us'∧vs= .int k y::vs':=by
 unfold Mv at h
 split at h
 ·simp only[beq_iff_eq]at h;subst h;exact⟨_,_,_,_,_,rfl,rfl⟩
 ·cases h
theorem Gb{us vs:List Value}(h:Mw us vs=true) :∃x y us' vs',us= .bool x::us'∧vs= .bool y::vs':=by
 unfold Mw at h
 split at h
 ·exact⟨_,_,_,_,rfl,rfl⟩
 ·cases h
theorem Kn{u v:Value}(h:B3 u v=true):(∃k x y,u= .int k x∧v= .int k y)∨∃x y,u= .bool x∧v= .bool y:=by
 unfold B3 at h
 split at h
 ·simp only[beq_iff_eq]at h;subst h;exact .inl ⟨_,_,_,rfl,rfl⟩
 ·exact .inr ⟨_,_,rfl,rfl⟩
 ·cases h
def uM(P:Program):Nat→Nat→List Field→List Value→List Value→Bool
 | 0,_,_,_,_=>false
 | k+1,i,fs,us,vs=>match fs with
  | []=>us.isEmpty&&vs.isEmpty
  | f::fs=>(f.name != "_")&&f.offset==i&&(match P.underlying f.type with
   | some (.int _)=>Mv us vs&&uM P k (i+1) fs us.tail vs.tail
   | some .bool=>Mw us vs&&uM P k (i+1) fs us.tail vs.tail
   | some (.struct _)=>(P.info? f.type).isSome && !(P.stoodInHeld f.type)&&Nat.ble (P.cellsOf f.type) us.length&&Nat.ble (P.cellsOf f.type) vs.length
    && uM P k 0 (P.fieldsOf f.type).toList (us.take (P.cellsOf f.type)) (vs.take (P.cellsOf f.type))&&uM P k (i+P.cellsOf f.type) fs (us.drop (P.cellsOf f.type)) (vs.drop (P.cellsOf f.type))
   | _=>false)
theorem DU:∀{a c b d:List Value},wD a c=true→wD b d=true→wD (a++b) (c++d)=true
 | [],[],_,_,_,h=>h
 | u::a,v::c,_,_,h1,h=>by
  simp only[wD,Bool.and_eq_true]at h1
  simp only[List.cons_append,wD,Bool.and_eq_true]
  exact⟨h1.1,DU h1.2 h⟩
theorem Gc:∀{a c b d:List Value},wD a c=true→qd (a++b) (c++d)=(qd a c&&qd b d)
 | [],[],_,_,_=>by simp[qd]
 | u::a,v::c,b,d,h=>by
  simp only[wD,Bool.and_eq_true]at h
  have ih:=Gc (b:=b) (d:=d) h.2
  rcases Kn h.1 with ⟨k,x,y,rfl,rfl⟩ | ⟨x,y,rfl,rfl⟩
  ·simp[qd,ih,Bool.and_assoc]
  ·simp[qd,ih,Bool.and_assoc]
section
variable {P:Program}{w:World}{o:Oper}{e:Nat→Value}
theorem tu:∀(k i:Nat) (fs:List Field) (us vs:List Value),uM P k i fs us vs=true→wD us vs=true
 | 0,_,_,_,_,h=>by simp[uM]at h
 | k+1,_,[],us,vs,h=>by
  simp only[uM,Bool.and_eq_true,List.isEmpty_iff]at h
  obtain⟨rfl,rfl⟩:=h
  rfl
 | k+1,i,f::fs,us,vs,h=>by
  simp only[uM,Bool.and_eq_true]at h
  obtain⟨_,h⟩:=h
  split at h
  ·simp only[Bool.and_eq_true]at h
   obtain⟨kk,x,y,us',vs',rfl,rfl⟩:=Ga h.1
   simp only[wD,B3,beq_self_eq_true,Bool.true_and]
   exact tu k _ _ _ _ h.2
  ·simp only[Bool.and_eq_true]at h
   obtain⟨x,y,us',vs',rfl,rfl⟩:=Gb h.1
   simp only[wD,B3,Bool.true_and]
   exact tu k _ _ _ _ h.2
  ·simp only[Bool.and_eq_true]at h
   have a:=tu k _ _ _ _ h.1.2
   have b:=tu k _ _ _ _ h.2
   have:=DU a b
   rwa [List.take_append_drop,List.take_append_drop]at this
  ·cases h
theorem Gd{t:TypeId}{gs:Array Field}(h:P.underlying t=some (.struct gs)):P.fieldsOf t=gs:=by
 unfold Program.fieldsOf
 rw[h]
theorem DV{t:TypeId}{gs:Array Field}{cs:Array Value}{i:Nat}(h:P.underlying t=some (.struct gs))(hi:(P.info? t).isSome=true):(part t cs i).run P w= .ok (.agg (cs.extract i (i+P.cellsOf t))) w:=by
 obtain⟨q,hq⟩:=Option.isSome_iff_exists.1 hi
 unfold part isAgg
 simp only[Sem.run_bind,run_underlying h,Result.andThen_ok,Sem.run_pure,if_true,run_sizeOf w hq]
theorem yY:∀(k D i:Nat) (fs:List Field) (us vs:List Value) (xs ys:Array Value),uM P k i fs us vs=true→k≤D→(∀j,us[j]? = xs[i+j]?∨us.length≤j)→(∀j,vs[j]? = ys[i+j]?∨vs.length≤j)→
 (Op.eqFields (D+1) xs ys fs).run P w= .ok (qd us vs) w
 | 0,_,_,_,_,_,_,_,h,_,_,_=>by simp[uM]at h
 | k+1,_,_,[],us,vs,_,_,h,_,_,_=>by
  simp only[uM,Bool.and_eq_true,List.isEmpty_iff]at h
  obtain⟨rfl,rfl⟩:=h
  simp[Op.eqFields,qd]
 | k+1,D,i,f::fs,us,vs,xs,ys,h,hD,hx,hy=>by
  simp only[uM,Bool.and_eq_true,bne_iff_ne,ne_eq,beq_iff_eq]at h
  obtain⟨⟨hn,ho⟩,h⟩:=h
  have step:∀(n:Nat) (zs:List Value) (cs:Array Value),(∀j,zs[j]? = cs[i+j]?∨zs.length≤j)→∀j,(zs.drop n)[j]? = cs[i+n+j]?∨(zs.drop n).length≤j:=λn zs cs hz j=>by
   rcases hz (n+j)with h | h
   ·left;rw[List.getElem?_drop,h,Nat.add_assoc]
   ·right;rw[List.length_drop];omega
  split at h
  ·rename_i kk hty
   simp only[Bool.and_eq_true]at h
   obtain⟨a,x,y,us',vs',rfl,rfl⟩:=Ga h.1
   have hx0:xs[i]? = some (.int a x):=by rcases hx 0 with h | h;simpa using h.symm;simp at h
   have hy0:ys[i]? = some (.int a y):=by rcases hy 0 with h | h;simpa using h.symm;simp at h
   have ih:=yY k D (i+1) fs us' vs' xs ys h.2 (by omega) (by simpa using step 1 _ xs hx) (by simpa using step 1 _ ys hy)
   have pa:=ou (P:=P) (w:=w) (t:=f.type) (cs:=xs) (i:=f.offset) (v:=.int a x) (by rw[hty]) (by rw[ho];exact hx0)
   have pb:=ou (P:=P) (w:=w) (t:=f.type) (cs:=ys) (i:=f.offset) (v:=.int a y) (by rw[hty]) (by rw[ho];exact hy0)
   rw[Op.eqFields]
   simp only[fQ hn,Sem.run_bind,pa,pb,run_equalIn_int w D f.type a kk x y hty,Result.andThen_ok]
   cases hab:(x==y)
   ·simp[qd,hab]
   ·simp[qd,hab,ih]
  ·rename_i hty
   simp only[Bool.and_eq_true]at h
   obtain⟨x,y,us',vs',rfl,rfl⟩:=Gb h.1
   have hx0:xs[i]? = some (.bool x):=by rcases hx 0 with h | h;simpa using h.symm;simp at h
   have hy0:ys[i]? = some (.bool y):=by rcases hy 0 with h | h;simpa using h.symm;simp at h
   have ih:=yY k D (i+1) fs us' vs' xs ys h.2 (by omega) (by simpa using step 1 _ xs hx) (by simpa using step 1 _ ys hy)
   have pa:=ou (P:=P) (w:=w) (t:=f.type) (cs:=xs) (i:=f.offset) (v:=.bool x) (by rw[hty]) (by rw[ho];exact hx0)
   have pb:=ou (P:=P) (w:=w) (t:=f.type) (cs:=ys) (i:=f.offset) (v:=.bool y) (by rw[hty]) (by rw[ho];exact hy0)
   rw[Op.eqFields]
   simp only[fQ hn,Sem.run_bind,pa,pb,run_equalIn_bool' w D f.type x y hty,Result.andThen_ok]
   cases hab:(x==y)
   ·simp[qd,hab]
   ·simp[qd,hab,ih]
  ·rename_i gs hty
   simp only[Bool.and_eq_true,Bool.not_eq_true',Nat.ble_eq]at h
   obtain⟨⟨⟨⟨⟨hi,hp⟩,hu⟩,hv⟩,h1⟩,h2⟩:=h
   obtain⟨D,rfl⟩ :∃m,D=m+1:=⟨D-1,by omega⟩
   have cut:∀(zs:List Value) (cs:Array Value),P.cellsOf f.type≤zs.length→(∀j,zs[j]? = cs[i+j]?∨zs.length≤j)→∀j,(zs.take (P.cellsOf f.type))[j]? = (cs.extract i (i+P.cellsOf f.type))[0+j]?∨(zs.take (P.cellsOf f.type)).length≤j:=λzs cs hl hz j=>by
    by_cases hj:j<P.cellsOf f.type
    ·left
     rcases hz j with h | h
     ·rw[List.getElem?_take,fQ hj,h,Nat.zero_add,Array.getElem?_extract]
      split
      ·rfl
      ·rename_i hc
       refine Array.getElem?_eq_none ?_
       omega
     ·omega
    ·right;rw[List.length_take];omega
   have Rk:=yY k D 0 _ _ _ _ _ h1 (by omega) (cut us xs hu hx) (cut vs ys hv hy)
   have Rl:=yY k (D+1) (i+P.cellsOf f.type) fs _ _ xs ys h2 (by omega) (step _ _ xs hx) (step _ _ ys hy)
   have pa:=DV (P:=P) (w:=w) (cs:=xs) (i:=f.offset) hty hi
   have pb:=DV (P:=P) (w:=w) (cs:=ys) (i:=f.offset) hty hi
   have heq:=run_equalIn_struct (P:=P) w (D+1) f.type (xs.extract i (i+P.cellsOf f.type)) (ys.extract i (i+P.cellsOf f.type)) (by rw[Gd hty];exact hty) hp
   rw[Rk]at heq
   have hs:=Gc (b:=us.drop (P.cellsOf f.type)) (d:=vs.drop (P.cellsOf f.type)) (tu _ _ _ _ _ h1)
   rw[List.take_append_drop,List.take_append_drop]at hs
   rw[Op.eqFields,hs]
   rw[ho]at pa pb
   simp only[fQ hn,Sem.run_bind,ho,pa,pb,heq,Result.andThen_ok]
   cases hab:qd (us.take (P.cellsOf f.type)) (vs.take (P.cellsOf f.type))
   ·simp
   ·simp[Rl]
  ·cases h
theorem Rm{x y:Operand}{us vs:List Value}{T T':TypeId}(ho:o.op= .binOp .eql T x y T')(hx:eJ e x= .agg us.toArray)(hy:eJ e y= .agg vs.toArray)(hm:P.eqGuardType P.depth T=false)(hp:P.stoodInHeld T=false)
 (hu:P.underlying T=some (.struct (P.fieldsOf T))) (hf:uM P 64 0 (P.fieldsOf T).toList us vs=true):(execOp (eJ e) o).run P w= .ok (.value (.bool (qd us vs))) w:=by
 unfold execOp
 have h1:=run_equalIn_struct (P:=P) w 9999 T us.toArray vs.toArray hu hp
 rw[yY (P:=P) (w:=w) 64 9998 0 (P.fieldsOf T).toList us vs us.toArray vs.toArray hf (by decide) (λj=>by left;simp) (λj=>by left;simp)]at h1
 simp[ho,hx,hy,run_eqGuard_agg (P:=P) w .eql T x y us.toArray vs.toArray hm,run_eql_struct,h1]
end
end GX
end
section
namespace Md
open Go Go.RowKit SL GX
set_option maxRecDepth 100000
set_option maxHeartbeats 4000000
noncomputable section
variable {z w:World}{L:List bE}
abbrev Br(a:Option Addr)(c:Nat)(l:List Int):bE:=rowOf 3 1 dK (.slice a l.length c) l
end
end Md
end
section
namespace Md
open Go Go.RowKit SL GX
set_option maxRecDepth 100000
set_option maxHeartbeats 4000000
noncomputable section
variable {z w:World}{L:List bE}
def qm(p0:Int)(p1:List Int)(p2:Bool):Option (Int×Int):=
 eL ((if p0=((p1.length:Nat):Int)then(if p2=true then some 0 else some p0)else some p0)) (λg3=>(if g3=((p1.length:Nat):Int)then some (0,g3)else if bT (wi ((wi (g3+1))-1)) p1.length then some ((ag p1 (wi ((wi (g3+1))-1)).toNat),wi (g3+1))else none))
theorem yZ{p0 r0 q0:Int}{p1:List Int}{p2:Bool}{B0 B1 er B2:Nat}{eu:Option Addr}(H:qm p0 p1 p2=some (r0,q0))(h:Fit z (an (pts B0 (.cells #[vI p0] 3)::pts B1 (.cells #[.slice eu p1.length er] 28)::Br eu er p1::pts B2 (.cells #[vB p2] 4)::L)) w) :
 Calls Tryz.prog 84 #[pA B0 0,pA B1 0,pA B2 0] w λe w=>e=.returned (vI r0)∧Fit z (an (pts B0 (.cells #[vI q0] 3)::pts B1 (.cells #[.slice eu p1.length er] 28)::Br eu er p1::pts B2 (.cells #[vB p2] 4)::L)) w:=by
 unfold qm at H;refine ke Tryz.func84 22 rfl λj=>ks<|ko [U]<|kn<|El H λo5 H hK4=>λ_ r=>dw (β:=Unit) (λ_ a w=>∃g3:Int,g3=o5∧∃j,kP 22 (lk [(0,pA B0 0),(1,pA B1 0)] j) a∧Fit z (an (pts B0 (.cells #[vI g3] 3)::pts B1 (.cells #[.slice eu p1.length er] 28)::Br eu er p1::pts B2 (.cells #[vB p2] 4)::L)) w) ?_ ?_
 ·refine qq r<|ks<|kL h 0<|kL (h.pick 1) 0<|ko [vI ((p1.length:Nat):Int),vB (p0==((p1.length:Nat):Int)),vB (p0==((p1.length:Nat):Int))]<|qI H (λc6 H=>?_) λc6 H=>?_
  ·refine λ_ r=>ld (pX r (beq_iff_eq.mpr c6)) r (vB p2) ((h.pick 3).cell 0 rfl)<|?_;refine mH (beq_iff_eq.mpr c6) (vB p2)<|kn<|De H (λc7 H=>?_) λc7 H=>?_
   ·refine wl<|kS h 0 (pts B0 (.cells #[vI 0] 3)) λw h=>kn<|?_;exact λ_ r=>⟨(),0,gH H,r.fj h⟩
   refine wk<|tn<|?_;exact λ_ r=>⟨(),p0,gH H,r.fj h⟩
  refine bZ (bN c6) [9]<|mF (bN c6) (vB false)<|kn<|λ_ r=>ik r (b:=false) rfl<|qq r<|wk<|tn<|?_;exact λ_ r=>⟨(),p0,gH H,r.fj h⟩
 clear h r;rintro _ a w ⟨g3,rfl,j,r,h⟩;replace H:=Eg hK4;refine qq r<|wq<|ks<|kL h 0<|kL (h.pick 1) 0<|ko [vI ((p1.length:Nat):Int),vB (g3==((p1.length:Nat):Int))]<|kn<|dR H (λc8 H=>?_) λc8 H=>?_
 ·refine ks<|ko [U]<|kn<|wr<|tr<|?_;cases H;exact gu h
 refine wk<|tn<|ks<|kL h 0<|ko [vI (wi (g3+1))]<|kS h 0 (pts B0 (.cells #[vI (wi (g3+1))] 3)) λw h=>kn<|ks<|kL (h.pick 1) 0<|kL h 0<|qg H λc9 H=>ko [vI (wi ((wi (g3+1))-1))]<|ki (h.pick 2) c9<|λ_ r=>ld (wn rfl) r (vI (ag p1 (wi ((wi (g3+1))-1)).toNat)) ((h.pick 2).cL bq (f:=0) (bf c9) rfl)<|?_;refine ko [vI (ag p1 (wi ((wi (g3+1))-1)).toNat)]<|kn<|wr<|?_;cases H;exact gu h
end
end Md
end
section
namespace Mo
open Go Go.RowKit SL GX
set_option maxRecDepth 100000
structure aF where
 rest:List Int
deriving Inhabited,DecidableEq
def AY(x:aF):Int:=x.rest.headD 0
def Dg(x:aF):aF:=⟨x.rest.tail⟩
def qU(b:Nat)(x:aF):bE:=exs λk:Nat=>exs λpa:Nat=>exs λpl:Nat=>exs λpg:Nat=>exs λca:Option Addr=>exs λcc:Nat=>exs λl:List Int =>
 an [LP (k≤l.length∧l.length*8≤140737488355328∧x.rest=l.drop k),pts b (.cells #[.func (.func 84) #[] #[pA pa 0,pA pl 0,pA pg 0]] 181),pts pa (.cells #[vI k] 3),pts pl (.cells #[.slice ca l.length cc] 28),rowOf 3 1 dK (.slice ca l.length cc) l,pts pg (.cells #[vB false] 4)]
theorem Mx{l:List Int}{k:Nat}(hk:k≤l.length)(hb:l.length*8≤140737488355328):Md.qm (k:Int) l false=some (if k=l.length then(0,(k:Int))else(ag l k,((k+1:Nat):Int))):=by
 have e1:wi ((k:Int)+1)=((k+1:Nat):Int):=by rw[eM (by omega)];omega
 have e2:wi (((k+1:Nat):Int)-1)=(k:Int):=by rw[eM (by omega)];omega
 unfold Md.qm
 by_cases c:k=l.length
 ·subst c;simp[eL]
 ·have c':¬(k:Int)=((l.length:Nat):Int):=by omega
  have hi:bT (k:Int) l.length:=by unfold bT;omega
  simp only[fh c',fh c,eL,e1,e2,fQ hi,Int.toNat_natCast]
theorem My{l:List Int}{k:Nat}{x:aF}(hk:k≤l.length)(hx:x.rest=l.drop k):(if k=l.length then(0,(k:Int))else(ag l k,((k+1:Nat):Int)))=(AY x,(((if k=l.length then k else k+1):Nat):Int))∧(if k=l.length then k else k+1)≤l.length∧(Dg x).rest=l.drop (if k=l.length then k else k+1):=by
 unfold AY Dg
 rw[hx]
 by_cases c:k=l.length
 ·subst c;simp
 ·have hlt:k<l.length:=by omega
  simp only[fh c]
  refine⟨?_,by omega,by rw[List.tail_drop]⟩
  rw[Mc hlt,List.drop_eq_getElem_cons hlt];rfl
theorem Ko{z w:World}{L:List bE}{α:Type}{b:Nat}{E:TypeId}{sz:Nat}{enc:α→List Value}(h:Fit z (an (pts b (.cells #[] E)::L)) w):Fit z (an (rowOf E sz enc (.slice (some ⟨b,0,none⟩) 0 0) ([]:List α)::L)) w:=
 h.head λy hy=>.inr ⟨b,0,#[],rfl,Nat.le_refl _,by simp[maxLen],by simp,by simp,hy⟩
theorem Mz{z w:World}{L:List bE}{va:Option Addr}{vc:Nat}{l:List Int}(hv:cu L 1 dK va l)(h:Fit z (an L) w)(hb:l.length*8≤140737488355328) :
 Calls Tryz.prog 83 #[.slice va l.length vc] w λe w =>∃ca cc,e= .returned (.slice ca l.length cc)∧Fit z (an (rowOf 3 1 dK (.slice ca l.length cc) l::L)) w:=by
 refine ke Tryz.func83 8 rfl λj=>ks<|ko [U]<|kn<|wq <| ?_
 cases va with
 | none =>
  have hl:l=[]:=by
   cases l with
   | nil=>rfl
   | cons x xs=>exact absurd (hv.ne (by simp)) (by simp)
  subst hl
  refine ks<|ko [U,vB true]<|kn<|λ_ r=>gb r (b:=true) rfl<|qq r<|ks<|ko [U]<|kn<|wr<|tr <| ?_
  exact Tg none 0 h.jX
 | some ad =>
  refine ks<|ko [U,vB false]<|kn<|λ_ r=>ik r (b:=false) rfl<|qq r<|wk<|tn<|ks<|λ_ r=>Rd (wn rfl) r h (λb=>.slice (some ⟨b,0,none⟩) 0 0) #[] 3 λb w _ h r => ?_
  refine qq r<|ko [U]<|λ_ r=>vh (m0:=0) (n0:=0) (ca:=some ⟨b,0,none⟩) (cc:=0) (c:=vc) (va:=some ad) (bytes:=8) (wn rfl) rfl rfl r rfl (by kernel_rfl) (news:=l) (by kernel_rfl) bq (E:=3) (xs:=([]:List Int)) (by kernel_rfl) (by kernel_rfl) (Ko h) hv (by simpa using hb) rfl λca cc w _ h r => ?_
  rw[List.nil_append]at h r
  refine qq r<|ko [U]<|kn<|wr <| ?_
  exact Tg ca cc h
theorem B4{z w:World}{L:List bE}{b:Nat}{x:aF}(h:Fit z (an (qU b x::L)) w) :
 Calls Tryz.prog 264 #[pA b 0] w λe w=>e= .returned (vI (AY x))∧Fit z (an (qU b (Dg x)::L)) w:=by
 obtain⟨k,h⟩:=h.kU
 obtain⟨pa,h⟩:=h.kU
 obtain⟨pl,h⟩:=h.kU
 obtain⟨pg,h⟩:=h.kU
 obtain⟨ca,h⟩:=h.kU
 obtain⟨cc,h⟩:=h.kU
 obtain⟨l,h⟩:=h.kU
 have h:=h.pT
 obtain⟨⟨hk,hb,hx⟩,h⟩:=h.wo
 obtain⟨e1,e2,e3⟩:=My hk hx
 have H:=Mx hk hb
 rw[e1]at H
 generalize hm:(if k=l.length then k else k+1)=m at *
 refine ke Tryz.func264 17 rfl λj=>ks<|ko [U]<|kn<|wq<|ks<|ko [U,vB false,vB false]<|cS (rfl:false=false) [6,7,8] [pA b 0,pA b 0,pA b 0]<|q9 (rfl:false=false) h 0<|cS (rfl:false=false) [10] [vB false]<|mF (rfl:false=false) (vB false)<|kn<|λ_ r=>ik r (b:=false) rfl<|qq r<|wk<|tn<|ks<|ko [U,U,U]<|kL h 0<|qh h.m4.m4.m4.m4 λh=>eU (Md.yZ (H:=H) (h:=h) :) λw h=>ko [U]<|kn<|wr <| ?_
 exact gu (Fit.iK m<|Fit.iK pa<|Fit.iK pl<|Fit.iK pg<|Fit.iK ca<|Fit.iK cc<|Fit.iK l<|Fit.oL _ L<|Fit.uF ⟨e2,hb,e3⟩ h.m4)
theorem MA{z w:World}{L:List bE}{va:Option Addr}{vc:Nat}{l:List Int}(hv:cu L 1 dK va l)(h:Fit z (an L) w)(hb:l.length*8≤140737488355328) :
 Calls Tryz.prog 53 #[.slice va l.length vc,vB false] w λe w =>∃b,e= .returned (pA b 0)∧Fit z (an (qU b ⟨l⟩::L)) w:=by
 refine ke Tryz.func53 12 rfl λj=>ks<|kN h #[vB false] 4 λpg w h=>ko [U]<|kn<|ks<|ko [U]<|Ri (Mz (va:=va) (vc:=vc) (cu.up (L':=pts pg (.cells #[vB false] 4)::L) 1 hv) h hb :) λca cc w h=>kN h #[.slice none 0 0] 28 λpl w h=>kS h 0 (pts pl (.cells #[.slice ca l.length cc] 28)) λw h=>kn<|ks<|kN h #[vI 0] 3 λpa w h=>kS h 0 (pts pa (.cells #[vI 0] 3)) λw h=>kn<|ks<|ko [U,U]<|kN h #[.func (.func 84) #[] #[pA pa 0,pA pl 0,pA pg 0]] 181 λb w h=>ko [U]<|kn<|wr <| ?_
 exact WR b (Fit.iK 0<|Fit.iK pa<|Fit.iK pl<|Fit.iK pg<|Fit.iK ca<|Fit.iK cc<|Fit.iK l<|Fit.oL _ L<|Fit.uF ⟨Nat.zero_le _,hb,rfl⟩ h)
theorem wE{z w:World}{L:List bE}{va:Option Addr}{c:Nat}{l:List Int}(h:Fit z (an L) w)(hv:cu L 1 dK va l)(hb:l.length*8≤140737488355328) :
 Calls Tryz.prog 18 #[.slice va l.length c] w λe w =>∃b,e= .returned (pA b 0)∧Fit z (an (qU b ⟨l⟩::L)) w:=by
 refine ke Tryz.func18 5 rfl λj=>ks<|ko [U]<|kn<|ks<|ko [U]<|WQ (MA (vc:=c) hv h hb :) λb w h=>ko [U]<|kn<|wr <| ?_
 exact WR b h
end Mo
end
section
namespace GX
open Go Go.RowKit SL
def uN{α:Type}[Inhabited α](l:List α)(lo m:Nat):List α:=(List.range m).map λj=>ag l (lo+j)
theorem y9{α:Type}[Inhabited α](l:List α)(lo m:Nat):(uN l lo m).length=m:=by simp[uN]
theorem Qo{α:Type}{enc:α→List Value}(he:pU enc 1):∀(m:List α) (k:Nat),(m.drop k).flatMap enc=(m.flatMap enc).drop k
 | [],k=>by simp
 | x::m,0=>by simp
 | x::m,k+1=>by
  obtain⟨u,hu⟩:=List.length_eq_one_iff.1 (he.len x)
  rw[List.drop_succ_cons,Qo he m k,List.flatMap_cons,hu];rfl
theorem MB{α:Type}{enc:α→List Value}(he:pU enc 1):∀(m:List α) (k:Nat),(m.take k).flatMap enc=(m.flatMap enc).take k
 | [],k=>by simp
 | x::m,0=>by simp
 | x::m,k+1=>by
  obtain⟨u,hu⟩:=List.length_eq_one_iff.1 (he.len x)
  rw[List.take_succ_cons,List.flatMap_cons,MB he m k,List.flatMap_cons,hu];rfl
theorem Rn{α:Type}[Inhabited α]{A:List Value}{N f lo m:Nat}{enc:α→List Value}{l:List α}(he:pU enc 1)(hA:A.length=f)(hm:lo+m≤N):((A++jr N enc l).drop (f+lo)).take m=(uN l lo m).flatMap enc:=by
 subst hA
 rw[List.drop_append,List.drop_eq_nil_of_le (by omega),List.nil_append,Nat.add_sub_cancel_left,xk,←Qo he,←MB he]
 congr 1
 apply List.ext_getElem
 ·simp[uN];omega
 ·intro i h1 h2
  simp[uN]
section
variable {P:Program}{ops:Array Oper}{Q:Exit→Act→World→Prop}{a:Act}{w w0 w1:World}{rest:List Oper}{o:Oper}{n d t T T2:Nat}{v:Value}{l:List (Nat×Value)}{j e:Nat→Value}{L:List bE}{Df:List Deferred}
theorem UG{x y y':Operand}{k k':IntKind}{lo hi:Int}{B off N:Nat}{E:TypeId}{w':World}(ho:o.op= .slice t x (some y) (some y') none)(hx:eJ e x= .pointer (some ⟨B,off,none⟩))(hy:eJ e y= .int k lo)(hy':eJ e y'= .int k' hi)
 (ht:P.underlying t=some (.array N E)) (hs:(P.info? E).map (·.size)=some 1) (hg:0≤lo∧lo≤hi∧hi≤N∧lo<N):(execOp (eJ e) o).run P w'= .ok (.value (.slice (some ⟨B,off+lo.toNat,none⟩) (hi.toNat-lo.toNat) (N-lo.toNat))) w':=by
 obtain⟨h0,h1,h2,h3⟩:=hg
 obtain⟨p,rfl⟩:=Int.eq_ofNat_of_zero_le h0
 obtain⟨q,rfl⟩:=Int.eq_ofNat_of_zero_le (Int.le_trans h0 h1)
 have g1:p≤q:=by omega
 have g2:q≤N:=by omega
 have g6:¬N=p:=by omega
 unfold execOp
 cases hq:P.info? E with
 | none=>simp[hq]at hs
 | some z =>
  simp[hq]at hs
  simp[ho,hx,hy,hy',Instr.sliceAt,Instr.slice,Instr.sliceBounds,Instr.sliceBound,run_underlying ht,asIntOf,asAddr,g1,g2,g6,sizeOf,typeInfo,hq,hs,Addr.add_lit,Instr.sureAddr]
theorem HJ{s x:Operand}{α β:Type}{sz n0 cc i f N cv i2 f2 lo m:Nat}{enc:α→List Value}{kY:β→List Value}{xs:List α}{ca:Option Addr}{ys:List β}{E I:TypeId}{p q p2:α}(hw:Region.wanted o (yielded ops a.tmps)=true)(hd:o.dst=some d)(hn:Nat.blt d n=true)(hr:cy Df n (lk l j) a)
 (ho:o.op= .call {callee:=.builtin .copy,args:=#[s,x],argTypes:=#[t,t]}) (hs:eJ (lk l j) s= .slice (some ⟨bg ca,i*sz+f,none⟩) N N) (hx:eJ (lk l j) x= .slice (some ⟨bg ca,i2*sz+f2+lo,none⟩) m cv)
 (he:pU enc sz) (hi:pU kY 1) (hty:P.underlying t=some (.slice I)) (hsz:(P.info? I).map (·.size)=some 1) (hm:ys.length=m) (hlen:m≤N)
 (hF:Fit w0 (an (rowOf E sz enc (.slice ca n0 cc) xs::L)) w) (X7:xs[i2]? = some p2) (hcs:((enc p2).drop (f2+lo)).take m=ys.flatMap kY) (hp:xs[i]? = some p) (hfit:f+m≤sz) (hq:enc q=(enc p).take f++ys.flatMap kY++(enc p).drop (f+m))
 (k:∀w1 a,Fit w0 (an (rowOf E sz enc (.slice ca n0 cc) (xs.set i q)::L)) w1→cy Df n (lk ((d,.int .i64 ((m:Nat):Int))::l) j) a→wpList P ops Q rest a w1):wpList P ops Q (o::rest) a w:=by
 subst hm
 have Qp:=hF.aQ he (f:=f2+lo) (xs:=ys.flatMap kY) X7 (by rw[show(ys.flatMap kY).length=ys.length by rw[hi.flat ys,Nat.mul_one]];exact hcs)
 rw[←Nat.add_assoc]at Qp
 have BE:i<xs.length:=(List.getElem?_eq_some_iff.1 hp).1
 have hn':=hF.eY
 obtain⟨hca,zW⟩:=hF.oZ (by omega)
 obtain⟨C1,BL⟩:=zW.u7
 obtain⟨cur,SQ,LZ,hP⟩:=zW.ot
 have hle:i*sz+sz≤xs.length*sz:=by
  have:(i+1)*sz≤xs.length*sz:=Nat.mul_le_mul_right _ BE
  rw[Nat.add_mul]at this
  omega
 have Q1:xs.length*sz≤cc*sz:=Nat.mul_le_mul_right _ C1
 have hfl:(ys.flatMap kY).length=ys.length:=by rw[hi.flat ys,Nat.mul_one]
 have hmin:Nat.min ys.length N=ys.length:=Nat.min_eq_left hlen
 have hcells:(Builtin.firstCells 1 ys.length (.slice (some ⟨bg ca,i2*sz+f2+lo,none⟩) ys.length cv)).run P w= .ok (ys.flatMap kY).toArray w:=
  run_firstCells_some (P:=P) w 1 ys.length _ _ _ (ys.flatMap kY) (by rw[hfl,Nat.mul_one]) (s9 Qp)
 have hst:=run_storeCells_at P (bg ca) (i*sz+f) E (ys.flatMap kY) 0 cur w hP.block (by rw[hfl];omega) (hi.wu ys)
 simp only[Nat.add_zero]at hst
 refine oM (w1:=w.setRow (bg ca) (cur.toList.take (i*sz+f)++ys.flatMap kY++cur.toList.drop (i*sz+f+(ys.flatMap kY).length)).toArray) (v:=.int .i64 ((ys.length:Nat):Int)) hw hd hn hr ?_ (λa hr=>k _ a (Fit.uI ?_ hca (by rw[List.length_set];exact hn')) hr)
 ·unfold execOp
  cases ym:P.info? I with
  | none=>simp[ym]at hsz
  | some q =>
   simp[ym]at hsz
   simp only[ho,resolve,invoke,builtin,Sem.run_bind,Sem.run_pure,Result.andThen_ok,List.map_toArray,List.map_cons,List.map_nil,hs,hx]
   simp[Builtin.copy_,run_underlying hty,Builtin.lenOf,sizeOf,typeInfo,ym,hsz,hmin,hcells,hst,goInt]
 ·refine(hP.turn (w':=w.setRow (bg ca) (cur.toList.take (i*sz+f)++ys.flatMap kY++cur.toList.drop (i*sz+f+(ys.flatMap kY).length)).toArray) (setRow_heap w (bg ca) cur _ E (0,0) hP.block) (λk hk _=>setRow_other w (bg ca) k _ hk) rfl rfl rfl (by simp)).head λz hz=>⟨by simpa using C1,BL,_,?_,?_,hz⟩
  ·simp only[List.size_toArray,List.length_append,List.length_take,List.length_drop,Array.length_toList]
   omega
  ·have Ql:((xs.flatMap enc).drop (i*sz)).take sz=enc p:=by
    apply List.ext_getElem?
    intro k
    rw[List.getElem?_take]
    by_cases hk:k<sz
    ·rw[fQ hk,List.getElem?_drop]
     exact he.get xs i k p hp hk
    ·rw[fh hk,List.getElem?_eq_none (by rw[he.len];omega)]
   rw[←hfl]at hq hfit
   generalize ys.flatMap kY=vs at hq hfit hst⊢
   rw[List.length_set,he.set xs i q BE,hq,←Ql,yp _ _ _ _ _ hfit (by rw[he.flat];exact hle),←LZ]
   have hA:(cur.toList.take (i*sz+f)).length=i*sz+f:=by rw[List.length_take,Array.length_toList];omega
   have e1:(cur.toList.take (i*sz+f)++vs++cur.toList.drop (i*sz+f+vs.length)).take (xs.length*sz)=cur.toList.take (i*sz+f)++vs++(cur.toList.drop (i*sz+f+vs.length)).take (xs.length*sz-(i*sz+f+vs.length)):=by
    rw[List.take_append,List.take_of_length_le (by rw[List.length_append,hA];omega),List.length_append,hA]
   rw[List.toList_toArray,e1,List.take_take,Nat.min_eq_left (by omega),List.drop_take]
end
end GX
end
section
namespace Mo
open Go Go.RowKit SL GX
set_option maxRecDepth 100000
set_option maxHeartbeats 4000000
noncomputable section
variable {z w:World}{L:List bE}
structure bW where
 aa6:Int
 A:Int
 B:Int
 C:Int
 K:Int
deriving Inhabited,DecidableEq
def cA(x:bW):List Value:=[vI x.aa6,vI x.A,vI x.B,vI x.C,vI x.K]
abbrev fY(x:bW):List Value:=[vI x.aa6,vI x.A,vI x.B,vI x.C,vI x.K]
abbrev mg(x:bW):Array Value:=#[vI x.aa6,vI x.A,vI x.B,vI x.C,vI x.K]
abbrev gP(x:bW):Value:=.agg #[vI x.aa6,vI x.A,vI x.B,vI x.C,vI x.K]
theorem iW:pU cA 5:=⟨λ_=>rfl,λx u h=>by simp only[cA,List.mem_cons,List.not_mem_nil,or_false]at h;rcases h with rfl | rfl | rfl | rfl | rfl<;>rfl,by decide⟩
structure aG where
 aU:Int
 cO:Int
 bJ:Int
 Code:List bW
deriving Inhabited,DecidableEq
structure fo where
 mG:List aG
 Dh:List Int
 cX:Int
 gw:Int
 gB:Int
 jf:Int
 jQ:List Int
 nD:List Int
deriving Inhabited,DecidableEq
def ON(a:Option Addr)(c:Nat)(x:aG):List Value:=[vI x.aU,vI x.cO,vI x.bJ,.slice a x.Code.length c]
abbrev B5(L:List bE)(va:Option Addr)(hs:Nat→Option Addr×Nat)(l:List aG):Prop:=xw L 4 5 ON cA aG.Code va hs l
structure cY where
 bO:Int
 dk:Int
 iU:Int
deriving Inhabited,DecidableEq
abbrev AZ(x:cY):List Value:=[vI x.bO,vI x.dk,vI x.iU]
abbrev kg(x:cY):Array Value:=#[vI x.bO,vI x.dk,vI x.iU]
abbrev jA(x:cY):Value:=.agg #[vI x.bO,vI x.dk,vI x.iU]
abbrev HK(B:Nat)(S:cY):bE:=pts B (.cells #[vI S.bO,vI S.dk,vI S.iU] 27)
structure be where
 qO:Int
 aa6:Int
 Addr:Int
 A:Int
 B:Int
 OK:Bool
deriving Inhabited,DecidableEq
def nK(x:be):List Value:=[vI x.qO,vI x.aa6,vI x.Addr,vI x.A,vI x.B,vB x.OK]
theorem xy:pU nK 6:=⟨λ_=>rfl,λx u h=>by simp only[nK,List.mem_cons,List.not_mem_nil,or_false]at h;rcases h with rfl | rfl | rfl | rfl | rfl | rfl<;>rfl,by decide⟩
structure ah where
 jI:Int
 dZ:Int
 cell:List Int
 log:List be
 oT:Int
 watched:Bool
deriving Inhabited,DecidableEq
abbrev dx(B:Nat)(S:ah)(a2:Option Addr)(c2:Nat)(a3:Option Addr)(c3:Nat):bE:=pts B (.cells #[vI S.jI,vI S.dZ,.slice a2 S.cell.length c2,.slice a3 S.log.length c3,vI S.oT,vB S.watched] 92)
abbrev iC(a:Option Addr)(c:Nat)(l:List Int):bE:=rowOf 2 1 dK (.slice a l.length c) l
abbrev bY(a:Option Addr)(c:Nat)(l:List be):bE:=rowOf 159 6 nK (.slice a l.length c) l
structure aO where
 aq:List aG
deriving Inhabited,DecidableEq
abbrev n5(B:Nat)(S:aG)(a3:Option Addr)(c3:Nat):bE:=pts B (.cells #[vI S.aU,vI S.cO,vI S.bJ,.slice a3 S.Code.length c3] 99)
structure dG where
 Kp:Int
 Func:Int
 At:Int
deriving Inhabited,DecidableEq
abbrev wF(x:dG):Value:=.agg #[vI x.Kp,vI x.Func,vI x.At]
abbrev tv(B:Nat)(S:bW):bE:=pts B (.cells #[vI S.aa6,vI S.A,vI S.B,vI S.C,vI S.K] 146)
abbrev Br(a:Option Addr)(c:Nat)(l:List Int):bE:=rowOf 3 1 dK (.slice a l.length c) l
def iL(x:List Int)(cs:List Value):bE:=exs λpM:Option Addr=>exs λpO:Nat=>an [LP (cs=[.slice pM x.length pO]),Br pM pO x]
theorem kZ{x:List Int}{cs:List Value}(h:Fit z (an (iL x cs::L)) w) :∃pM:Option Addr,∃pO:Nat,cs=[.slice pM x.length pO]∧Fit z (an (Br pM pO x::L)) w:=by
 unfold iL at h;obtain⟨pM,h⟩:=h.kU;obtain⟨pO,h⟩:=h.kU;have h:=h.pT;obtain⟨e,h⟩:=h.wo;exact⟨pM,pO,e,h⟩
theorem gJ{x:List Int}{pM:Option Addr}{pO:Nat}(h:Fit z (an (Br pM pO x::L)) w):Fit z (an (iL x [.slice pM x.length pO]::L)) w:=by
 unfold iL;refine Fit.iK pM<|Fit.iK pO<|Fit.oL (LP (([.slice pM x.length pO]:List Value)=[.slice pM x.length pO])::Br pM pO x::[]) L<|?_;exact h.uF rfl
abbrev En(a:Option Addr)(c:Nat)(l:List (List Int)):bE:=qP 28 1 iL (.slice a l.length c) l
abbrev Yc(B:Nat)(S:dG):bE:=pts B (.cells #[vI S.Kp,vI S.Func,vI S.At] 95)
structure rf where
 a:Int
 b:Int
 c:Int
 k:Int
 next:Bool
deriving Inhabited,DecidableEq
def gh(x:rf):List Value:=[vI x.a,vI x.b,vI x.c,vI x.k,vB x.next]
abbrev Eo(x:rf):List Value:=[vI x.a,vI x.b,vI x.c,vI x.k,vB x.next]
abbrev Ep(x:rf):Value:=.agg #[vI x.a,vI x.b,vI x.c,vI x.k,vB x.next]
def tY:List rf:=[⟨1,0,0,0,true⟩,⟨1,1,0,0,true⟩,⟨1,1,1,5,true⟩,⟨3,0,0,0,false⟩,⟨1,3,0,0,true⟩,⟨2,4,0,0,true⟩,⟨0,0,0,0,true⟩,⟨1,2,0,0,true⟩,⟨1,0,0,0,true⟩,⟨1,0,0,0,false⟩]
abbrev MC(B:Nat)(S:rf):bE:=pts B (.cells #[vI S.a,vI S.b,vI S.c,vI S.k,vB S.next] 249)
structure kQ where
 z7:Int
 yt:Int
 B6:Int
deriving Inhabited,DecidableEq
abbrev vH(x:kQ):Value:=.agg #[vI x.z7,vI x.yt,vI x.B6]
structure aL where
 ag:Int
 state:Int
deriving Inhabited,DecidableEq
def dg(x:aL):List Value:=[vI x.ag,vI x.state]
abbrev Ba(x:aL):List Value:=[vI x.ag,vI x.state]
abbrev Bb(x:aL):Array Value:=#[vI x.ag,vI x.state]
abbrev sw(x:aL):Value:=.agg #[vI x.ag,vI x.state]
theorem lG:pU dg 2:=⟨λ_=>rfl,λx u h=>by simp only[dg,List.mem_cons,List.not_mem_nil,or_false]at h;rcases h with rfl | rfl<;>rfl,by decide⟩
theorem Bc(x y:aL):qd (dg x) (dg y)=decide (x=y):=by
 rw[Bool.eq_iff_iff];cases x;cases y;simp[dg,qd]
theorem Er:FZ Tryz.prog 255 dg:=⟨by kernel_rfl,by kernel_rfl,λx y=>by kernel_rfl,Bc⟩
abbrev Jo(B:Nat)(S:aL):bE:=pts B (.cells #[vI S.ag,vI S.state] 255)
structure ay where
 fn:Int
 ag:Int
 parent:Int
 slot:Int
 ck:Int
 nr:Int
 cg:List Int
deriving Inhabited,DecidableEq
def bl(x:ay):List Value:=[vI x.fn,vI x.ag,vI x.parent,vI x.slot,vI x.ck,vI x.nr]++jr 16 dK x.cg
abbrev lV(x:ay):List Value:=[vI x.fn,vI x.ag,vI x.parent,vI x.slot,vI x.ck,vI x.nr]++jr 16 dK x.cg
theorem aS:pU (bl) 22:=uL.enc (N:=6+16*1) (λx=>(show uL (bl x) (6+16*1)from((uL.lit 6 (by rfl)).app (Bq 16 bq _)))) (by decide) (by rfl)
abbrev eA(a:Option Addr)(c:Nat)(l:List ay):bE:=rowOf 114 22 bl (.slice a l.length c) l
abbrev Jp(a:Option Addr)(c:Nat)(l:List bW):bE:=rowOf 146 5 cA (.slice a l.length c) l
def mh(x:aG)(cs:List Value):bE:=exs λpM:Option Addr=>exs λpO:Nat=>an [LP (cs=[vI x.aU,vI x.cO,vI x.bJ,.slice pM x.Code.length pO]),Jp pM pO x.Code]
theorem tZ{x:aG}{cs:List Value}(h:Fit z (an (mh x cs::L)) w) :∃pM:Option Addr,∃pO:Nat,cs=[vI x.aU,vI x.cO,vI x.bJ,.slice pM x.Code.length pO]∧Fit z (an (Jp pM pO x.Code::L)) w:=by
 unfold mh at h;obtain⟨pM,h⟩:=h.kU;obtain⟨pO,h⟩:=h.kU;have h:=h.pT;obtain⟨e,h⟩:=h.wo;exact⟨pM,pO,e,h⟩
theorem eR{x:aG}{pM:Option Addr}{pO:Nat}(h:Fit z (an (Jp pM pO x.Code::L)) w):Fit z (an (mh x [vI x.aU,vI x.cO,vI x.bJ,.slice pM x.Code.length pO]::L)) w:=by
 unfold mh;refine Fit.iK pM<|Fit.iK pO<|Fit.oL (LP (([vI x.aU,vI x.cO,vI x.bJ,.slice pM x.Code.length pO]:List Value)=[vI x.aU,vI x.cO,vI x.bJ,.slice pM x.Code.length pO])::Jp pM pO x.Code::[]) L<|?_;exact h.uF rfl
abbrev gD(a:Option Addr)(c:Nat)(l:List aG):bE:=qP 99 4 mh (.slice a l.length c) l
structure aI where
 jg:Int
 iU:Int
deriving Inhabited,DecidableEq
def bp(x:aI):List Value:=[vI x.jg,vI x.iU]
abbrev jJ(x:aI):List Value:=[vI x.jg,vI x.iU]
abbrev lW(x:aI):Array Value:=#[vI x.jg,vI x.iU]
abbrev fV(x:aI):Value:=.agg #[vI x.jg,vI x.iU]
theorem fa:pU bp 2:=⟨λ_=>rfl,λx u h=>by simp only[bp,List.mem_cons,List.not_mem_nil,or_false]at h;rcases h with rfl | rfl<;>rfl,by decide⟩
structure aC where
 kind:Int
 ag:Int
 lz:Int
 lK:Int
 v:Int
 t:Int
 b:Int
 a:Int
 c:Int
 a2:Int
 c2:Int
 i:Int
 x:Int
 wG:Bool
 code:Int
 value:Int
deriving Inhabited,DecidableEq
def bw(x:aC):List Value:=[vI x.kind,vI x.ag,vI x.lz,vI x.lK,vI x.v,vI x.t,vI x.b,vI x.a,vI x.c,vI x.a2,vI x.c2,vI x.i,vI x.x,vB x.wG,vI x.code,vI x.value]
abbrev iq(x:aC):List Value:=[vI x.kind,vI x.ag,vI x.lz,vI x.lK,vI x.v,vI x.t,vI x.b,vI x.a,vI x.c,vI x.a2,vI x.c2,vI x.i,vI x.x,vB x.wG,vI x.code,vI x.value]
abbrev kR(x:aC):Array Value:=#[vI x.kind,vI x.ag,vI x.lz,vI x.lK,vI x.v,vI x.t,vI x.b,vI x.a,vI x.c,vI x.a2,vI x.c2,vI x.i,vI x.x,vB x.wG,vI x.code,vI x.value]
abbrev dX(x:aC):Value:=.agg #[vI x.kind,vI x.ag,vI x.lz,vI x.lK,vI x.v,vI x.t,vI x.b,vI x.a,vI x.c,vI x.a2,vI x.c2,vI x.i,vI x.x,vB x.wG,vI x.code,vI x.value]
theorem ua:pU bw 16:=⟨λ_=>rfl,λx u h=>by simp only[bw,List.mem_cons,List.not_mem_nil,or_false]at h;rcases h with rfl | rfl | rfl | rfl | rfl | rfl | rfl | rfl | rfl | rfl | rfl | rfl | rfl | rfl | rfl | rfl<;>rfl,by decide⟩
theorem ya(x y:aC):qd (bw x) (bw y)=decide (x=y):=by
 rw[Bool.eq_iff_iff];cases x;cases y;simp[bw,qd,and_assoc]
structure aT where
 dH:Int
 dr:Int
 fA:Int
 aB:Int
 eB:Int
 jU:Int
 kind:Int
 slot:Int
 Ge:Int
deriving Inhabited,DecidableEq
def kq(x:aT):List Value:=[vI x.dH,vI x.dr,vI x.fA,vI x.aB,vI x.eB,vI x.jU,vI x.kind,vI x.slot,vI x.Ge]
abbrev iX(x:aT):List Value:=[vI x.dH,vI x.dr,vI x.fA,vI x.aB,vI x.eB,vI x.jU,vI x.kind,vI x.slot,vI x.Ge]
abbrev wH(x:aT):Array Value:=#[vI x.dH,vI x.dr,vI x.fA,vI x.aB,vI x.eB,vI x.jU,vI x.kind,vI x.slot,vI x.Ge]
abbrev iY(x:aT):Value:=.agg #[vI x.dH,vI x.dr,vI x.fA,vI x.aB,vI x.eB,vI x.jU,vI x.kind,vI x.slot,vI x.Ge]
theorem yu:pU kq 9:=⟨λ_=>rfl,λx u h=>by simp only[kq,List.mem_cons,List.not_mem_nil,or_false]at h;rcases h with rfl | rfl | rfl | rfl | rfl | rfl | rfl | rfl | rfl<;>rfl,by decide⟩
theorem B7(x y:aT):qd (kq x) (kq y)=decide (x=y):=by
 rw[Bool.eq_iff_iff];cases x;cases y;simp[kq,qd,and_assoc]
structure bu where
 bH:Int
 bR:Int
 fB:Int
 cP:Int
 aA:Int
 cK:Int
 iH:Int
 dy:Int
 eC:Int
 aP:List aI
 look:aC
deriving Inhabited,DecidableEq
def pe(x:bu):List Value:=[vI x.bH,vI x.bR,vI x.fB,vI x.cP,vI x.aA,vI x.cK,vI x.iH,vI x.dy,vI x.eC]++jr 64 bp x.aP++bw x.look
abbrev j0(x:bu):List Value:=[vI x.bH,vI x.bR,vI x.fB,vI x.cP,vI x.aA,vI x.cK,vI x.iH,vI x.dy,vI x.eC]++jr 64 bp x.aP++bw x.look
abbrev lM(x:bu):Array Value:=([vI x.bH,vI x.bR,vI x.fB,vI x.cP,vI x.aA,vI x.cK,vI x.iH,vI x.dy,vI x.eC]++jr 64 bp x.aP++bw x.look).toArray
abbrev gL(x:bu):Value:=.agg ([vI x.bH,vI x.bR,vI x.fB,vI x.cP,vI x.aA,vI x.cK,vI x.iH,vI x.dy,vI x.eC]++jr 64 bp x.aP++bw x.look).toArray
theorem z8:pU (pe) 153:=uL.enc (N:=9+64*2+16) (λx=>(show uL (pe x) (9+64*2+16)from(((uL.lit 9 (by rfl)).app (Bq 64 fa _)).app (ua.p _)))) (by decide) (by rfl)
structure bB where
 bj:Int
 aH:Int
 aj:Int
 from_:Int
 bM:Int
 done:Int
 tries:Int
 dB:Int
 aX:aC
 cB:aT
 bS:bu
 parked:Bool
deriving Inhabited,DecidableEq
def aV(B:Nat)(x:bB):List Value:=[pA B 0,vI x.bj,vI x.aH,vI x.aj,vI x.from_,vI x.bM,vI x.done,vI x.tries,vI x.dB]++bw x.aX++kq x.cB++pe x.bS++[vB x.parked]
theorem af(B:Nat):pU (aV B) 188:=uL.enc (N:=9+16+9+153+1) (λx=>(show uL (aV B x) (9+16+9+153+1)from(((((uL.lit 9 (by rfl)).app (ua.p _)).app (yu.p _)).app (z8.p _)).app (uL.lit 1 (by rfl))))) (by decide) (by rfl)
structure ai where
 code:List aG
 result:Int
 aR:Int
 aJ:Int
 bC:Int
 aK:Int
 aP:List aI
 ak:List ay
 ae:List bB
 value:Int
 left:Bool
deriving Inhabited,DecidableEq
structure aN where
 jg:Int
 bO:Int
deriving Inhabited,DecidableEq
abbrev uc(x:aN):List Value:=[vI x.jg,vI x.bO]
abbrev fX(x:aN):Array Value:=#[vI x.jg,vI x.bO]
abbrev eT(x:aN):Value:=.agg #[vI x.jg,vI x.bO]
structure dm where
 jg:Int
 cX:Int
deriving Inhabited,DecidableEq
abbrev Di(x:dm):List Value:=[vI x.jg,vI x.cX]
abbrev pn(x:dm):Array Value:=#[vI x.jg,vI x.cX]
abbrev nu(x:dm):Value:=.agg #[vI x.jg,vI x.cX]
abbrev ew(a:Option Addr)(c:Nat)(l:List aI):bE:=rowOf 118 2 bp (.slice a l.length c) l
abbrev ey(B:Nat)(a:Option Addr)(c:Nat)(l:List bB):bE:=rowOf 131 188 (aV B) (.slice a l.length c) l
abbrev Gf(B:Nat)(S:aI):bE:=pts B (.cells #[vI S.jg,vI S.iU] 118)
abbrev gW(B:Nat)(S:aT):bE:=pts B (.cells #[vI S.dH,vI S.dr,vI S.fA,vI S.aB,vI S.eB,vI S.jU,vI S.kind,vI S.slot,vI S.Ge] 124)
abbrev fb(B:Nat)(S:ai)(k0:Value)(a1:Option Addr)(c1:Nat)(a7:Option Addr)(c7:Nat)(a8:Option Addr)(c8:Nat)(a9:Option Addr)(c9:Nat):bE:=pts B (.cells #[k0,.slice a1 S.code.length c1,vI S.result,vI S.aR,vI S.aJ,vI S.bC,vI S.aK,.slice a7 S.aP.length c7,.slice a8 S.ak.length c8,.slice a9 S.ae.length c9,vI S.value,vB S.left] 110)
abbrev Kq(B:Nat)(S:fo)(a0:Option Addr)(c0:Nat)(a1:Option Addr)(c1:Nat)(a6:Option Addr)(c6:Nat)(a7:Option Addr)(c7:Nat):bE:=pts B (.cells #[.slice a0 S.mG.length c0,.slice a1 S.Dh.length c1,vI S.cX,vI S.gw,vI S.gB,vI S.jf,.slice a6 S.jQ.length c6,.slice a7 S.nD.length c7] 32)
def LJ:List Bool:=[false,false,false,false,false,false,false,false,false,false,false,false,false,true,true]
structure aD where
 At:Int
 qO:Int
 aa6:Int
 Frame:Int
 X:Int
 V:Int
deriving Inhabited,DecidableEq
abbrev dc(x:aD):List Value:=[vI x.At,vI x.qO,vI x.aa6,vI x.Frame,vI x.X,vI x.V]
abbrev dY(x:aD):Value:=.agg #[vI x.At,vI x.qO,vI x.aa6,vI x.Frame,vI x.X,vI x.V]
abbrev fe(B:Nat)(S:aD):bE:=pts B (.cells #[vI S.At,vI S.qO,vI S.aa6,vI S.Frame,vI S.X,vI S.V] 47)
abbrev cZ(B:Nat)(S:aC):bE:=pts B (.cells #[vI S.kind,vI S.ag,vI S.lz,vI S.lK,vI S.v,vI S.t,vI S.b,vI S.a,vI S.c,vI S.a2,vI S.c2,vI S.i,vI S.x,vB S.wG,vI S.code,vI S.value] 120)
abbrev gz(B:Nat)(S:bu):bE:=pts B (.cells ([vI S.bH,vI S.bR,vI S.fB,vI S.cP,vI S.aA,vI S.cK,vI S.iH,vI S.dy,vI S.eC]++jr 64 bp S.aP++bw S.look).toArray 129)
abbrev UH(B:Nat)(S:dm):bE:=pts B (.cells #[vI S.jg,vI S.cX] 106)
end
end Mo
end
section
namespace Mo
open Go Go.RowKit SL GX
set_option maxRecDepth 100000
set_option maxHeartbeats 4000000
noncomputable section
variable {z w:World}{L:List bE}
def hU(p0:cY):Option (Bool):=
 (if p0.bO<1 then some true else(if p0.bO>4096 then some true else(if p0.dk<1 then some true else(if p0.dk>p0.iU then some true else some (decide (p0.iU>4096))))))
theorem oV{p0:cY}{r0:Bool}(H:hU p0=some r0)(h:Fit z (an (L)) w) :
 Calls Tryz.prog 47 #[jA p0] w λe w=>e=.returned (vB r0)∧Fit z (an (L)) w:=by
 unfold hU at H;refine ke Tryz.func47 28 rfl λj=>ks<|kN h (kg p0) 27 λb1 w h=>ko [U]<|kn<|ks<|ko [U]<|kL h 0<|ko [vB (decide (p0.bO<1)),vB (decide (p0.bO<1))]<|qI H (λc2 H=>?_) λc2 H=>?_
 ·refine bZ (dT c2) [7,8,9]<|mH (dT c2) (vB true)<|ko [U]<|bZ (rfl:true=true) [12,13,14]<|ko [U,U]<|bZ (rfl:true=true) [17,18,19,20,21]<|ko [U,U]<|bZ (rfl:true=true) [24,25,26]<|ko [U,U]<|kn<|wr<|?_;cases H;exact gu (h.se 1 [])
 refine cS (dF c2) [7] [pA b1 0]<|q9 (dF c2) h 0<|cS (dF c2) [9] [vB (decide (p0.bO>4096))]<|mF (dF c2) (vB (decide (p0.bO>4096)))<|ko [vB (decide (p0.bO>4096))]<|qI H (λc3 H=>?_) λc3 H=>?_
 ·refine bZ (dT c3) [12,13,14]<|mH (dT c3) (vB true)<|ko [U]<|bZ (rfl:true=true) [17,18,19,20,21]<|ko [U,U]<|bZ (rfl:true=true) [24,25,26]<|ko [U,U]<|kn<|wr<|?_;cases H;exact gu (h.se 1 [])
 refine cS (dF c3) [12] [pA b1 1]<|q9 (dF c3) h 1<|cS (dF c3) [14] [vB (decide (p0.dk<1))]<|mF (dF c3) (vB (decide (p0.dk<1)))<|ko [vB (decide (p0.dk<1))]<|qI H (λc4 H=>?_) λc4 H=>?_
 ·refine bZ (dT c4) [17,18,19,20,21]<|mH (dT c4) (vB true)<|ko [U]<|bZ (rfl:true=true) [24,25,26]<|ko [U,U]<|kn<|wr<|?_;cases H;exact gu (h.se 1 [])
 refine cS (dF c4) [17] [pA b1 1]<|q9 (dF c4) h 1<|cS (dF c4) [19] [pA b1 2]<|q9 (dF c4) h 2<|cS (dF c4) [21] [vB (decide (p0.dk>p0.iU))]<|mF (dF c4) (vB (decide (p0.dk>p0.iU)))<|ko [vB (decide (p0.dk>p0.iU))]<|qI H (λc5 H=>?_) λc5 H=>?_
 ·refine bZ (dT c5) [24,25,26]<|mH (dT c5) (vB true)<|ko [U]<|kn<|wr<|?_;cases H;exact gu (h.se 1 [])
 refine cS (dF c5) [24] [pA b1 2]<|q9 (dF c5) h 2<|cS (dF c5) [26] [vB (decide (p0.iU>4096))]<|mF (dF c5) (vB (decide (p0.iU>4096)))<|ko [vB (decide (p0.iU>4096))]<|kn<|wr<|?_;cases H;exact gu (h.se 1 [])
def fZ(K:Nat)(p1:Int):Nat→Int→Int→Option (Int)
 | 0,_,_=>none
 | k1+1,g1,g2=>(if g2<p1 then(fZ K p1 k1 (wi ((wi (g1+1))+(if p1<(wi ((2:Int)*g2))then p1 else(wi ((2:Int)*g2))))) (if p1<(wi ((2:Int)*g2))then p1 else(wi ((2:Int)*g2))))else some g1)
def lj(K:Nat)(p0:Int)(p1:Int):Option (Int):=
 (fZ K p1 K (wi ((4:Int)+p0)) p0)
theorem tw{K:Nat}{p0 p1 r0:Int}(H:lj K p0 p1=some r0)(h:Fit z (an (L)) w) :
 Calls Tryz.prog 48 #[vI p0,vI p1] w λe w=>e=.returned (vI r0)∧Fit z (an (L)) w:=by
 unfold lj at H;refine ke Tryz.func48 22 rfl λj=>ks<|ko [U]<|kn<|ks<|ko [U,vI (wi ((4:Int)+p0)),vI (wi ((4:Int)+p0))]<|kn<|wq<|ks<|ko [U,U]<|kn<|wb<|λ_ r=>dP (β:=Nat) id (λm a w=>∃g1:Int,∃g2:Int,(fZ K p1 m g1 g2)=some r0∧∃j,kP 22 (lk [(1,vI p1),(5,vI g1),(6,vI g2)] j) a∧Fit z (an (L)) w) K ⟨(wi ((4:Int)+p0)),p0,H,r.fj h⟩<|?_;clear h r H;rintro k1 a w ⟨g1,g2,H,j,r,h⟩;cases k1 with
 | zero=>exact absurd H (by simp[fZ])
 | succ k1 =>
  rw[fZ]at H;refine qq r<|wq<|ks<|ko [U,U,vB (decide (g2<p1))]<|kn<|dR H (λc3 H=>?_) λc3 H=>?_
  ·refine wk<|tn<|wb<|ks<|ko [U,vI (wi ((2:Int)*g2)),U,vI (if p1<(wi ((2:Int)*g2))then p1 else(wi ((2:Int)*g2))),vI (if p1<(wi ((2:Int)*g2))then p1 else(wi ((2:Int)*g2)))]<|kn<|wl<|ko [U,vI (wi (g1+1)),vI (if p1<(wi ((2:Int)*g2))then p1 else(wi ((2:Int)*g2))),vI (wi ((wi (g1+1))+(if p1<(wi ((2:Int)*g2))then p1 else(wi ((2:Int)*g2))))),vI (wi ((wi (g1+1))+(if p1<(wi ((2:Int)*g2))then p1 else(wi ((2:Int)*g2)))))]<|kl<|bn<|tn<|?_;exact λ_ r=>⟨_,⟨(wi ((wi (g1+1))+(if p1<(wi ((2:Int)*g2))then p1 else(wi ((2:Int)*g2))))),(if p1<(wi ((2:Int)*g2))then p1 else(wi ((2:Int)*g2))),H,r.fj h⟩,Nat.lt_succ_self _⟩
  refine wx<|te<|te<|bh<|tn<|ks<|ko [U,U]<|kn<|wr<|?_;cases H;exact gu h
def j1(K:Nat)(p0:Int)(p1:cY):Option (Int):=
 vg ((if p0<1 then some (.inr 0)else(if p0>64 then some (.inr 0)else eL (hU p1) (λr6=>(if r6=true then some (.inr 0)else some (.inl ())))))) (eL (lj K p1.dk p1.iU) (λr9=>some (wi ((wi ((wi ((wi ((2:Int)+(wi (p1.bO*10))))+2))+p0))+(wi (p0*r9))))))
theorem wI{K:Nat}{p0 r0:Int}{p1:cY}(H:j1 K p0 p1=some r0)(h:Fit z (an (L)) w) :
 Calls Tryz.prog 15 #[vI p0,jA p1] w λe w=>e=.returned (vI r0)∧Fit z (an (L)) w:=by
 unfold j1 at H;refine ke Tryz.func15 30 rfl λj=>ks<|kN h (kg p1) 27 λb1 w h=>ko [U]<|kn<|?_;obtain⟨o3,H,z9⟩:=AW H;refine λ_ r=>dw (β:=Unit) (λ_ a w=>.inl ()=o3∧∃j,kP 30 (lk [(0,vI p0),(3,pA b1 0)] j) a∧Fit z (an (HK b1 p1::L)) w) ?_ ?_
 ·refine qq r<|ks<|ko [U,vB (decide (p0<1)),vB (decide (p0<1))]<|qI H (λc4 H=>?_) λc4 H=>?_
  ·refine bZ (dT c4) [8,9]<|mH (dT c4) (vB true)<|ko [U]<|bZ (rfl:true=true) [12,13]<|ko [U]<|kn<|λ_ r=>gb r (b:=true) rfl<|qq r<|ks<|ko [U]<|kn<|wr<|tr<|λ_ r=>ez (v:=vI 0) rfl r (by kernel_rfl)<|?_;replace H:=sQ H z9;cases H;exact⟨rfl,h.se 1 []⟩
  refine cS (dF c4) [8,9] [vI p0,vB (decide (p0>64))]<|mF (dF c4) (vB (decide (p0>64)))<|ko [vB (decide (p0>64))]<|qI H (λc5 H=>?_) λc5 H=>?_
  ·refine bZ (dT c5) [12,13]<|mH (dT c5) (vB true)<|kn<|λ_ r=>gb r (b:=true) rfl<|qq r<|ks<|ko [U]<|kn<|wr<|tr<|λ_ r=>ez (v:=vI 0) rfl r (by kernel_rfl)<|?_;replace H:=sQ H z9;cases H;exact⟨rfl,h.se 1 []⟩
  refine λ_ r=>tK (pX r (dF c5)) r (jA p1) (cs:=AZ p1) (h.held 0 rfl)<|?_;refine fO H λr6 e7 H=>Tf (dF c5) (oV (H:=e7) (h:=h) :) λw h=>mF (dF c5) (vB r6)<|kn<|De H (λc8 H=>?_) λc8 H=>?_
  ·refine ks<|ko [U]<|kn<|wr<|tr<|λ_ r=>ez (v:=vI 0) rfl r (by kernel_rfl)<|?_;replace H:=sQ H z9;cases H;exact⟨rfl,h.se 1 []⟩
  refine wk<|tn<|?_;exact λ_ r=>⟨(),gH H,r.fj h⟩
 clear h r;rintro _ a w ⟨rfl,j,r,h⟩;replace H:=AX z9;refine qq r<|wq<|fO H λr9 B8 H=>λ_ r=>fy [(b1,0,[vI p1.bO]),(b1,1,[vI p1.dk]),(b1,2,[vI p1.iU])] [0,2,3,4,6,8,10,12,13] 16 h (λh=>⟨⟨h.cell 0 rfl,gE⟩,⟨h.cell 1 rfl,gE⟩,⟨h.cell 2 rfl,gE⟩,gE⟩) λw h hd =>qq r<|gg hd 11 [(0,15,pA b1 0),(5,20,vI p0),(7,22,vI p0),(8,23,pA b1 1),(10,25,pA b1 2)]<|kx hd 0 10 1 rfl rfl<|gg hd 6 [(2,17,vI (wi (p1.bO*10))),(3,18,vI (wi ((2:Int)+(wi (p1.bO*10))))),(4,19,vI (wi ((wi ((2:Int)+(wi (p1.bO*10))))+2))),(6,21,vI (wi ((wi ((wi ((2:Int)+(wi (p1.bO*10))))+2))+p0)))]<|kx hd 1 5 9 rfl rfl<|kx hd 2 4 11 rfl rfl<|λ_ r=>eZ 12 rfl<|qq r<|eU (tw (H:=B8) (h:=h) :) λw h=>kn<|λ_ r=>eE ⟨⟨h.cell 0 rfl,gE⟩,⟨h.cell 1 rfl,gE⟩,⟨h.cell 2 rfl,gE⟩,gE⟩ λhd =>qq r<|gg hd 0 [(13,28,vI (wi (p0*r9))),(14,29,vI (wi ((wi ((wi ((wi ((2:Int)+(wi (p1.bO*10))))+2))+p0))+(wi (p0*r9))))),(15,4,vI (wi ((wi ((wi ((wi ((2:Int)+(wi (p1.bO*10))))+2))+p0))+(wi (p0*r9)))))]<|λ_ r=>ji<|qq r<|tn<|wr<|?_;cases H;exact gu (h.se 1 [])
def tA(p0:Int):Option (Bool):=
 (if p0≥0 then some (decide (p0≤1048576))else some false)
theorem yb{p0:Int}{r0:Bool}(H:tA p0=some r0)(h:Fit z (an (L)) w) :
 Calls Tryz.prog 46 #[vI p0] w λe w=>e=.returned (vB r0)∧Fit z (an (L)) w:=by
 unfold tA at H;refine ke Tryz.func46 9 rfl λj=>ks<|ko [U]<|kn<|ks<|ko [U,vB (decide (p0≥0)),vB (decide (p0≥0))]<|qI H (λc1 H=>?_) λc1 H=>?_
 ·refine cS (dT c1) [6,7] [vI p0,vB (decide (p0≤1048576))]<|mH (dT c1) (vB (decide (p0≤1048576)))<|ko [vB (decide (p0≤1048576))]<|kn<|wr<|?_;cases H;exact gu h
 refine bZ (dF c1) [6,7]<|mF (dF c1) (vB false)<|ko [U]<|kn<|wr<|?_;cases H;exact gu h
def rh(p0:Int):Option ((Option ah)×Int):=
 eL (tA p0) (λr1=>(if r1=true then some (some (⟨p0,0,([]:List Int),([]:List be),0,false⟩:ah),0)else some (none,3)))
theorem Dj{p0 r1:Int}{r0:ah}(H:rh p0=some ((some r0),r1))(h:Fit z (an (L)) w) :
 Calls Tryz.prog 14 #[vI p0] w λe w=>∃OO y1 y2 y3 y4,e=.returned (.tuple #[pA OO 0,vI r1])∧Fit z (an (dx OO r0 y1 y2 y3 y4::iC y1 y2 r0.cell::bY y3 y4 r0.log::L)) w:=by
 unfold rh at H;refine ke Tryz.func14 11 rfl λj=>ks<|ko [U,U]<|kn<|wq<|ks<|fO H λr1 e2 H=>ko [U]<|eU (yb (H:=e2) (h:=h) :) λw h=>ko [vB (!r1)]<|kn<|C3 H (λc3 H=>?_) λc3 H=>?_
 ·refine wk<|tn<|ks<|ko [U,U,U]<|kN h (#[vI p0,vI 0,.slice none 0 0,.slice none 0 0,vI 0,vB false]) 92 λb4 w h=>ko [U,U]<|kn<|wr<|λ_ r=>lC (v:=pA b4 0) (v':=vI 0) rfl r (by kernel_rfl) (by kernel_rfl)<|?_;replace h:=h.jX (e:=2) (sz:=1) (enc:=dK);replace h:=h.jX (e:=159) (sz:=6) (enc:=nK);cases H;exact⟨b4,none,0,none,0,rfl,h.se 3 [2,1,0]⟩
 refine ks<|ko [U,U]<|kn<|wr<|tr<|λ_ r=>lC (v:=pN) (v':=vI 3) rfl r (by kernel_rfl) (by kernel_rfl)<|?_;cases H
theorem Dk{p0 r1:Int}(H:rh p0=some (none,r1))(h:Fit z (an (L)) w) :
 Calls Tryz.prog 14 #[vI p0] w λe w=>e=.returned (.tuple #[pN,vI r1])∧Fit z (an (L)) w:=by
 unfold rh at H;refine ke Tryz.func14 11 rfl λj=>ks<|ko [U,U]<|kn<|wq<|ks<|fO H λr1 e2 H=>ko [U]<|eU (yb (H:=e2) (h:=h) :) λw h=>ko [vB (!r1)]<|kn<|C3 H (λc3 H=>?_) λc3 H=>?_
 ·refine wk<|tn<|ks<|ko [U,U,U]<|kN h (#[vI p0,vI 0,.slice none 0 0,.slice none 0 0,vI 0,vB false]) 92 λb4 w h=>ko [U,U]<|kn<|wr<|λ_ r=>lC (v:=pA b4 0) (v':=vI 0) rfl r (by kernel_rfl) (by kernel_rfl)<|?_;replace h:=h.jX (e:=2) (sz:=1) (enc:=dK);replace h:=h.jX (e:=159) (sz:=6) (enc:=nK);cases H
 refine ks<|ko [U,U]<|kn<|wr<|tr<|?_;cases H;exact HH h
def iZ(p0:aG):Option (Bool):=
 vg ((if p0.aU<0 then some (.inr false)else(if p0.aU>8 then some (.inr false)else(if p0.cO<1 then some (.inr false)else(if p0.cO<p0.aU then some (.inr false)else(if p0.cO>16 then some (.inr false)else some (.inl ()))))))) ((if p0.bJ≥0 then(if p0.bJ≤8 then(if((p0.Code.length:Nat):Int)≥1 then some (decide (((p0.Code.length:Nat):Int)≤512))else some false)else some false)else some false))
theorem qW{p0:aG}{aW:Option Addr}{bz:Nat}{r0:Bool}(H:iZ p0=some r0)(h:Fit z (an (L)) w)(ct:cu L 5 cA aW p0.Code) :
 Calls Tryz.prog 68 #[.agg #[vI p0.aU,vI p0.cO,vI p0.bJ,.slice aW p0.Code.length bz]] w λe w=>e=.returned (vB r0)∧Fit z (an (L)) w:=by
 unfold iZ at H;refine ke Tryz.func68 48 rfl λj=>ks<|kN h (#[vI p0.aU,vI p0.cO,vI p0.bJ,.slice aW p0.Code.length bz]) 99 λb1 w h=>ko [U]<|kn<|?_;obtain⟨o3,H,z9⟩:=AW H;refine λ_ r=>dw (β:=Unit) (λ_ a w=>.inl ()=o3∧∃j,kP 48 (lk [(1,pA b1 0)] j) a∧Fit z (an (n5 b1 p0 aW bz::L)) w) ?_ ?_
 ·refine qq r<|ks<|ko [U]<|kL h 0<|ko [vB (decide (p0.aU<0)),vB (decide (p0.aU<0))]<|qI H (λc4 H=>?_) λc4 H=>?_
  ·refine bZ (dT c4) [7,8,9]<|mH (dT c4) (vB true)<|ko [U]<|bZ (rfl:true=true) [12,13,14]<|ko [U,U]<|bZ (rfl:true=true) [17,18,19,20,21]<|ko [U,U]<|bZ (rfl:true=true) [24,25,26]<|ko [U]<|kn<|λ_ r=>gb r (b:=true) rfl<|qq r<|ks<|ko [U]<|kn<|wr<|tr<|λ_ r=>ez (v:=vB false) rfl r (by kernel_rfl)<|?_;replace H:=sQ H z9;cases H;exact⟨rfl,h.se 1 []⟩
  refine cS (dF c4) [7] [pA b1 0]<|q9 (dF c4) h 0<|cS (dF c4) [9] [vB (decide (p0.aU>8))]<|mF (dF c4) (vB (decide (p0.aU>8)))<|ko [vB (decide (p0.aU>8))]<|qI H (λc5 H=>?_) λc5 H=>?_
  ·refine bZ (dT c5) [12,13,14]<|mH (dT c5) (vB true)<|ko [U]<|bZ (rfl:true=true) [17,18,19,20,21]<|ko [U,U]<|bZ (rfl:true=true) [24,25,26]<|ko [U]<|kn<|λ_ r=>gb r (b:=true) rfl<|qq r<|ks<|ko [U]<|kn<|wr<|tr<|λ_ r=>ez (v:=vB false) rfl r (by kernel_rfl)<|?_;replace H:=sQ H z9;cases H;exact⟨rfl,h.se 1 []⟩
  refine cS (dF c5) [12] [pA b1 1]<|q9 (dF c5) h 1<|cS (dF c5) [14] [vB (decide (p0.cO<1))]<|mF (dF c5) (vB (decide (p0.cO<1)))<|ko [vB (decide (p0.cO<1))]<|qI H (λc6 H=>?_) λc6 H=>?_
  ·refine bZ (dT c6) [17,18,19,20,21]<|mH (dT c6) (vB true)<|ko [U]<|bZ (rfl:true=true) [24,25,26]<|ko [U]<|kn<|λ_ r=>gb r (b:=true) rfl<|qq r<|ks<|ko [U]<|kn<|wr<|tr<|λ_ r=>ez (v:=vB false) rfl r (by kernel_rfl)<|?_;replace H:=sQ H z9;cases H;exact⟨rfl,h.se 1 []⟩
  refine cS (dF c6) [17] [pA b1 1]<|q9 (dF c6) h 1<|cS (dF c6) [19] [pA b1 0]<|q9 (dF c6) h 0<|cS (dF c6) [21] [vB (decide (p0.cO<p0.aU))]<|mF (dF c6) (vB (decide (p0.cO<p0.aU)))<|ko [vB (decide (p0.cO<p0.aU))]<|qI H (λc7 H=>?_) λc7 H=>?_
  ·refine bZ (dT c7) [24,25,26]<|mH (dT c7) (vB true)<|kn<|λ_ r=>gb r (b:=true) rfl<|qq r<|ks<|ko [U]<|kn<|wr<|tr<|λ_ r=>ez (v:=vB false) rfl r (by kernel_rfl)<|?_;replace H:=sQ H z9;cases H;exact⟨rfl,h.se 1 []⟩
  refine cS (dF c7) [24] [pA b1 1]<|q9 (dF c7) h 1<|cS (dF c7) [26] [vB (decide (p0.cO>16))]<|mF (dF c7) (vB (decide (p0.cO>16)))<|kn<|dR H (λc8 H=>?_) λc8 H=>?_
  ·refine ks<|ko [U]<|kn<|wr<|tr<|λ_ r=>ez (v:=vB false) rfl r (by kernel_rfl)<|?_;replace H:=sQ H z9;cases H;exact⟨rfl,h.se 1 []⟩
  refine wk<|tn<|?_;exact λ_ r=>⟨(),gH H,r.fj h⟩
 clear h r;rintro _ a w ⟨rfl,j,r,h⟩;replace H:=AX z9;refine qq r<|ks<|ko [U]<|kL h 2<|ko [vB (decide (p0.bJ≥0)),vB (decide (p0.bJ≥0))]<|qI H (λc9 H=>?_) λc9 H=>?_
 ·refine cS (dT c9) [32] [pA b1 2]<|q9 (dT c9) h 2<|cS (dT c9) [34] [vB (decide (p0.bJ≤8))]<|mH (dT c9) (vB (decide (p0.bJ≤8)))<|ko [vB (decide (p0.bJ≤8))]<|qI H (λnV H=>?_) λnV H=>?_
  ·refine cS (dT nV) [37] [pA b1 3]<|q9 (dT nV) h 3<|cS (dT nV) [39,40] [vI ((p0.Code.length:Nat):Int),vB (decide (((p0.Code.length:Nat):Int)≥1))]<|mH (dT nV) (vB (decide (((p0.Code.length:Nat):Int)≥1)))<|ko [vB (decide (((p0.Code.length:Nat):Int)≥1))]<|qI H (λsH H=>?_) λsH H=>?_
   ·refine cS (dT sH) [43] [pA b1 3]<|q9 (dT sH) h 3<|cS (dT sH) [45,46] [vI ((p0.Code.length:Nat):Int),vB (decide (((p0.Code.length:Nat):Int)≤512))]<|mH (dT sH) (vB (decide (((p0.Code.length:Nat):Int)≤512)))<|ko [vB (decide (((p0.Code.length:Nat):Int)≤512))]<|kn<|wr<|?_;cases H;exact gu (h.se 1 [])
   refine bZ (dF sH) [43,44,45,46]<|mF (dF sH) (vB false)<|ko [U]<|kn<|wr<|?_;cases H;exact gu (h.se 1 [])
  refine bZ (dF nV) [37,38,39,40]<|mF (dF nV) (vB false)<|ko [U]<|bZ (rfl:false=false) [43,44,45,46]<|ko [U,U]<|kn<|wr<|?_;cases H;exact gu (h.se 1 [])
 refine bZ (dF c9) [32,33,34]<|mF (dF c9) (vB false)<|ko [U]<|bZ (rfl:false=false) [37,38,39,40]<|ko [U,U]<|bZ (rfl:false=false) [43,44,45,46]<|ko [U,U]<|kn<|wr<|?_;cases H;exact gu (h.se 1 [])
def fG(p0:Int)(p1:Int):Option (Bool):=
 (if p0≥0 then some (decide (p0<p1))else some false)
theorem gC{p0 p1:Int}{r0:Bool}(H:fG p0 p1=some r0)(h:Fit z (an (L)) w) :
 Calls Tryz.prog 110 #[vI p0,vI p1] w λe w=>e=.returned (vB r0)∧Fit z (an (L)) w:=by
 unfold fG at H;refine ke Tryz.func110 12 rfl λj=>ks<|ko [U]<|kn<|ks<|ko [U,vB (decide (p0≥0)),vB (decide (p0≥0))]<|qI H (λc1 H=>?_) λc1 H=>?_
 ·refine cS (dT c1) [8,9,10] [vI p0,vI p1,vB (decide (p0<p1))]<|mH (dT c1) (vB (decide (p0<p1)))<|ko [vB (decide (p0<p1))]<|kn<|wr<|?_;cases H;exact gu h
 refine bZ (dF c1) [8,9,10]<|mF (dF c1) (vB false)<|ko [U]<|kn<|wr<|?_;cases H;exact gu h
def lp(p0:aG)(p1:bW):Option (Bool):=
 eL (fG p1.A p0.cO) (λr3=>eL (fG p1.B p0.cO) (λr5=>eL ((if p1.aa6=0 then some (p1.aa6==0)else(if p1.aa6=8 then some (p1.aa6==8)else some (p1.aa6==9)))) (λg7=>(if g7=true then some r3 else(if p1.aa6=1 then(if r3=true then some r5 else some false)else(if p1.aa6=2 then(if r3=true then(if r5=true then eL (fG p1.C p0.cO) (λvU=>(if vU=true then(if p1.K≥0 then some (decide (p1.K<16))else some false)else some false))else some false)else some false)else(if p1.aa6=3 then eL (fG p1.A ((p0.Code.length:Nat):Int)) (λn6=>some n6)else(if p1.aa6=4 then(if r3=true then eL (fG p1.B ((p0.Code.length:Nat):Int)) (λLK=>some LK)else some false)else(if p1.aa6=5 then eL (fG p1.A p0.bJ) (λvj=>some vj)else(if p1.aa6=6 then some true else(if p1.aa6=7 then(if r3=true then eL (fG p1.B p0.bJ) (λyJ=>some yJ)else some false)else some false)))))))))))
theorem oF{p0:aG}{p1:bW}{aW:Option Addr}{bz:Nat}{r0:Bool}(H:lp p0 p1=some r0)(h:Fit z (an (L)) w)(ct:cu L 5 cA aW p0.Code) :
 Calls Tryz.prog 69 #[.agg #[vI p0.aU,vI p0.cO,vI p0.bJ,.slice aW p0.Code.length bz],gP p1] w λe w=>e=.returned (vB r0)∧Fit z (an (L)) w:=by
 unfold lp at H;refine ke Tryz.func69 91 rfl λj=>ks<|kN h (#[vI p0.aU,vI p0.cO,vI p0.bJ,.slice aW p0.Code.length bz]) 99 λb1 w h=>kN h (mg p1) 146 λb2 w h=>ko [U]<|kn<|ks<|ko [U]<|kL h 1<|ko [U]<|kL (h.pick 1) 1<|fO H λr3 e4 H=>eU (gC (H:=e4) (h:=h) :) λw h=>ko [U]<|kn<|ks<|ko [U]<|kL h 2<|ko [U]<|kL (h.pick 1) 1<|fO H λr5 e6 H=>eU (gC (H:=e6) (h:=h) :) λw h=>ko [U]<|kn<|wq<|ks<|ko [U]<|kL h 0<|kn<|wb<|El H λo9 H OP=>λ_ r=>dw (β:=Unit) (λ_ a w=>∃g7:Bool,g7=o9∧∃j,kP 91 (lk [(2,pA b1 0),(3,pA b2 0),(5,vB r3),(6,vB r5),(18,vI p1.aa6),(19,vB g7)] j) a∧Fit z (an (n5 b1 p0 aW bz::tv b2 p1::L)) w) ?_ ?_
 ·refine qq r<|ks<|ko [vB (p1.aa6==0),vB (p1.aa6==0)]<|kn<|dR H (λnV H=>?_) λnV H=>?_
  ·refine wk<|tn<|?_;exact λ_ r=>⟨(),(p1.aa6==0),gH H,r.fj (h.se 2 [1,0])⟩
  refine ks<|ko [vB (p1.aa6==8),vB (p1.aa6==8)]<|kn<|dR H (λsH H=>?_) λsH H=>?_
  ·refine wk<|tn<|?_;exact λ_ r=>⟨(),(p1.aa6==8),gH H,r.fj (h.se 2 [1,0])⟩
  refine wl<|ko [vB (p1.aa6==9),vB (p1.aa6==9)]<|kn<|?_;exact λ_ r=>⟨(),(p1.aa6==9),gH H,r.fj (h.se 2 [1,0])⟩
 clear h r;rintro _ a w ⟨g7,rfl,j,r,h⟩;replace H:=Eg OP;refine qq r<|De H (λzQ H=>?_) λzQ H=>?_
 ·refine ks<|ko [U,U]<|kn<|wr<|br<|tr<|?_;cases H;exact gu (h.se 2 [])
 refine ks<|ko [vB (p1.aa6==1),vB (p1.aa6==1)]<|kn<|dR H (λvk H=>?_) λvk H=>?_
 ·refine ks<|ko [U,U]<|qI H (λza H=>?_) λza H=>?_
  ·refine cS (za) [28] [vB r5]<|mH (za) (vB r5)<|ko [U]<|kn<|wr<|br<|tr<|?_;cases H;exact gu (h.se 2 [])
  refine bZ (bF za) [28]<|mF (bF za) (vB false)<|ko [U]<|kn<|wr<|br<|tr<|?_;cases H;exact gu (h.se 2 [])
 refine ks<|ko [vB (p1.aa6==2),vB (p1.aa6==2)]<|kn<|dR H (λnE H=>?_) λnE H=>?_
 ·refine ks<|ko [U,U]<|qI H (λtQ H=>?_) λtQ H=>?_
  ·refine cS (tQ) [34] [vB r5]<|mH (tQ) (vB r5)<|ko [U]<|qI H (λyc H=>?_) λyc H=>?_
   ·refine cS (yc) [37] [pA b2 3]<|λ_ r=>ld (pX r (yc)) r (vI p1.C) ((h.pick 1).cell 3 rfl)<|?_;refine cS (yc) [39] [pA b1 1]<|λ_ r=>ld (pX r (yc)) r (vI p0.cO) (h.cell 1 rfl)<|?_;refine fO H λvU HM H=>?_;have hc:=gC (H:=HM) (h:=h);intro _ r;refine cl (pX r (yc)) r hc ?_;clear hc h;rintro _ w ⟨rfl,h⟩;refine⟨_,rfl,?_⟩;refine mH (yc) (vB vU)<|ko [U]<|qI H (λkE H=>?_) λkE H=>?_
    ·refine cS (kE) [44] [pA b2 4]<|λ_ r=>ld (pX r (kE)) r (vI p1.K) ((h.pick 1).cell 4 rfl)<|?_;refine cS (kE) [46] [vB (decide (p1.K≥0))]<|mH (kE) (vB (decide (p1.K≥0)))<|ko [vB (decide (p1.K≥0))]<|qI H (λoO H=>?_) λoO H=>?_
     ·refine cS (dT oO) [49] [pA b2 4]<|q9 (dT oO) (h.pick 1) 4<|cS (dT oO) [51] [vB (decide (p1.K<16))]<|mH (dT oO) (vB (decide (p1.K<16)))<|ko [vB (decide (p1.K<16))]<|kn<|wr<|br<|tr<|?_;cases H;exact gu (h.se 2 [])
     refine bZ (dF oO) [49,50,51]<|mF (dF oO) (vB false)<|ko [U]<|kn<|wr<|br<|tr<|?_;cases H;exact gu (h.se 2 [])
    refine bZ (bF kE) [44,45,46]<|mF (bF kE) (vB false)<|ko [U]<|bZ (rfl:false=false) [49,50,51]<|ko [U,U]<|kn<|wr<|br<|tr<|?_;cases H;exact gu (h.se 2 [])
   refine bZ (bF yc) [37,38,39,40,41]<|mF (bF yc) (vB false)<|ko [U]<|bZ (rfl:false=false) [44,45,46]<|ko [U,U]<|bZ (rfl:false=false) [49,50,51]<|ko [U,U]<|kn<|wr<|br<|tr<|?_;cases H;exact gu (h.se 2 [])
  refine bZ (bF tQ) [34]<|mF (bF tQ) (vB false)<|ko [U]<|bZ (rfl:false=false) [37,38,39,40,41]<|ko [U,U]<|bZ (rfl:false=false) [44,45,46]<|ko [U,U]<|bZ (rfl:false=false) [49,50,51]<|ko [U,U]<|kn<|wr<|br<|tr<|?_;cases H;exact gu (h.se 2 [])
 refine ks<|ko [vB (p1.aa6==3),vB (p1.aa6==3)]<|kn<|dR H (λDl H=>?_) λDl H=>?_
 ·refine ks<|ko [U]<|kL (h.pick 1) 1<|ko [U]<|kL h 3<|fO H λn6 OQ H=>ko [vI ((p0.Code.length:Nat):Int)]<|eU (gC (H:=OQ) (h:=h) :) λw h=>ko [U]<|kn<|wr<|br<|tr<|?_;cases H;exact gu (h.se 2 [])
 refine ks<|ko [vB (p1.aa6==4),vB (p1.aa6==4)]<|kn<|dR H (λuO H=>?_) λuO H=>?_
 ·refine ks<|ko [U,U]<|qI H (λyd H=>?_) λyd H=>?_
  ·refine cS (yd) [65] [pA b2 2]<|λ_ r=>ld (pX r (yd)) r (vI p1.B) ((h.pick 1).cell 2 rfl)<|?_;refine cS (yd) [67] [pA b1 3]<|λ_ r=>ld (pX r (yd)) r (.slice aW p0.Code.length bz) (h.cell 3 rfl)<|?_;refine fO H λLK Kr H=>cS (yd) [69] [vI ((p0.Code.length:Nat):Int)]<|?_;have hc:=gC (H:=Kr) (h:=h);intro _ r;refine cl (pX r (yd)) r hc ?_;clear hc h;rintro _ w ⟨rfl,h⟩;refine⟨_,rfl,?_⟩;refine mH (yd) (vB LK)<|ko [U]<|kn<|wr<|br<|tr<|?_;cases H;exact gu (h.se 2 [])
  refine bZ (bF yd) [65,66,67,68,69,70]<|mF (bF yd) (vB false)<|ko [U]<|kn<|wr<|br<|tr<|?_;cases H;exact gu (h.se 2 [])
 refine ks<|ko [vB (p1.aa6==5),vB (p1.aa6==5)]<|kn<|dR H (λyK H=>?_) λyK H=>?_
 ·refine ks<|ko [U]<|kL (h.pick 1) 1<|ko [U]<|kL h 2<|fO H λvj N2 H=>eU (gC (H:=N2) (h:=h) :) λw h=>ko [U]<|kn<|wr<|br<|tr<|?_;cases H;exact gu (h.se 2 [])
 refine ks<|ko [vB (p1.aa6==6),vB (p1.aa6==6)]<|kn<|dR H (λB9 H=>?_) λB9 H=>?_
 ·refine ks<|ko [U]<|kn<|wr<|br<|tr<|?_;cases H;exact gu (h.se 2 [])
 refine ks<|ko [vB (p1.aa6==7),vB (p1.aa6==7)]<|kn<|dR H (λxz H=>?_) λxz H=>?_
 ·refine ks<|ko [U,U]<|qI H (λzb H=>?_) λzb H=>?_
  ·refine cS (zb) [85] [pA b2 2]<|λ_ r=>ld (pX r (zb)) r (vI p1.B) ((h.pick 1).cell 2 rfl)<|?_;refine cS (zb) [87] [pA b1 2]<|λ_ r=>ld (pX r (zb)) r (vI p0.bJ) (h.cell 2 rfl)<|?_;refine fO H λyJ MD H=>?_;have hc:=gC (H:=MD) (h:=h);intro _ r;refine cl (pX r (zb)) r hc ?_;clear hc h;rintro _ w ⟨rfl,h⟩;refine⟨_,rfl,?_⟩;refine mH (zb) (vB yJ)<|ko [U]<|kn<|wr<|br<|tr<|?_;cases H;exact gu (h.se 2 [])
  refine bZ (bF zb) [85,86,87,88,89]<|mF (bF zb) (vB false)<|ko [U]<|kn<|wr<|br<|tr<|?_;cases H;exact gu (h.se 2 [])
 refine wk<|bn<|tn<|ks<|ko [U]<|kn<|wr<|?_;cases H;exact gu (h.se 2 [])
def mj(p0:aO)(p1:aG)(p2:bW):Option (Bool):=
 (if p2.aa6=5 then eL (fG p2.B ((p0.aq.length:Nat):Int)) (λr5=>(if r5=true then if bT p2.B p0.aq.length then(if(ag p0.aq p2.B.toNat).aU=0 then some true else eL (fG p2.C p1.cO) (λzR=>(if zR=true then some (decide ((ag p0.aq p2.B.toNat).aU≤(wi (p1.cO-p2.C))))else some false)))else none else some false))else some true)
theorem vV{p0:aO}{p1:aG}{p2:bW}{bG cz:Option Addr}{cr cE:Nat}{aM:Nat→Option Addr×Nat}{r0:Bool}(H:mj p0 p1 p2=some r0)(h:Fit z (an (L)) w)(aZ:B5 L bG aM p0.aq)(dN:cu L 5 cA cz p1.Code) :
 Calls Tryz.prog 70 #[.agg #[.slice bG p0.aq.length cr],.agg #[vI p1.aU,vI p1.cO,vI p1.bJ,.slice cz p1.Code.length cE],gP p2] w λe w=>e=.returned (vB r0)∧Fit z (an (L)) w:=by
 unfold mj at H;refine ke Tryz.func70 43 rfl λj=>ks<|kN h (#[.slice bG p0.aq.length cr]) 24 λb1 w h=>kN h (#[vI p1.aU,vI p1.cO,vI p1.bJ,.slice cz p1.Code.length cE]) 99 λb2 w h=>kN h (mg p2) 146 λb3 w h=>ko [U]<|kn<|wq<|ks<|ko [U]<|kL h 0<|ko [vB (p2.aa6 != 5)]<|kn<|oA H (λc4 H=>?_) λc4 H=>?_
 ·refine wk<|tn<|wq<|ks<|ko [U]<|kL h 2<|ko [U]<|kL (h.pick 2) 0<|fO H λr5 e6 H=>ko [vI ((p0.aq.length:Nat):Int)]<|eU (gC (H:=e6) (h:=h) :) λw h=>ko [vB (!r5)]<|kn<|C3 H (λc7 H=>?_) λc7 H=>?_
  ·refine wk<|tn<|ks<|ko [U]<|kL (h.pick 2) 0<|ko [U]<|kL h 2<|qg H λc8 H=>kp (pA (bg bG) (jY bG+p2.B.toNat*4)) (vG (k:=.i64) (E:=99) (cc:=cr) rfl (by kernel_rfl) (by kernel_rfl) rfl (by kernel_rfl) (by kernel_rfl) aZ c8)<|ko [U]<|λ_ r=>ld (wn rfl) r (vI (ag p0.aq p2.B.toNat).aU) (aZ.cell c8 (h.dn 3) 0 rfl)<|?_;refine ko [U]<|kn<|ks<|ko [U,vB ((ag p0.aq p2.B.toNat).aU==0),vB ((ag p0.aq p2.B.toNat).aU==0)]<|qI H (λc9 H=>?_) λc9 H=>?_
   ·refine bZ (beq_iff_eq.mpr c9) [28,29,30,31,32,33]<|Jl true [34,35,36,37,38,39,40]<|bZ (beq_iff_eq.mpr c9) [41]<|mH (beq_iff_eq.mpr c9) (vB true)<|ko [U]<|kn<|wr<|?_;cases H;exact gu (h.se 3 [])
   refine cS (bN c9) [28] [pA b3 3]<|q9 (bN c9) h 3<|cS (bN c9) [30] [pA b2 1]<|q9 (bN c9) (h.pick 1) 1<|fO H λzR Ro H=>Tf (bN c9) (gC (H:=Ro) (h:=h) :) λw h=>cS (bN c9) [33] [vB zR]<|qI H (λzQ H=>?_) λzQ H=>?_
   ·refine cS (zQ) [34,35] [vI (ag p0.aq p2.B.toNat).aU,pA b2 1]<|λ_ r=>ld (pX r (zQ)) r (vI p1.cO) ((h.pick 1).cell 1 rfl)<|?_;refine cS (zQ) [37] [pA b3 3]<|λ_ r=>ld (pX r (zQ)) r (vI p2.C) (h.cell 3 rfl)<|?_;refine cS (zQ) [39,40] [vI (wi (p1.cO-p2.C)),vB (decide ((ag p0.aq p2.B.toNat).aU≤(wi (p1.cO-p2.C))))]<|λ_ r=>Ov (pX r (bN c9)) r (vB (decide ((ag p0.aq p2.B.toNat).aU≤(wi (p1.cO-p2.C))))) (Kb (b:=zR) rfl (by kernel_rfl) (zQ) (by kernel_rfl))<|?_;refine mF (bN c9) (vB (decide ((ag p0.aq p2.B.toNat).aU≤(wi (p1.cO-p2.C)))))<|ko [vB (decide ((ag p0.aq p2.B.toNat).aU≤(wi (p1.cO-p2.C))))]<|kn<|wr<|?_;cases H;exact gu (h.se 3 [])
   refine bZ (bF zQ) [34,35,36,37,38,39,40]<|λ_ r=>Ov (pX r (bN c9)) r (vB false) (Kc (b:=zR) rfl (by kernel_rfl) (bF zQ) (by kernel_rfl))<|?_;refine mF (bN c9) (vB false)<|ko [U]<|kn<|wr<|?_;cases H;exact gu (h.se 3 [])
  refine ks<|ko [U]<|kn<|wr<|tr<|?_;cases H;exact gu (h.se 3 [])
 refine ks<|ko [U]<|kn<|wr<|tr<|?_;cases H;exact gu (h.se 3 [])
def kI(p0:aG):Option (Bool):=
 if bT (wi (((p0.Code.length:Nat):Int)-1)) p0.Code.length then(if(ag p0.Code (wi (((p0.Code.length:Nat):Int)-1)).toNat).aa6=3 then some true else some ((ag p0.Code (wi (((p0.Code.length:Nat):Int)-1)).toNat).aa6==9))else none
theorem sI{p0:aG}{aW:Option Addr}{bz:Nat}{r0:Bool}(H:kI p0=some r0)(h:Fit z (an (L)) w)(ct:cu L 5 cA aW p0.Code) :
 Calls Tryz.prog 71 #[.agg #[vI p0.aU,vI p0.cO,vI p0.bJ,.slice aW p0.Code.length bz]] w λe w=>e=.returned (vB r0)∧Fit z (an (L)) w:=by
 unfold kI at H;refine ke Tryz.func71 19 rfl λj=>ks<|kN h (#[vI p0.aU,vI p0.cO,vI p0.bJ,.slice aW p0.Code.length bz]) 99 λb1 w h=>ko [U]<|kn<|ks<|ko [U]<|kL h 3<|ko [U]<|kL h 3<|qg H λc2 H=>ko [vI ((p0.Code.length:Nat):Int),vI (wi (((p0.Code.length:Nat):Int)-1))]<|kj 146 bz ct c2<|ko [pA (bg aW) (jY aW+(wi (((p0.Code.length:Nat):Int)-1)).toNat*5)]<|λ_ r=>ld (wn rfl) r (vI (ag p0.Code (wi (((p0.Code.length:Nat):Int)-1)).toNat).aa6) (ct.cell c2 (h.dn 1) 0 rfl)<|?_;refine ko [vI (ag p0.Code (wi (((p0.Code.length:Nat):Int)-1)).toNat).aa6]<|kn<|ks<|ko [vI (ag p0.Code (wi (((p0.Code.length:Nat):Int)-1)).toNat).aa6,vB ((ag p0.Code (wi (((p0.Code.length:Nat):Int)-1)).toNat).aa6==3),vB ((ag p0.Code (wi (((p0.Code.length:Nat):Int)-1)).toNat).aa6==3)]<|qI H (λc3 H=>?_) λc3 H=>?_
 ·refine bZ (beq_iff_eq.mpr c3) [16,17]<|mH (beq_iff_eq.mpr c3) (vB true)<|ko [U]<|kn<|wr<|?_;cases H;exact gu (h.se 1 [])
 refine cS (bN c3) [16,17] [vI (ag p0.Code (wi (((p0.Code.length:Nat):Int)-1)).toNat).aa6,vB ((ag p0.Code (wi (((p0.Code.length:Nat):Int)-1)).toNat).aa6==9)]<|mF (bN c3) (vB ((ag p0.Code (wi (((p0.Code.length:Nat):Int)-1)).toNat).aa6==9))<|ko [vB ((ag p0.Code (wi (((p0.Code.length:Nat):Int)-1)).toNat).aa6==9)]<|kn<|wr<|?_;cases H;exact gu (h.se 1 [])
def gX(K:Nat)(p0:aG):Nat→Int→Option (Bool)
 | 0,_=>none
 | k1+1,g5=>(if g5<((p0.Code.length:Nat):Int)then if bT g5 p0.Code.length then eL (lp p0 (ag p0.Code g5.toNat)) (λr8=>(if r8=true then(gX K p0 k1 (wi (g5+1)))else some false))else none else eL (kI p0) (λsx=>some sx))
def oB(K:Nat)(p0:aG):Option (Bool):=
 eL (iZ p0) (λr2=>(if r2=true then(gX K p0 K 0)else some false))
theorem wJ{K:Nat}{p0:aG}{aW:Option Addr}{bz:Nat}{r0:Bool}(H:oB K p0=some r0)(h:Fit z (an (L)) w)(ct:cu L 5 cA aW p0.Code) :
 Calls Tryz.prog 111 #[.agg #[vI p0.aU,vI p0.cO,vI p0.bJ,.slice aW p0.Code.length bz]] w λe w=>e=.returned (vB r0)∧Fit z (an (L)) w:=by
 unfold oB at H;refine ke Tryz.func111 26 rfl λj=>ks<|kN h (#[vI p0.aU,vI p0.cO,vI p0.bJ,.slice aW p0.Code.length bz]) 99 λb1 w h=>ko [U]<|kn<|wq<|ks<|kM h<|fO H λr2 e3 H=>eU (qW (aW:=aW) (bz:=bz) (ct:=(cu.up 1 ct)) (H:=e3) (h:=h) :) λw h=>ko [vB (!r2)]<|kn<|C3 H (λc4 H=>?_) λc4 H=>?_
 ·refine wk<|tn<|wq<|ks<|ko [U]<|kn<|wb<|λ_ r=>dP (β:=Nat) id (λm a w=>∃g5:Int,(gX K p0 m g5)=some r0∧∃j,kP 26 (lk [(1,pA b1 0),(3,vI g5)] j) a∧Fit z (an (n5 b1 p0 aW bz::L)) w) K ⟨0,H,r.fj h⟩<|?_;clear h r H;rintro k1 a w ⟨g5,H,j,r,h⟩;cases k1 with
  | zero=>exact absurd H (by simp[gX])
  | succ k1 =>
   rw[gX]at H;refine qq r<|wq<|ks<|ko [U,U]<|kL h 3<|ko [vI ((p0.Code.length:Nat):Int),vB (decide (g5<((p0.Code.length:Nat):Int)))]<|kn<|dR H (λc6 H=>?_) λc6 H=>?_
   ·refine wk<|tn<|wq<|wb<|wq<|qg H λc7 H=>fO H λr8 e9 H=>λ_ r=>fy [(b1,0,[vI p0.aU,vI p0.cO,vI p0.bJ,.slice aW p0.Code.length bz]),(b1,3,[.slice aW p0.Code.length bz]),(bg aW,jY aW+g5.toNat*5,fY (ag p0.Code g5.toNat))] [1,4] 8 h (λh=>⟨(h.held 0 rfl),⟨h.cell 3 rfl,gE⟩,⟨ct.cell c7 (h.dn 1) 0 rfl,ct.cell c7 (h.dn 1) 1 rfl,ct.cell c7 (h.dn 1) 2 rfl,ct.cell c7 (h.dn 1) 3 rfl,ct.cell c7 (h.dn 1) 4 rfl,gE⟩,gE⟩) λw h hd =>qq r<|gg hd 6 [(1,16,pA b1 3),(3,18,vI g5)]<|tL hd 0 5 0 rfl rfl<|kx hd 1 4 2 rfl rfl<|λ_ r=>mJ hd 3 4 rfl (wn rfl) r (pA (bg aW) (jY aW+g5.toNat*5)) (hrun:=λw=>xW (k:=.i64) (E:=146) (cc:=bz) rfl (by kernel_rfl) (by kernel_rfl) rfl (by kernel_rfl) (by kernel_rfl) ct c7)<|?_;refine tL hd 2 2 5 rfl rfl<|λ_ r=>eZ 6 rfl<|qq r<|eU (oF (aW:=aW) (bz:=bz) (ct:=(cu.up 1 ct)) (H:=e9) (h:=h) :) λw h=>kn<|λ_ r=>xE<|gU 0 7 rfl (wn rfl) r (vB r8)<|?_;refine λ_ r=>ji<|qq r<|tn<|ks<|ko [U,vB (!r8)]<|kn<|C3 H (λnV H=>?_) λnV H=>?_
    ·refine wk<|bn<|tn<|wl<|ko [U,vI (wi (g5+1)),vI (wi (g5+1))]<|kn<|?_;exact λ_ r=>⟨_,⟨(wi (g5+1)),H,r.fj h⟩,Nat.lt_succ_self _⟩
    refine ks<|ko [U]<|kn<|wr<|br<|tr<|tr<|br<|tr<|?_;cases H;exact gu (h.se 1 [])
   refine wx<|te<|te<|bh<|tn<|ks<|kM h<|fO H λsx Aa H=>eU (sI (aW:=aW) (bz:=bz) (ct:=(cu.up 1 ct)) (H:=Aa) (h:=h) :) λw h=>ko [U]<|kn<|wr<|?_;cases H;exact gu (h.se 1 [])
 refine ks<|ko [U]<|kn<|wr<|tr<|?_;cases H;exact gu (h.se 1 [])
def mT(p0:bW)(p1:Int)(p2:Int):Option (Int):=
 (if p0.aa6=5 then(if p0.A=p1 then some 2 else(if p0.aa6=6 then(if p2=2 then some 4 else some p2)else some p2))else(if p0.aa6=6 then(if p2=2 then some 4 else some p2)else some p2))
theorem wK{p0:bW}{p1 p2 r0:Int}(H:mT p0 p1 p2=some r0)(h:Fit z (an (L)) w) :
 Calls Tryz.prog 166 #[gP p0,vI p1,vI p2] w λe w=>e=.returned (vI r0)∧Fit z (an (L)) w:=by
 unfold mT at H;refine ke Tryz.func166 24 rfl λj=>ks<|kN h (mg p0) 146 λb1 w h=>ko [U]<|kn<|wq<|ks<|ko [U]<|kL h 0<|ko [vB (p0.aa6==5),vB (p0.aa6==5)]<|qI H (λc2 H=>?_) λc2 H=>?_
 ·refine cS (beq_iff_eq.mpr c2) [11] [pA b1 1]<|λ_ r=>ld (pX r (beq_iff_eq.mpr c2)) r (vI p0.A) (h.cell 1 rfl)<|?_;refine cS (beq_iff_eq.mpr c2) [13,14] [vI p1,vB (p0.A==p1)]<|mH (beq_iff_eq.mpr c2) (vB (p0.A==p1))<|kn<|dR H (λc3 H=>?_) λc3 H=>?_
  ·refine ks<|ko [U]<|kn<|wr<|tr<|?_;cases H;exact gu (h.se 1 [])
  refine wk<|tn<|wq<|ks<|ko [U]<|kL h 0<|ko [vB (p0.aa6==6),vB (p0.aa6==6)]<|qI H (λc4 H=>?_) λc4 H=>?_
  ·refine cS (beq_iff_eq.mpr c4) [20,21] [vI p2,vB (p2==2)]<|mH (beq_iff_eq.mpr c4) (vB (p2==2))<|kn<|dR H (λc5 H=>?_) λc5 H=>?_
   ·refine ks<|ko [U]<|kn<|wr<|tr<|?_;cases H;exact gu (h.se 1 [])
   refine wk<|tn<|ks<|ko [U,U]<|kn<|wr<|?_;cases H;exact gu (h.se 1 [])
  refine bZ (bN c4) [20,21]<|mF (bN c4) (vB false)<|kn<|λ_ r=>ik r (b:=false) rfl<|qq r<|wk<|tn<|ks<|ko [U,U]<|kn<|wr<|?_;cases H;exact gu (h.se 1 [])
 refine bZ (bN c2) [11,12,13,14]<|mF (bN c2) (vB false)<|kn<|λ_ r=>ik r (b:=false) rfl<|qq r<|wk<|tn<|wq<|ks<|ko [U]<|kL h 0<|ko [vB (p0.aa6==6),vB (p0.aa6==6)]<|qI H (λc6 H=>?_) λc6 H=>?_
 ·refine cS (beq_iff_eq.mpr c6) [20,21] [vI p2,vB (p2==2)]<|mH (beq_iff_eq.mpr c6) (vB (p2==2))<|kn<|dR H (λc7 H=>?_) λc7 H=>?_
  ·refine ks<|ko [U]<|kn<|wr<|tr<|?_;cases H;exact gu (h.se 1 [])
  refine wk<|tn<|ks<|ko [U,U]<|kn<|wr<|?_;cases H;exact gu (h.se 1 [])
 refine bZ (bN c6) [20,21]<|mF (bN c6) (vB false)<|kn<|λ_ r=>ik r (b:=false) rfl<|qq r<|wk<|tn<|ks<|ko [U,U]<|kn<|wr<|?_;cases H;exact gu (h.se 1 [])
def mU(p0:aG)(p1:Int):Option ((List Int)):=
 if bT p1 p0.Code.length then(if(ag p0.Code p1.toNat).aa6=3 then some ([(ag p0.Code p1.toNat).A])else(if(ag p0.Code p1.toNat).aa6=9 then some ([]:List Int)else(if(ag p0.Code p1.toNat).aa6=4 then some ([wi (p1+1),(ag p0.Code p1.toNat).B])else some ([wi (p1+1)]))))else none
theorem wL{p0:aG}{p1:Int}{aW:Option Addr}{bz:Nat}{r0:List Int}(H:mU p0 p1=some r0)(h:Fit z (an (L)) w)(ct:cu L 5 cA aW p0.Code) :
 Calls Tryz.prog 167 #[.agg #[vI p0.aU,vI p0.cO,vI p0.bJ,.slice aW p0.Code.length bz],vI p1] w λe w=>∃y1 y2,e=.returned (.slice y1 r0.length y2)∧Fit z (an (Br y1 y2 r0::L)) w:=by
 unfold mU at H;refine ke Tryz.func167 30 rfl λj=>ks<|kN h (#[vI p0.aU,vI p0.cO,vI p0.bJ,.slice aW p0.Code.length bz]) 99 λb1 w h=>ko [U]<|kn<|ks<|ko [U]<|kL h 3<|qg H λc2 H=>ko [U]<|kj 146 bz ct c2<|λ_ r=>tK (wn rfl) r (gP (ag p0.Code p1.toNat)) (cs:=fY (ag p0.Code p1.toNat)) ⟨ct.cell c2 (h.dn 1) 0 rfl,ct.cell c2 (h.dn 1) 1 rfl,ct.cell c2 (h.dn 1) 2 rfl,ct.cell c2 (h.dn 1) 3 rfl,ct.cell c2 (h.dn 1) 4 rfl,gE⟩<|?_;refine kN h (#[vI 0,vI 0,vI 0,vI 0,vI 0]) 146 λb3 w h=>kA h (tv b3 (ag p0.Code p1.toNat)) λw h=>kn<|wq<|ks<|ko [U]<|kL h 0<|kn<|wb<|ks<|ko [vB ((ag p0.Code p1.toNat).aa6==3),vB ((ag p0.Code p1.toNat).aa6==3)]<|kn<|dR H (λc4 H=>?_) λc4 H=>?_
 ·refine ks<|ko [U]<|kL h 1<|kV h (#[vI (ag p0.Code p1.toNat).A]) 3 λb5 w h=>?_;replace h:=Fit.xj (n:=1) (l:=[(ag p0.Code p1.toNat).A]) (by rfl) (by rfl) bq (by decide) h;refine ko [U]<|kn<|wr<|br<|tr<|λ_ r=>ez (v:=.slice (some ⟨b5,0,none⟩) 1 1) rfl r (by kernel_rfl)<|?_;have hn5:1=([(ag p0.Code p1.toNat).A]).length:=h.eY;replace h:=Fit.Dd hn5 (λq_=>rowOf 3 1 dK (.slice (some ⟨b5,0,none⟩) q_ 1) ([(ag p0.Code p1.toNat).A])) h;cases H;exact⟨(some ⟨b5,0,none⟩),1,(by first | rfl | simp only[hn5]),h.se 3 [0]⟩
 refine ks<|ko [vB ((ag p0.Code p1.toNat).aa6==9),vB ((ag p0.Code p1.toNat).aa6==9)]<|kn<|dR H (λc7 H=>?_) λc7 H=>?_
 ·refine ks<|ko [U]<|kn<|wr<|br<|tr<|λ_ r=>ez (v:=.slice none 0 0) rfl r (by kernel_rfl)<|?_;replace h:=h.jX (e:=3) (sz:=1) (enc:=dK);cases H;exact⟨none,0,rfl,h.se 3 [0]⟩
 refine ks<|ko [vB ((ag p0.Code p1.toNat).aa6==4),vB ((ag p0.Code p1.toNat).aa6==4)]<|kn<|dR H (λc8 H=>?_) λc8 H=>?_
 ·refine ks<|ko [U,vI (wi (p1+1)),U]<|kL h 2<|λ_ r=>Rd (wn rfl) r h (λb=>.slice (some ⟨b,0,none⟩) 2 2) (#[vI (wi (p1+1)),vI (ag p0.Code p1.toNat).B]) 3 λb9 w _ h r=>qq r<|?_;replace h:=Fit.xj (n:=2) (l:=[wi (p1+1),(ag p0.Code p1.toNat).B]) (by rfl) (by rfl) bq (by decide) h;refine ko [U]<|kn<|wr<|br<|tr<|λ_ r=>ez (v:=.slice (some ⟨b9,0,none⟩) 2 2) rfl r (by kernel_rfl)<|?_;have Ti:2=([wi (p1+1),(ag p0.Code p1.toNat).B]).length:=h.eY;replace h:=Fit.Dd Ti (λq_=>rowOf 3 1 dK (.slice (some ⟨b9,0,none⟩) q_ 2) ([wi (p1+1),(ag p0.Code p1.toNat).B])) h;cases H;exact⟨(some ⟨b9,0,none⟩),2,(by first | rfl | simp only[Ti]),h.se 3 [0]⟩
 refine wk<|bn<|tn<|ks<|ko [U,vI (wi (p1+1))]<|kV h (#[vI (wi (p1+1))]) 3 λHN w h=>?_;replace h:=Fit.xj (n:=1) (l:=[wi (p1+1)]) (by rfl) (by rfl) bq (by decide) h;refine ko [U]<|kn<|wr<|λ_ r=>ez (v:=.slice (some ⟨HN,0,none⟩) 1 1) rfl r (by kernel_rfl)<|?_;have UI:1=([wi (p1+1)]).length:=h.eY;replace h:=Fit.Dd UI (λq_=>rowOf 3 1 dK (.slice (some ⟨HN,0,none⟩) q_ 1) ([wi (p1+1)])) h;cases H;exact⟨(some ⟨HN,0,none⟩),1,(by first | rfl | simp only[UI]),h.se 3 [0]⟩
def fJ(K:Nat)(nW:Int)(qt:List Int):Nat→(List Int)→(List Int)→(List Int)→Int→Option ((List Int)×(List Int)×(List Int))
 | 0,_,_,_,_=>none
 | k2+1,C5,Jq,Jr,mI=>(if mI<((qt.length:Nat):Int)then if bT mI qt.length then if bT (ag qt mI.toNat) C5.length then(if(gO (ag C5 (ag qt mI.toNat).toNat) nW)=0 then if(Jq.length+1)*8≤140737488355328 then if(Jr.length+1)*8≤140737488355328 then(fJ K nW qt k2 (C5.set (ag qt mI.toNat).toNat (wi ((ag C5 (ag qt mI.toNat).toNat)+nW))) (Jq++[(ag qt mI.toNat)]) (Jr++[nW]) (wi (mI+1)))else none else none else(fJ K nW qt k2 C5 Jq Jr (wi (mI+1))))else none else none else some (C5,Jq,Jr))
def gy(K:Nat)(p0:aG)(p1:Int):Nat→(List Int)→(List Int)→(List Int)→Int→Option ((List Int))
 | 0,_,_,_,_=>none
 | k1+1,l9,Ca,Cb,uP=>(if uP<((Ca.length:Nat):Int)then nC (if bT uP Ca.length then if bT (ag Ca uP.toNat) p0.Code.length then if bT uP Cb.length then eL (mT (ag p0.Code (ag Ca uP.toNat).toNat) p1 (ag Cb uP.toNat)) (λnW=>eL (mU p0 (ag Ca uP.toNat)) (λqt=>(fJ K nW qt K l9 Ca Cb 0)))else none else none else none) (λQq Rp Js=>(gy K p0 p1 k1 Qq Rp Js (wi (uP+1))))else some l9)
def j2(K:Nat)(p0:aG)(p1:Int):Option ((List Int)):=
 if 0≤((p0.Code.length:Nat):Int)∧((p0.Code.length:Nat):Int)*8≤140737488355328 then if bT (0:Int) (List.replicate p0.Code.length (0:Int)).length then(gy K p0 p1 K ((List.replicate p0.Code.length (0:Int)).set 0 1) ([0]) ([1]) 0)else none else none
theorem tR{K:Nat}{p0:aG}{p1:Int}{aW:Option Addr}{bz:Nat}{r0:List Int}(H:j2 K p0 p1=some r0)(h:Fit z (an (L)) w)(ct:cu L 5 cA aW p0.Code) :
 Calls Tryz.prog 112 #[.agg #[vI p0.aU,vI p0.cO,vI p0.bJ,.slice aW p0.Code.length bz],vI p1] w λe w=>∃y1 y2,e=.returned (.slice y1 r0.length y2)∧Fit z (an (Br y1 y2 r0::L)) w:=by
 unfold j2 at H;refine ke Tryz.func112 91 rfl λj=>ks<|kN h (#[vI p0.aU,vI p0.cO,vI p0.bJ,.slice aW p0.Code.length bz]) 99 λb1 w h=>ko [U]<|kn<|ks<|ko [U]<|kL h 3<|qg H λc2 H=>ko [vI ((p0.Code.length:Nat):Int)]<|λ_ r=>pW (i:=((p0.Code.length:Nat):Int)) (bytes:=8) (zc:=#[vI 0]) (0:Int) (wn rfl) rfl rfl r rfl (by kernel_rfl) (by kernel_rfl) c2 bq (E:=3) (by kernel_rfl) (by kernel_rfl) rfl rfl h λdU w _ h r=>qq r<|ko [U]<|kn<|ks<|kV h (#[vI 0]) 3 λb4 w h=>?_;replace h:=Fit.xj (n:=1) (l:=[0]) (by rfl) (by rfl) bq (by decide) h;refine ko [U]<|kn<|ks<|kV h (#[vI 1]) 3 λb5 w h=>?_;replace h:=Fit.xj (n:=1) (l:=[1]) (by rfl) (by rfl) bq (by decide) h;refine ko [U]<|kn<|ks<|qg H λc6 H=>ko [U]<|kp (pA (bg dU) (0*1)) (kW (i:=(0:Int)) (k:=.i64) (E:=3) rfl (by kernel_rfl) (by kernel_rfl) (by kernel_rfl) (by kernel_rfl) (h.pick 2) c6)<|qh h.m2 λh=>λ_ r=>HC (wn rfl) r bq h 0 0 (vI 1) (ag (List.replicate p0.Code.length (0:Int)) 0) 1 (bf c6) λw h=>qq r<|kn<|wq<|ks<|ko [U]<|kn<|wb<|?_;have Ks:(List.replicate p0.Code.length (0:Int)).length=((List.replicate p0.Code.length (0:Int)).set 0 1).length:=h.eY;replace h:=Fit.Dd Ks (λq_=>rowOf 3 1 dK (.slice dU q_ p0.Code.length) ((List.replicate p0.Code.length (0:Int)).set 0 1)) h;intro _ r;replace r:=r.re 5 (congrArg (λq_=>Value.slice dU q_ p0.Code.length) Ks);refine qh h.m2 λh=>?_;have UJ:1=([0]).length:=h.eY;replace h:=Fit.Dd UJ (λq_=>rowOf 3 1 dK (.slice (some ⟨b4,0,none⟩) q_ 1) ([0])) h;replace r:=r.re 6 (congrArg (λq_=>Value.slice (some ⟨b4,0,none⟩) q_ 1) UJ);refine qh h.m2 λh=>?_;have UK:1=([1]).length:=h.eY;replace h:=Fit.Dd UK (λq_=>rowOf 3 1 dK (.slice (some ⟨b5,0,none⟩) q_ 1) ([1])) h;replace r:=r.re 7 (congrArg (λq_=>Value.slice (some ⟨b5,0,none⟩) q_ 1) UK);refine dP (β:=Nat) id (λm a w=>∃ei:Option Addr,∃eD:Nat,∃Dm:Option Addr,∃Kt:Nat,∃oP:Option Addr,∃po:Nat,∃l9:List Int,∃Ca:List Int,∃Cb:List Int,∃uP:Int,(gy K p0 p1 m l9 Ca Cb uP)=some r0∧∃j,kP 91 (lk [(1,vI p1),(2,pA b1 0),(5,.slice ei l9.length eD),(6,.slice Dm Ca.length Kt),(7,.slice oP Cb.length po),(8,vI uP)] j) a∧Fit z (an (n5 b1 p0 aW bz::Br ei eD l9::Br Dm Kt Ca::Br oP po Cb::L)) w) K ⟨dU,p0.Code.length,(some ⟨b4,0,none⟩),1,(some ⟨b5,0,none⟩),1,((List.replicate p0.Code.length (0:Int)).set 0 1),[0],[1],0,H,r.fj (h.se 4 [3,2,1,0])⟩<|?_;clear h r H;rintro k1 a w ⟨ei,eD,Dm,Kt,oP,po,l9,Ca,Cb,uP,H,j,r,h⟩;cases k1 with
 | zero=>exact absurd H (by simp[gy])
 | succ k1 =>
  rw[gy]at H;refine qq r<|wq<|ks<|ko [U,U,vI ((Ca.length:Nat):Int),vB (decide (uP<((Ca.length:Nat):Int)))]<|kn<|dR H (λkE H=>?_) λkE H=>?_
  ·refine wk<|tn<|qd3 H λWS H Rq=>λ_ r=>dw (β:=Unit) (λ_ a w=>∃Es:Option Addr,∃Et:Nat,∃uQ:Option Addr,∃xA:Nat,∃Qq:List Int,∃Rp:List Int,∃Js:List Int,(Qq,Rp,Js)=WS∧∃j,kP 91 (lk [(1,vI p1),(2,pA b1 0),(5,.slice ei l9.length eD),(6,.slice Es Rp.length Et),(7,.slice uQ Js.length xA),(8,vI uP)] j) a∧Fit z (an (n5 b1 p0 aW bz::rowOf 3 1 dK (.slice ei l9.length eD) Qq::Br Es Et Rp::Br uQ xA Js::L)) w) ?_ ?_
   ·refine qq r<|wb<|wq<|qg H λrS H=>qg H λuR H=>λ_ r=>fy [(b1,3,[.slice aW p0.Code.length bz]),(bg Dm,uP.toNat*1,[vI (ag Ca uP.toNat)]),(bg aW,jY aW+(ag Ca uP.toNat).toNat*5,fY (ag p0.Code (ag Ca uP.toNat).toNat))] [0,4,6] 10 h (λh=>⟨⟨h.cell 3 rfl,gE⟩,⟨(h.pick 2).cL bq (f:=0) (bf rS) rfl,gE⟩,⟨ct.cell uR (h.dn 4) 0 rfl,ct.cell uR (h.dn 4) 1 rfl,ct.cell uR (h.dn 4) 2 rfl,ct.cell uR (h.dn 4) 3 rfl,ct.cell uR (h.dn 4) 4 rfl,gE⟩,gE⟩) λw h hd =>qq r<|gg hd 7 [(0,27,pA b1 3),(2,29,.slice Dm Ca.length Kt),(3,30,vI uP)]<|λ_ r=>mJ hd 6 4 rfl (wn rfl) r (pA (bg Dm) (uP.toNat*1)) (hrun:=λw=>kW (k:=.i64) (E:=3) rfl (by kernel_rfl) (by kernel_rfl) (by kernel_rfl) (by kernel_rfl) (h.pick 2) rS)<|?_;refine kx hd 0 5 1 rfl rfl<|kx hd 1 4 5 rfl rfl<|λ_ r=>mJ hd 3 6 rfl (wn rfl) r (pA (bg aW) (jY aW+(ag Ca uP.toNat).toNat*5)) (hrun:=λw=>xW (k:=.i64) (E:=146) (cc:=bz) rfl (by kernel_rfl) (by kernel_rfl) rfl (by kernel_rfl) (by kernel_rfl) ct uR)<|?_;refine tL hd 2 2 7 rfl rfl<|λ_ r=>eZ 8 rfl<|qq r<|kN h (#[vI 0,vI 0,vI 0,vI 0,vI 0]) 146 λb32 w h=>kn<|λ_ r=>xE<|eZ 9 rfl<|qq r<|kA h (tv b32 (ag p0.Code (ag Ca uP.toNat).toNat)) λw h=>kn<|λ_ r=>xE<|ji<|qq r<|tn<|wq<|qg H λxz H=>fO H λnW Eu H=>λ_ r=>fy [(b32,0,fY (ag p0.Code (ag Ca uP.toNat).toNat)),(bg oP,uP.toNat*1,[vI (ag Cb uP.toNat)])] [4] 8 h (λh=>⟨(h.held 0 rfl),⟨(h.pick 4).cL bq (f:=0) (bf xz) rfl,gE⟩,gE⟩) λw h hd =>qq r<|gg hd 5 [(1,36,vI p1),(2,37,.slice oP Cb.length po),(3,38,vI uP)]<|λ_ r=>mJ hd 4 4 rfl (wn rfl) r (pA (bg oP) (uP.toNat*1)) (hrun:=λw=>kW (k:=.i64) (E:=3) rfl (by kernel_rfl) (by kernel_rfl) (by kernel_rfl) (by kernel_rfl) (h.pick 4) xz)<|?_;refine tL hd 0 3 0 rfl rfl<|kx hd 1 2 5 rfl rfl<|λ_ r=>eZ 6 rfl<|qq r<|eU (wK (H:=Eu) (h:=h) :) λw h=>kn<|λ_ r=>xE<|gU 0 7 rfl (wn rfl) r (vI nW)<|?_;refine λ_ r=>ji<|qq r<|tn<|wq<|fO H λqt Ku H=>λ_ r=>fy [(b1,0,[vI p0.aU,vI p0.cO,vI p0.bJ,.slice aW p0.Code.length bz]),(bg Dm,uP.toNat*1,[vI (ag Ca uP.toNat)])] [3] 7 h (λh=>⟨((h.pick 1).held 0 rfl),⟨(h.pick 3).cL bq (f:=0) (bf rS) rfl,gE⟩,gE⟩) λw h hd =>qq r<|gg hd 5 [(1,43,.slice Dm Ca.length Kt),(2,44,vI uP)]<|λ_ r=>mJ hd 4 3 rfl (wn rfl) r (pA (bg Dm) (uP.toNat*1)) (hrun:=λw=>kW (k:=.i64) (E:=3) rfl (by kernel_rfl) (by kernel_rfl) (by kernel_rfl) (by kernel_rfl) (h.pick 3) rS)<|?_;refine tL hd 0 3 0 rfl rfl<|kx hd 1 2 4 rfl rfl<|λ_ r=>eZ 5 rfl<|qq r<|Ri (wL (aW:=aW) (bz:=bz) (ct:=(cu.up 5 ct)) (H:=Ku) (h:=h) :) λAP zd w h=>kn<|λ_ r=>xE<|gU 0 6 rfl (wn rfl) r (.slice AP qt.length zd)<|?_;refine λ_ r=>ji<|qq r<|tn<|ks<|ko [U]<|kn<|wb<|λ_ r=>dP (β:=Nat) id (λm a w=>∃ME:Option Addr,∃MF:Nat,∃Ab:Option Addr,∃Ac:Nat,∃C5:List Int,∃Jq:List Int,∃Jr:List Int,∃mI:Int,(fJ K nW qt m C5 Jq Jr mI)=some WS∧∃j,kP 91 (lk [(1,vI p1),(2,pA b1 0),(5,.slice ei l9.length eD),(6,.slice ME Jq.length MF),(7,.slice Ab Jr.length Ac),(8,vI uP),(10,vI nW),(11,.slice AP qt.length zd),(12,vI mI)] j) a∧Fit z (an (n5 b1 p0 aW bz::rowOf 3 1 dK (.slice ei l9.length eD) C5::Br ME MF Jq::Br Ab Ac Jr::Br AP zd qt::L)) w) K ⟨Dm,Kt,oP,po,l9,Ca,Cb,0,H,r.fj (h.se 6 [2,3,4,5,0])⟩<|?_;clear h r H;rintro k2 a w ⟨ME,MF,Ab,Ac,C5,Jq,Jr,mI,H,j,r,h⟩;cases k2 with
    | zero=>exact absurd H (by simp[fJ])
    | succ k2 =>
     rw[fJ]at H;refine qq r<|wq<|ks<|ko [U,U,vI ((qt.length:Nat):Int),vB (decide (mI<((qt.length:Nat):Int)))]<|kn<|dR H (λMG H=>?_) λMG H=>?_
     ·refine wk<|tn<|wq<|wb<|ks<|qg H λDW H=>ko [U,U,U]<|ki (h.pick 4) DW<|λ_ r=>ld (wn rfl) r (vI (ag qt mI.toNat)) ((h.pick 4).cL bq (f:=0) (bf DW) rfl)<|?_;refine qg H λOR H=>ki (h.pick 1) OR<|λ_ r=>ld (wn rfl) r (vI (ag C5 (ag qt mI.toNat).toNat)) ((h.pick 1).cL bq (f:=0) (bf OR) rfl)<|?_;refine ko [U]<|kp (vI (gO (ag C5 (ag qt mI.toNat).toNat) nW)) (rand rfl (by kernel_rfl) (by kernel_rfl))<|ko [vB ((gO (ag C5 (ag qt mI.toNat).toNat) nW)==0)]<|kn<|dR H (λYd H=>?_) λYd H=>?_
      ·refine wq<|λ_ r=>fy [(bg AP,mI.toNat*1,[vI (ag qt mI.toNat)]),(bg AP,mI.toNat*1,[vI (ag qt mI.toNat)]),(bg ei,(ag qt mI.toNat).toNat*1,[vI (ag C5 (ag qt mI.toNat).toNat)])] [3,8,10,13] 16 h (λh=>⟨⟨(h.pick 4).cL bq (f:=0) (bf DW) rfl,gE⟩,⟨(h.pick 4).cL bq (f:=0) (bf DW) rfl,gE⟩,⟨(h.pick 1).cL bq (f:=0) (bf OR) rfl,gE⟩,gE⟩) λw h hd =>qq r<|gg hd 13 [(0,64,.slice ei l9.length eD),(1,65,.slice AP qt.length zd),(2,66,vI mI)]<|λ_ r=>mJ hd 12 3 rfl (wn rfl) r (pA (bg AP) (mI.toNat*1)) (hrun:=λw=>kW (k:=.i64) (E:=3) rfl (by kernel_rfl) (by kernel_rfl) (by kernel_rfl) (by kernel_rfl) (h.pick 4) DW)<|?_;refine gg hd 9 [(5,69,.slice ei l9.length eD),(6,70,.slice AP qt.length zd),(7,71,vI mI)]<|λ_ r=>mJ hd 8 8 rfl (wn rfl) r (pA (bg AP) (mI.toNat*1)) (hrun:=λw=>kW (k:=.i64) (E:=3) rfl (by kernel_rfl) (by kernel_rfl) (by kernel_rfl) (by kernel_rfl) (h.pick 4) DW)<|?_;refine gg hd 7 [(12,76,vI nW)]<|kx hd 0 6 4 rfl rfl<|kx hd 1 5 9 rfl rfl<|λ_ r=>mJ hd 4 10 rfl (wn rfl) r (pA (bg ei) ((ag qt mI.toNat).toNat*1)) (hrun:=λw=>kW (k:=.i64) (E:=3) rfl (by kernel_rfl) (by kernel_rfl) (by kernel_rfl) (by kernel_rfl) (h.pick 1) OR)<|?_;refine kx hd 2 3 11 rfl rfl<|gg hd 2 [(13,77,vI (wi ((ag C5 (ag qt mI.toNat).toNat)+nW)))]<|λ_ r=>mJ hd 1 14 rfl (wn rfl) r (pA (bg ei) ((ag qt mI.toNat).toNat*1)) (hrun:=λw=>kW (k:=.i64) (E:=3) rfl (by kernel_rfl) (by kernel_rfl) (by kernel_rfl) (by kernel_rfl) (h.pick 1) OR)<|?_;refine λ_ r=>eZ 15 rfl<|qh h.m1 λh=>HC (wn rfl) r bq h (ag qt mI.toNat).toNat 0 (vI (wi ((ag C5 (ag qt mI.toNat).toNat)+nW))) (ag C5 (ag qt mI.toNat).toNat) (wi ((ag C5 (ag qt mI.toNat).toNat)+nW)) (bf OR) λw h=>qq r<|kn<|λ_ r=>xE<|ji<|qq r<|tn<|ks<|ko [U,U,U]<|ki (h.pick 4) DW<|λ_ r=>ld (wn rfl) r (vI (ag qt mI.toNat)) ((h.pick 4).cL bq (f:=0) (bf DW) rfl)<|?_;refine kV h (#[vI (ag qt mI.toNat)]) 3 λb52 w h=>qh h.m3 λh=>qg H λUL H=>λ_ r=>mO (n0:=Jq.length) (c:=1) (bytes:=8) (wn rfl) rfl rfl r rfl (by kernel_rfl) (by kernel_rfl) bq (E:=3) (xs:=Jq) (by kernel_rfl) (by kernel_rfl) h (news:=[(ag qt mI.toNat)]) (m:=1) rfl ((h.pick 1).news rfl) UL rfl λKv Kw w _ h r=>qq r<|ko [U]<|kn<|wl<|ko [U,U]<|kV h (#[vI nW]) 3 λb56 w h=>qh h.m5 λh=>qg H λRr H=>λ_ r=>mO (n0:=Jr.length) (c:=1) (bytes:=8) (wn rfl) rfl rfl r rfl (by kernel_rfl) (by kernel_rfl) bq (E:=3) (xs:=Jr) (by kernel_rfl) (by kernel_rfl) h (news:=[nW]) (m:=1) rfl ((h.pick 1).news rfl) Rr rfl λHO HP w _ h r=>qq r<|ko [U]<|kl<|bn<|tn<|wl<|ko [U,vI (wi (mI+1)),vI (wi (mI+1))]<|kn<|?_;exact λ_ r=>⟨_,⟨Kv,Kw,HO,HP,(C5.set (ag qt mI.toNat).toNat (wi ((ag C5 (ag qt mI.toNat).toNat)+nW))),(Jq++[(ag qt mI.toNat)]),(Jr++[nW]),(wi (mI+1)),H,r.fj (h.se 7 [5,4,2,0,6])⟩,Nat.lt_succ_self _⟩
      refine wk<|bn<|tn<|wl<|ko [U,vI (wi (mI+1)),vI (wi (mI+1))]<|kn<|?_;exact λ_ r=>⟨_,⟨ME,MF,Ab,Ac,C5,Jq,Jr,(wi (mI+1)),H,r.fj h⟩,Nat.lt_succ_self _⟩
     refine wx<|te<|te<|bh<|bn<|tn<|?_;exact λ_ r=>⟨(),ME,MF,Ab,Ac,C5,Jq,Jr,gH H,r.fj (h.se 5 [0,1,2,3])⟩
   clear h r;rintro _ a w ⟨Es,Et,uQ,xA,Qq,Rp,Js,rfl,j,r,h⟩;replace H:=kk3 Rq;refine qq r<|wl<|ko [U,vI (wi (uP+1)),vI (wi (uP+1))]<|kn<|qh h.m1 λh=>?_;have UM:l9.length=Qq.length:=h.eY;replace h:=Fit.Dd UM (λq_=>rowOf 3 1 dK (.slice ei q_ eD) Qq) h;intro _ r;replace r:=r.re 5 (congrArg (λq_=>Value.slice ei q_ eD) UM);exact⟨_,⟨ei,eD,Es,Et,uQ,xA,Qq,Rp,Js,(wi (uP+1)),H,r.fj (h.se 4 [1,0,2,3])⟩,Nat.lt_succ_self _⟩
  refine wx<|te<|te<|bh<|tn<|ks<|ko [U,U]<|kn<|wr<|?_;cases H;exact Tg ei eD (h.se 4 [1])
def jk(K:Nat)(p0:aG):Nat→(List (List Int))→Int→Option ((List (List Int)))
 | 0,_,_=>none
 | k1+1,Bs,oW=>(if oW<(((List.replicate p0.Code.length ([]:List Int)).length:Nat):Int)then if 0≤p0.bJ∧p0.bJ*8≤140737488355328 then if bT oW Bs.length then(jk K p0 k1 (Bs.set oW.toNat (List.replicate p0.bJ.toNat (0:Int))) (wi (oW+1)))else none else none else some Bs)
def jl(K:Nat)(p0:aG)(jR:Int)(xB:List Int):Nat→(List (List Int))→Int→Option ((List (List Int)))
 | 0,_,_=>none
 | k3+1,zS,vJ=>(if vJ<(((List.replicate p0.Code.length ([]:List Int)).length:Nat):Int)then if bT vJ zS.length then if bT vJ xB.length then if bT jR (ag zS vJ.toNat).length then(jl K p0 jR xB k3 (zS.set vJ.toNat ((ag zS vJ.toNat).set jR.toNat (ag xB vJ.toNat))) (wi (vJ+1)))else none else none else none else some zS)
def jm(K:Nat)(p0:aG):Nat→(List (List Int))→Int→Option ((List (List Int)))
 | 0,_,_=>none
 | k2+1,uD,jR=>(if jR<p0.bJ then eL (eL (j2 K p0 jR) (λxB=>(jl K p0 jR xB K uD 0))) (λTj=>(jm K p0 k2 Tj (wi (jR+1))))else some uD)
def nL(K:Nat)(p0:aG):Option ((List (List Int))):=
 eL (oB K p0) (λr2=>(if r2=true then if 0≤((p0.Code.length:Nat):Int)∧((p0.Code.length:Nat):Int)*24≤140737488355328 then eL ((jk K p0 K (List.replicate p0.Code.length ([]:List Int)) 0)) (λl7=>(jm K p0 K l7 0))else none else some ([]:List (List Int))))
theorem xC{K:Nat}{p0:aG}{aW:Option Addr}{bz:Nat}{r0:List (List Int)}(H:nL K p0=some r0)(h:Fit z (an (L)) w)(ct:cu L 5 cA aW p0.Code) :
 Calls Tryz.prog 72 #[.agg #[vI p0.aU,vI p0.cO,vI p0.bJ,.slice aW p0.Code.length bz]] w λe w=>∃y1 y2,e=.returned (.slice y1 r0.length y2)∧Fit z (an (En y1 y2 r0::L)) w:=by
 unfold nL at H;refine ke Tryz.func72 55 rfl λj=>ks<|kN h (#[vI p0.aU,vI p0.cO,vI p0.bJ,.slice aW p0.Code.length bz]) 99 λb1 w h=>ko [U]<|kn<|ks<|kM h<|fO H λr2 e3 H=>eU (wJ (aW:=aW) (bz:=bz) (ct:=(cu.up 1 ct)) (H:=e3) (h:=h) :) λw h=>ko [U]<|kn<|wq<|ks<|ko [U,vB (!r2)]<|kn<|C3 H (λc4 H=>?_) λc4 H=>?_
 ·refine wk<|tn<|ks<|ko [U]<|kL h 3<|qg H λc5 H=>ko [vI ((p0.Code.length:Nat):Int)]<|λ_ r=>yU (own:=iL) (i:=((p0.Code.length:Nat):Int)) (bytes:=24) (zc:=#[.slice none 0 0]) ([]:List Int) (wn rfl) rfl rfl r rfl (by kernel_rfl) (by kernel_rfl) c5 rfl (by simp[Value.oneCell']) (by decide) (E:=28) (by kernel_rfl) (by kernel_rfl) rfl (λh=>gJ (x:=([]:List Int)) (pM:=none) (pO:=0) (h.jX)) h λBt w _ h r=>qq r<|ko [U]<|kn<|El H λo9 H OP=>λ_ r=>dw (β:=Unit) (λ_ a w=>∃l7:List (List Int),l7=o9∧∃j,kP 55 (lk [(1,pA b1 0),(4,.slice Bt (List.replicate p0.Code.length ([]:List Int)).length p0.Code.length)] j) a∧Fit z (an (n5 b1 p0 aW bz::qP 28 1 iL (.slice Bt (List.replicate p0.Code.length ([]:List Int)).length p0.Code.length) l7::L)) w) ?_ ?_
  ·refine qq r<|ks<|ko [U]<|kn<|wb<|λ_ r=>dP (β:=Nat) id (λm a w=>∃Bs:List (List Int),∃oW:Int,(jk K p0 m Bs oW)=some o9∧∃j,kP 55 (lk [(1,pA b1 0),(4,.slice Bt (List.replicate p0.Code.length ([]:List Int)).length p0.Code.length),(5,vI oW)] j) a∧Fit z (an (n5 b1 p0 aW bz::qP 28 1 iL (.slice Bt (List.replicate p0.Code.length ([]:List Int)).length p0.Code.length) Bs::L)) w) K ⟨(List.replicate p0.Code.length ([]:List Int)),0,H,r.fj (h.se 2 [1,0])⟩<|?_;clear h r H;rintro k1 a w ⟨Bs,oW,H,j,r,h⟩;cases k1 with
   | zero=>exact absurd H (by simp[jk])
   | succ k1 =>
    rw[jk]at H;refine qq r<|wq<|ks<|ko [U,U,vI (((List.replicate p0.Code.length ([]:List Int)).length:Nat):Int),vB (decide (oW<(((List.replicate p0.Code.length ([]:List Int)).length:Nat):Int)))]<|kn<|dR H (λzQ H=>?_) λzQ H=>?_
    ·refine wk<|tn<|wq<|wb<|wl<|ko [U,U,U]<|kL h 2<|qg H λvk H=>λ_ r=>pW (i:=p0.bJ) (bytes:=8) (zc:=#[vI 0]) (0:Int) (wn rfl) rfl rfl r rfl (by kernel_rfl) (by kernel_rfl) vk bq (E:=3) (by kernel_rfl) (by kernel_rfl) rfl rfl h λYe w _ h r=>qq r<|qg H λnE H=>kp (pA (bg Bt) (oW.toNat*1)) (Bp (k:=.i64) (E:=28) rfl (by kernel_rfl) (by kernel_rfl) (by kernel_rfl) (by kernel_rfl) (h.pick 2) nE)<|?_;obtain⟨aaI,h⟩:=h.m2.lU (bf nE);obtain⟨aaJ,aaK,ye,h⟩:=kZ (h.m1);subst ye;refine qh h.m1 λh=>λ_ r=>xX (wn rfl) rfl r rfl (by kernel_rfl) (by kernel_rfl) (v:=.slice Ye (List.replicate p0.bJ.toNat (0:Int)).length p0.bJ.toNat) rfl rfl (by kernel_rfl) (by kernel_rfl) h (i:=oW.toNat) (f:=0) (by decide) λw h=>qq r<|kl<|bn<|tn<|wl<|ko [U,vI (wi (oW+1)),vI (wi (oW+1))]<|kn<|qh h.m2 λh=>?_;replace h:=gJ (x:=(List.replicate p0.bJ.toNat (0:Int))) h;replace h:=(h.m1).uK;exact λ_ r=>⟨_,⟨(Bs.set oW.toNat (List.replicate p0.bJ.toNat (0:Int))),(wi (oW+1)),H,r.fj (h.se 3 [2,0])⟩,Nat.lt_succ_self _⟩
    refine wx<|te<|te<|bh<|tn<|?_;exact λ_ r=>⟨(),Bs,gH H,r.fj h⟩
  clear h r;rintro _ a w ⟨l7,rfl,j,r,h⟩;replace H:=Eg OP;refine qq r<|wq<|ks<|ko [U]<|kn<|wb<|λ_ r=>dP (β:=Nat) id (λm a w=>∃uD:List (List Int),∃jR:Int,(jm K p0 m uD jR)=some r0∧∃j,kP 55 (lk [(1,pA b1 0),(4,.slice Bt (List.replicate p0.Code.length ([]:List Int)).length p0.Code.length),(6,vI jR)] j) a∧Fit z (an (n5 b1 p0 aW bz::qP 28 1 iL (.slice Bt (List.replicate p0.Code.length ([]:List Int)).length p0.Code.length) uD::L)) w) K ⟨l7,0,H,r.fj h⟩<|?_;clear h r H;rintro k2 a w ⟨uD,jR,H,j,r,h⟩;cases k2 with
  | zero=>exact absurd H (by simp[jm])
  | succ k2 =>
   rw[jm]at H;refine qq r<|wq<|ks<|ko [U,U]<|kL h 2<|ko [vB (decide (jR<p0.bJ))]<|kn<|dR H (λDl H=>?_) λDl H=>?_
   ·refine wk<|tn<|El H λo25 H Yf=>λ_ r=>dw (β:=Unit) (λ_ a w=>∃Tj:List (List Int),Tj=o25∧∃j,kP 55 (lk [(1,pA b1 0),(4,.slice Bt (List.replicate p0.Code.length ([]:List Int)).length p0.Code.length),(6,vI jR)] j) a∧Fit z (an (n5 b1 p0 aW bz::qP 28 1 iL (.slice Bt (List.replicate p0.Code.length ([]:List Int)).length p0.Code.length) Tj::L)) w) ?_ ?_
    ·refine qq r<|wb<|ks<|kM h<|fO H λxB Kx H=>ko [U]<|Ri (tR (aW:=aW) (bz:=bz) (ct:=(cu.up 2 ct)) (H:=Kx) (h:=h) :) λDX yL w h=>ko [U]<|kn<|ks<|ko [U]<|kn<|wb<|λ_ r=>dP (β:=Nat) id (λm a w=>∃zS:List (List Int),∃vJ:Int,(jl K p0 jR xB m zS vJ)=some o25∧∃j,kP 55 (lk [(1,pA b1 0),(4,.slice Bt (List.replicate p0.Code.length ([]:List Int)).length p0.Code.length),(6,vI jR),(7,.slice DX xB.length yL),(8,vI vJ)] j) a∧Fit z (an (n5 b1 p0 aW bz::qP 28 1 iL (.slice Bt (List.replicate p0.Code.length ([]:List Int)).length p0.Code.length) zS::Br DX yL xB::L)) w) K ⟨uD,0,H,r.fj (h.se 3 [1,2,0])⟩<|?_;clear h r H;rintro k3 a w ⟨zS,vJ,H,j,r,h⟩;cases k3 with
     | zero=>exact absurd H (by simp[jl])
     | succ k3 =>
      rw[jl]at H;refine qq r<|wq<|ks<|ko [U,U,vI (((List.replicate p0.Code.length ([]:List Int)).length:Nat):Int),vB (decide (vJ<(((List.replicate p0.Code.length ([]:List Int)).length:Nat):Int)))]<|kn<|dR H (λB9 H=>?_) λB9 H=>?_
      ·refine wk<|tn<|wq<|wb<|qg H λxz H=>?_;obtain⟨aaL,h⟩:=h.m1.lU (bf xz);obtain⟨Dn,Ew,MD,h⟩:=kZ (h.m1);subst MD;refine qg H λQr H=>qg H λFo H=>λ_ r=>fy [(bg Bt,vJ.toNat*1,[.slice Dn (ag zS vJ.toNat).length Ew]),(bg DX,vJ.toNat*1,[vI (ag xB vJ.toNat)])] [2,7] 11 h (λh=>⟨⟨(h.pick 1).nI (by decide) (f:=0) rfl,gE⟩,⟨(h.pick 3).cL bq (f:=0) (bf Qr) rfl,gE⟩,gE⟩) λw h hd =>qq r<|gg hd 9 [(0,44,.slice Bt (List.replicate p0.Code.length ([]:List Int)).length p0.Code.length),(1,45,vI vJ)]<|λ_ r=>mJ hd 8 2 rfl (wn rfl) r (pA (bg Bt) (vJ.toNat*1)) (hrun:=λw=>sR (k:=.i64) (E:=28) rfl (by kernel_rfl) (by kernel_rfl) (by kernel_rfl) (by kernel_rfl) (h.pick 1) xz)<|?_;refine gg hd 5 [(4,48,vI jR),(5,49,.slice DX xB.length yL),(6,50,vI vJ)]<|λ_ r=>mJ hd 4 7 rfl (wn rfl) r (pA (bg DX) (vJ.toNat*1)) (hrun:=λw=>kW (k:=.i64) (E:=3) rfl (by kernel_rfl) (by kernel_rfl) (by kernel_rfl) (by kernel_rfl) (h.pick 3) Qr)<|?_;refine kx hd 0 3 3 rfl rfl<|kx hd 1 2 8 rfl rfl<|λ_ r=>mJ hd 1 9 rfl (wn rfl) r (pA (bg Dn) (jR.toNat*1)) (hrun:=λw=>kW (k:=.i64) (E:=3) rfl (by kernel_rfl) (by kernel_rfl) (by kernel_rfl) (by kernel_rfl) h Fo)<|?_;refine λ_ r=>eZ 10 rfl<|HC (wn rfl) r bq h jR.toNat 0 (vI (ag xB vJ.toNat)) (ag (ag zS vJ.toNat) jR.toNat) (ag xB vJ.toNat) (bf Fo) λw h=>qq r<|kn<|λ_ r=>xE<|ji<|qq r<|bn<|tn<|wl<|ko [U,vI (wi (vJ+1)),vI (wi (vJ+1))]<|kn<|?_;have HQ:(ag zS vJ.toNat).length=((ag zS vJ.toNat).set jR.toNat (ag xB vJ.toNat)).length:=h.eY;replace h:=Fit.jZ HQ (λq_=>rowOf 3 1 dK (.slice Dn q_ Ew) ((ag zS vJ.toNat).set jR.toNat (ag xB vJ.toNat))) (λq_=>wB 28 1 iL (.slice Bt (List.replicate p0.Code.length ([]:List Int)).length p0.Code.length) zS vJ.toNat [.slice Dn q_ Ew]) h;replace h:=gJ (x:=((ag zS vJ.toNat).set jR.toNat (ag xB vJ.toNat))) h;replace h:=(h.m1).uK;exact λ_ r=>⟨_,⟨(zS.set vJ.toNat ((ag zS vJ.toNat).set jR.toNat (ag xB vJ.toNat))),(wi (vJ+1)),H,r.fj (h.se 3 [1,0,2])⟩,Nat.lt_succ_self _⟩
      refine wx<|te<|te<|bh<|bn<|tn<|?_;exact λ_ r=>⟨(),zS,gH H,r.fj (h.se 3 [0,1])⟩
    clear h r;rintro _ a w ⟨Tj,rfl,j,r,h⟩;replace H:=Eg Yf;refine qq r<|wl<|ko [U,vI (wi (jR+1)),vI (wi (jR+1))]<|kn<|?_;exact λ_ r=>⟨_,⟨Tj,(wi (jR+1)),H,r.fj h⟩,Nat.lt_succ_self _⟩
   refine wx<|te<|te<|bh<|tn<|ks<|ko [U,U]<|kn<|wr<|λ_ r=>ez (v:=.slice Bt (List.replicate p0.Code.length ([]:List Int)).length p0.Code.length) rfl r (by kernel_rfl)<|qh h.m1 λh=>?_;have MH:(List.replicate p0.Code.length ([]:List Int)).length=uD.length:=h.HA;replace h:=Fit.Dd MH (λq_=>qP 28 1 iL (.slice Bt q_ p0.Code.length) uD) h;cases H;exact⟨Bt,p0.Code.length,(by first | rfl | simp only[MH]),h.se 2 [0]⟩
 refine ks<|ko [U]<|kn<|wr<|tr<|λ_ r=>ez (v:=.slice none 0 0) rfl r (by kernel_rfl)<|?_;replace h:=h.BQ (e:=28) (sz:=1) (own:=iL);cases H;exact⟨none,0,rfl,h.se 2 [0]⟩
def fS(K:Nat)(p1:List Int):Nat→Int→Option (Int)
 | 0,_=>none
 | k1+1,g9=>(if g9<((p1.length:Nat):Int)then if bT g9 p1.length then(if(gO (ag p1 g9.toNat) (2:Int))=0 then(fS K p1 k1 (wi (g9+1)))else some 56)else none else some 0)
def kF(K:Nat)(p0:bW)(p1:List Int):Option (Int):=
 (if p0.aa6=5 then if bT p0.A p1.length then(if(gO (ag p1 p0.A.toNat) (2:Int))=0 then some 0 else some 54)else none else(if p0.aa6=7 then if bT p0.B p1.length then(if(gO (ag p1 p0.B.toNat) (3:Int))=0 then some 0 else some 55)else none else(if p0.aa6=9 then(fS K p1 K 0)else some 0)))
theorem um{K:Nat}{p0:bW}{p1:List Int}{Jt:Option Addr}{Ju:Nat}{r0:Int}(H:kF K p0 p1=some r0)(h:Fit z (an (L)) w)(Ky:cu L 1 dK Jt p1) :
 Calls Tryz.prog 73 #[gP p0,.slice Jt p1.length Ju] w λe w=>e=.returned (vI r0)∧Fit z (an (L)) w:=by
 unfold kF at H;refine ke Tryz.func73 40 rfl λj=>ks<|kN h (mg p0) 146 λb1 w h=>ko [U]<|kn<|wq<|ks<|ko [U]<|kL h 0<|kn<|wb<|ks<|ko [vB (p0.aa6==5),vB (p0.aa6==5)]<|kn<|dR H (λc2 H=>?_) λc2 H=>?_
 ·refine ks<|ko [U,U]<|kL h 1<|qg H λc3 H=>kj 3 Ju Ky c3<|λ_ r=>ld (wn rfl) r (vI (ag p1 p0.A.toNat)) (Ky.cell c3 (h.dn 1) 0 rfl)<|?_;refine kp (vI (gO (ag p1 p0.A.toNat) (2:Int))) (rand rfl (by kernel_rfl) (by kernel_rfl))<|ko [vB ((gO (ag p1 p0.A.toNat) (2:Int)) != 0)]<|kn<|oA H (λc4 H=>?_) λc4 H=>?_
  ·refine wk<|bn<|tn<|ks<|ko [U]<|kn<|wr<|?_;cases H;exact gu (h.se 1 [])
  refine ks<|ko [U]<|kn<|wr<|br<|tr<|?_;cases H;exact gu (h.se 1 [])
 refine ks<|ko [vB (p0.aa6==7),vB (p0.aa6==7)]<|kn<|dR H (λc5 H=>?_) λc5 H=>?_
 ·refine ks<|ko [U,U]<|kL h 2<|qg H λc6 H=>kj 3 Ju Ky c6<|λ_ r=>ld (wn rfl) r (vI (ag p1 p0.B.toNat)) (Ky.cell c6 (h.dn 1) 0 rfl)<|?_;refine kp (vI (gO (ag p1 p0.B.toNat) (3:Int))) (rand rfl (by kernel_rfl) (by kernel_rfl))<|ko [vB ((gO (ag p1 p0.B.toNat) (3:Int)) != 0)]<|kn<|oA H (λc7 H=>?_) λc7 H=>?_
  ·refine wk<|bn<|tn<|ks<|ko [U]<|kn<|wr<|?_;cases H;exact gu (h.se 1 [])
  refine ks<|ko [U]<|kn<|wr<|br<|tr<|?_;cases H;exact gu (h.se 1 [])
 refine ks<|ko [vB (p0.aa6==9),vB (p0.aa6==9)]<|kn<|dR H (λc8 H=>?_) λc8 H=>?_
 ·refine ks<|ko [U]<|kn<|wb<|λ_ r=>dP (β:=Nat) id (λm a w=>∃g9:Int,(fS K p1 m g9)=some r0∧∃j,kP 40 (lk [(1,.slice Jt p1.length Ju),(5,vI g9)] j) a∧Fit z (an (L)) w) K ⟨0,H,r.fj (h.se 1 [])⟩<|?_;clear h r H;rintro k1 a w ⟨g9,H,j,r,h⟩;cases k1 with
  | zero=>exact absurd H (by simp[fS])
  | succ k1 =>
   rw[fS]at H;refine qq r<|wq<|ks<|ko [U,U,vI ((p1.length:Nat):Int),vB (decide (g9<((p1.length:Nat):Int)))]<|kn<|dR H (λnV H=>?_) λnV H=>?_
   ·refine wk<|tn<|wq<|wb<|ks<|qg H λsH H=>ko [U,U]<|kj 3 Ju Ky sH<|λ_ r=>ld (wn rfl) r (vI (ag p1 g9.toNat)) (Ky.cell sH (h.dn 0) 0 rfl)<|?_;refine kp (vI (gO (ag p1 g9.toNat) (2:Int))) (rand rfl (by kernel_rfl) (by kernel_rfl))<|ko [vB ((gO (ag p1 g9.toNat) (2:Int)) != 0)]<|kn<|oA H (λzQ H=>?_) λzQ H=>?_
    ·refine wk<|bn<|tn<|wl<|ko [U,vI (wi (g9+1)),vI (wi (g9+1))]<|kn<|?_;exact λ_ r=>⟨_,⟨(wi (g9+1)),H,r.fj h⟩,Nat.lt_succ_self _⟩
    refine ks<|ko [U]<|kn<|wr<|br<|tr<|tr<|br<|br<|tr<|?_;cases H;exact gu h
   refine wx<|te<|te<|bh<|bn<|tn<|ks<|ko [U]<|kn<|wr<|?_;cases H;exact gu h
 refine wk<|bn<|tn<|ks<|ko [U]<|kn<|wr<|?_;cases H;exact gu (h.se 1 [])
def gY(K:Nat)(p0:aO):Nat→Int→Option ((Unit)⊕(dG))
 | 0,_=>none
 | k1+1,g9=>(if g9<((p0.aq.length:Nat):Int)then if bT g9 p0.aq.length then eL (iZ (ag p0.aq g9.toNat)) (λxm=>(if xm=true then(gY K p0 k1 (wi (g9+1)))else some (.inr (⟨51,g9,0⟩:dG))))else none else some (.inl ()))
def gZ(K:Nat)(p0:aO)(kD:Int):Nat→Int→Option ((Unit)⊕((Unit)⊕((Unit)⊕(dG))))
 | 0,_=>none
 | k3+1,ze=>(if ze<(((ag p0.aq kD.toNat).Code.length:Nat):Int)then if bT ze (ag p0.aq kD.toNat).Code.length then eL (lp (ag p0.aq kD.toNat) (ag (ag p0.aq kD.toNat).Code ze.toNat)) (λyM=>(if yM=true then eL (mj p0 (ag p0.aq kD.toNat) (ag (ag p0.aq kD.toNat).Code ze.toNat)) (λtS=>(if tS=true then(gZ K p0 kD k3 (wi (ze+1)))else some (.inr (.inr (.inr (⟨52,kD,ze⟩:dG))))))else some (.inr (.inr (.inr (⟨52,kD,ze⟩:dG))))))else none else some (.inl ()))
def hH(K:Nat)(p0:aO):Nat→Int→Option ((Unit)⊕(dG))
 | 0,_=>none
 | k2+1,kD=>(if kD<((p0.aq.length:Nat):Int)then vg (if bT kD p0.aq.length then vg ((gZ K p0 kD K 0)) (eL (kI (ag p0.aq kD.toNat)) (λnW=>(if nW=true then some (.inl ())else some (.inr (.inr (⟨53,kD,wi ((((ag p0.aq kD.toNat).Code.length:Nat):Int)-1)⟩:dG))))))else none) ((hH K p0 k2 (wi (kD+1))))else some (.inl ()))
def hJ(K:Nat)(p0:aO)(lH:Int)(Gg:List (List Int)):Nat→Int→Option ((Unit)⊕(dG))
 | 0,_=>none
 | k5+1,mI=>(if mI<(((ag p0.aq lH.toNat).Code.length:Nat):Int)then if bT mI (ag p0.aq lH.toNat).Code.length then if bT mI Gg.length then eL (kF K (ag (ag p0.aq lH.toNat).Code mI.toNat) (ag Gg mI.toNat)) (λEx=>(if Ex=0 then(hJ K p0 lH Gg k5 (wi (mI+1)))else some (.inr (⟨Ex,lH,mI⟩:dG))))else none else none else some (.inl ()))
def ja(K:Nat)(p0:aO):Nat→Int→Option (dG)
 | 0,_=>none
 | k4+1,lH=>(if lH<((p0.aq.length:Nat):Int)then vg (if bT lH p0.aq.length then eL (nL K (ag p0.aq lH.toNat)) (λGg=>(hJ K p0 lH Gg K 0))else none) ((ja K p0 k4 (wi (lH+1))))else some (⟨0,0,0⟩:dG))
def mV(K:Nat)(p0:aO):Option (dG):=
 vg ((if((p0.aq.length:Nat):Int)<1 then some (.inr (⟨50,0,0⟩:dG))else(if((p0.aq.length:Nat):Int)>32 then some (.inr (⟨50,0,0⟩:dG))else some (.inl ())))) (vg ((gY K p0 K 0)) (vg ((hH K p0 K 0)) ((ja K p0 K 0))))
theorem wM{K:Nat}{p0:aO}{bG:Option Addr}{cr:Nat}{aM:Nat→Option Addr×Nat}{r0:dG}(H:mV K p0=some r0)(h:Fit z (an (L)) w)(aZ:B5 L bG aM p0.aq) :
 Calls Tryz.prog 49 #[.agg #[.slice bG p0.aq.length cr]] w λe w=>e=.returned (wF r0)∧Fit z (an (L)) w:=by
 unfold mV at H;refine ke Tryz.func49 131 rfl λj=>ks<|kN h (#[.slice bG p0.aq.length cr]) 24 λb1 w h=>kN h (#[vI 0,vI 0,vI 0]) 95 λb2 w h=>kn<|?_;obtain⟨o4,H,HR⟩:=AW H;refine λ_ r=>dw (β:=Unit) (λ_ a w=>.inl ()=o4∧∃j,kP 131 (lk [(1,pA b1 0),(2,pA b2 0)] j) a∧Fit z (an (pts b1 (.cells #[.slice bG p0.aq.length cr] 24)::pts b2 (.cells #[vI 0,vI 0,vI 0] 95)::L)) w) ?_ ?_
 ·refine qq r<|ks<|ko [U]<|kL (h.pick 1) 0<|ko [vI ((p0.aq.length:Nat):Int),vB (decide (((p0.aq.length:Nat):Int)<1)),vB (decide (((p0.aq.length:Nat):Int)<1))]<|qI H (λc5 H=>?_) λc5 H=>?_
  ·refine bZ (dT c5) [19,20,21,22]<|mH (dT c5) (vB true)<|kn<|λ_ r=>gb r (b:=true) rfl<|qq r<|ks<|ko [U]<|kA h (pts b2 (.cells #[vI 50,vI 0,vI 0] 95)) λw h=>kn<|wr<|tr<|kC h<|?_;replace H:=sQ H HR;cases H;exact⟨rfl,h.se 2 []⟩
  refine cS (dF c5) [19] [pA b1 0]<|q9 (dF c5) (h.pick 1) 0<|cS (dF c5) [21,22] [vI ((p0.aq.length:Nat):Int),vB (decide (((p0.aq.length:Nat):Int)>32))]<|mF (dF c5) (vB (decide (((p0.aq.length:Nat):Int)>32)))<|kn<|dR H (λc6 H=>?_) λc6 H=>?_
  ·refine ks<|ko [U]<|kA h (pts b2 (.cells #[vI 50,vI 0,vI 0] 95)) λw h=>kn<|wr<|tr<|kC h<|?_;replace H:=sQ H HR;cases H;exact⟨rfl,h.se 2 []⟩
  refine wk<|tn<|?_;exact λ_ r=>⟨(),gH H,r.fj (h.se 2 [1,0])⟩
 clear h r;rintro _ a w ⟨rfl,j,r,h⟩;replace H:=AX HR;obtain⟨o8,H,HS⟩:=AW H;refine dw (β:=Unit) (λ_ a w=>.inl ()=o8∧∃j,kP 131 (lk [(1,pA b1 0),(2,pA b2 0)] j) a∧Fit z (an (pts b1 (.cells #[.slice bG p0.aq.length cr] 24)::pts b2 (.cells #[vI 0,vI 0,vI 0] 95)::L)) w) ?_ ?_
 ·refine qq r<|ks<|ko [U]<|kn<|wb<|λ_ r=>dP (β:=Nat) id (λm a w=>∃g9:Int,(gY K p0 m g9)=some o8∧∃j,kP 131 (lk [(1,pA b1 0),(2,pA b2 0),(3,vI g9)] j) a∧Fit z (an (pts b1 (.cells #[.slice bG p0.aq.length cr] 24)::pts b2 (.cells #[vI 0,vI 0,vI 0] 95)::L)) w) K ⟨0,H,r.fj h⟩<|?_;clear h r H;rintro k1 a w ⟨g9,H,j,r,h⟩;cases k1 with
  | zero=>exact absurd H (by simp[gY])
  | succ k1 =>
   rw[gY]at H;refine qq r<|wq<|ks<|ko [U,U]<|kL h 0<|ko [vI ((p0.aq.length:Nat):Int),vB (decide (g9<((p0.aq.length:Nat):Int)))]<|kn<|dR H (λnV H=>?_) λnV H=>?_
   ·refine wk<|tn<|wq<|wb<|ks<|ko [U]<|kL h 0<|qg H λsH H=>ko [U]<|kp (pA (bg bG) (jY bG+g9.toNat*4)) (vG (k:=.i64) (E:=99) (cc:=cr) rfl (by kernel_rfl) (by kernel_rfl) rfl (by kernel_rfl) (by kernel_rfl) aZ sH)<|λ_ r=>tK (wn rfl) r (.agg #[vI (ag p0.aq g9.toNat).aU,vI (ag p0.aq g9.toNat).cO,vI (ag p0.aq g9.toNat).bJ,.slice ((aM g9.toNat).1) (ag p0.aq g9.toNat).Code.length ((aM g9.toNat).2)]) (cs:=[vI (ag p0.aq g9.toNat).aU,vI (ag p0.aq g9.toNat).cO,vI (ag p0.aq g9.toNat).bJ,.slice ((aM g9.toNat).1) (ag p0.aq g9.toNat).Code.length ((aM g9.toNat).2)]) ⟨aZ.cell sH (h.dn 2) 0 rfl,aZ.cell sH (h.dn 2) 1 rfl,aZ.cell sH (h.dn 2) 2 rfl,aZ.cell sH (h.dn 2) 3 rfl,gE⟩<|?_;refine fO H λxm Yg H=>eU (qW (aW:=((aM g9.toNat).1)) (bz:=((aM g9.toNat).2)) (ct:=(cu.up 2 (aZ.tj sH))) (H:=Yg) (h:=h) :) λw h=>ko [U]<|kn<|ks<|ko [U,vB (!xm)]<|kn<|C3 H (λza H=>?_) λza H=>?_
    ·refine wk<|bn<|tn<|wl<|ko [U,vI (wi (g9+1)),vI (wi (g9+1))]<|kn<|?_;exact λ_ r=>⟨_,⟨(wi (g9+1)),H,r.fj h⟩,Nat.lt_succ_self _⟩
    refine ks<|ko [U,U]<|qh h.m1 λh=>kA h (pts b2 (.cells #[vI 51,vI g9,vI 0] 95)) λw h=>kn<|wr<|br<|tr<|tr<|br<|tr<|kC h<|?_;replace H:=sQ H HS;cases H;exact⟨rfl,h.se 2 []⟩
   refine wx<|te<|te<|bh<|tn<|?_;exact λ_ r=>⟨(),gH H,r.fj h⟩
 clear h r;rintro _ a w ⟨rfl,j,r,h⟩;replace H:=AX HS;obtain⟨o16,H,OS⟩:=AW H;refine dw (β:=Unit) (λ_ a w=>.inl ()=o16∧∃j,kP 131 (lk [(1,pA b1 0),(2,pA b2 0)] j) a∧Fit z (an (pts b1 (.cells #[.slice bG p0.aq.length cr] 24)::pts b2 (.cells #[vI 0,vI 0,vI 0] 95)::L)) w) ?_ ?_
 ·refine qq r<|ks<|ko [U]<|kn<|wb<|λ_ r=>dP (β:=Nat) id (λm a w=>∃kD:Int,(hH K p0 m kD)=some o16∧∃j,kP 131 (lk [(1,pA b1 0),(2,pA b2 0),(5,vI kD)] j) a∧Fit z (an (pts b1 (.cells #[.slice bG p0.aq.length cr] 24)::pts b2 (.cells #[vI 0,vI 0,vI 0] 95)::L)) w) K ⟨0,H,r.fj h⟩<|?_;clear h r H;rintro k2 a w ⟨kD,H,j,r,h⟩;cases k2 with
  | zero=>exact absurd H (by simp[hH])
  | succ k2 =>
   rw[hH]at H;refine qq r<|wq<|ks<|ko [U,U]<|kL h 0<|ko [vI ((p0.aq.length:Nat):Int),vB (decide (kD<((p0.aq.length:Nat):Int)))]<|kn<|dR H (λDp H=>?_) λDp H=>?_
   ·refine wk<|tn<|?_;obtain⟨o20,H,OT⟩:=AW H;refine λ_ r=>dw (β:=Unit) (λ_ a w=>.inl ()=o20∧∃j,kP 131 (lk [(1,pA b1 0),(2,pA b2 0),(5,vI kD)] j) a∧Fit z (an (pts b1 (.cells #[.slice bG p0.aq.length cr] 24)::pts b2 (.cells #[vI 0,vI 0,vI 0] 95)::L)) w) ?_ ?_
    ·refine qq r<|wb<|ks<|ko [U]<|kL h 0<|qg H λoO H=>ko [U]<|kp (pA (bg bG) (jY bG+kD.toNat*4)) (vG (k:=.i64) (E:=99) (cc:=cr) rfl (by kernel_rfl) (by kernel_rfl) rfl (by kernel_rfl) (by kernel_rfl) aZ oO)<|λ_ r=>tK (wn rfl) r (.agg #[vI (ag p0.aq kD.toNat).aU,vI (ag p0.aq kD.toNat).cO,vI (ag p0.aq kD.toNat).bJ,.slice ((aM kD.toNat).1) (ag p0.aq kD.toNat).Code.length ((aM kD.toNat).2)]) (cs:=[vI (ag p0.aq kD.toNat).aU,vI (ag p0.aq kD.toNat).cO,vI (ag p0.aq kD.toNat).bJ,.slice ((aM kD.toNat).1) (ag p0.aq kD.toNat).Code.length ((aM kD.toNat).2)]) ⟨aZ.cell oO (h.dn 2) 0 rfl,aZ.cell oO (h.dn 2) 1 rfl,aZ.cell oO (h.dn 2) 2 rfl,aZ.cell oO (h.dn 2) 3 rfl,gE⟩<|?_;refine kN h (#[vI 0,vI 0,vI 0,.slice none 0 0]) 99 λuo w h=>kA h (n5 uo (ag p0.aq kD.toNat) ((aM kD.toNat).1) ((aM kD.toNat).2)) λw h=>kn<|?_;obtain⟨WT,H,HU⟩:=AW H;refine λ_ r=>dw (β:=Unit) (λ_ a w=>.inl ()=WT∧∃j,kP 131 (lk [(1,pA b1 0),(2,pA b2 0),(5,vI kD),(6,pA uo 0)] j) a∧Fit z (an (pts b1 (.cells #[.slice bG p0.aq.length cr] 24)::pts b2 (.cells #[vI 0,vI 0,vI 0] 95)::n5 uo (ag p0.aq kD.toNat) ((aM kD.toNat).1) ((aM kD.toNat).2)::L)) w) ?_ ?_
     ·refine qq r<|ks<|ko [U]<|kn<|wb<|λ_ r=>dP (β:=Nat) id (λm a w=>∃ze:Int,(gZ K p0 kD m ze)=some WT∧∃j,kP 131 (lk [(1,pA b1 0),(2,pA b2 0),(5,vI kD),(6,pA uo 0),(7,vI ze)] j) a∧Fit z (an (pts b1 (.cells #[.slice bG p0.aq.length cr] 24)::pts b2 (.cells #[vI 0,vI 0,vI 0] 95)::n5 uo (ag p0.aq kD.toNat) ((aM kD.toNat).1) ((aM kD.toNat).2)::L)) w) K ⟨0,H,r.fj (h.se 3 [1,2,0])⟩<|?_;clear h r H;rintro k3 a w ⟨ze,H,j,r,h⟩;cases k3 with
      | zero=>exact absurd H (by simp[gZ])
      | succ k3 =>
       rw[gZ]at H;refine qq r<|wq<|ks<|ko [U,U]<|kL (h.pick 2) 3<|ko [vI (((ag p0.aq kD.toNat).Code.length:Nat):Int),vB (decide (ze<(((ag p0.aq kD.toNat).Code.length:Nat):Int)))]<|kn<|dR H (λyd H=>?_) λyd H=>?_
       ·refine wk<|tn<|wq<|wb<|wq<|qg H λoD H=>fO H λyM N3 H=>qI H (λrS H=>?_) λrS H=>?_
        ·refine fO H λtS HV H=>λ_ r=>fy [(uo,0,[vI (ag p0.aq kD.toNat).aU,vI (ag p0.aq kD.toNat).cO,vI (ag p0.aq kD.toNat).bJ,.slice ((aM kD.toNat).1) (ag p0.aq kD.toNat).Code.length ((aM kD.toNat).2)]),(uo,3,[.slice ((aM kD.toNat).1) (ag p0.aq kD.toNat).Code.length ((aM kD.toNat).2)]),(bg ((aM kD.toNat).1),jY ((aM kD.toNat).1)+ze.toNat*5,fY (ag (ag p0.aq kD.toNat).Code ze.toNat)),(b1,0,[.slice bG p0.aq.length cr]),(uo,0,[vI (ag p0.aq kD.toNat).aU,vI (ag p0.aq kD.toNat).cO,vI (ag p0.aq kD.toNat).bJ,.slice ((aM kD.toNat).1) (ag p0.aq kD.toNat).Code.length ((aM kD.toNat).2)]),(uo,3,[.slice ((aM kD.toNat).1) (ag p0.aq kD.toNat).Code.length ((aM kD.toNat).2)]),(bg ((aM kD.toNat).1),jY ((aM kD.toNat).1)+ze.toNat*5,fY (ag (ag p0.aq kD.toNat).Code ze.toNat))] [1,4,6,7,11,14] 19 h (λh=>⟨((h.pick 2).held 0 rfl),⟨(h.pick 2).cell 3 rfl,gE⟩,⟨(aZ.tj oO).cell oD (h.dn 3) 0 rfl,(aZ.tj oO).cell oD (h.dn 3) 1 rfl,(aZ.tj oO).cell oD (h.dn 3) 2 rfl,(aZ.tj oO).cell oD (h.dn 3) 3 rfl,(aZ.tj oO).cell oD (h.dn 3) 4 rfl,gE⟩,⟨h.cell 0 rfl,gE⟩,((h.pick 2).held 0 rfl),⟨(h.pick 2).cell 3 rfl,gE⟩,⟨(aZ.tj oO).cell oD (h.dn 3) 0 rfl,(aZ.tj oO).cell oD (h.dn 3) 1 rfl,(aZ.tj oO).cell oD (h.dn 3) 2 rfl,(aZ.tj oO).cell oD (h.dn 3) 3 rfl,(aZ.tj oO).cell oD (h.dn 3) 4 rfl,gE⟩,gE⟩) λw h hd =>qq r<|gg hd 17 [(1,62,pA uo 3),(3,64,vI ze)]<|tL hd 0 16 0 rfl rfl<|kx hd 1 15 2 rfl rfl<|λ_ r=>mJ hd 14 4 rfl (wn rfl) r (pA (bg ((aM kD.toNat).1)) (jY ((aM kD.toNat).1)+ze.toNat*5)) (hrun:=λw=>xW (k:=.i64) (E:=146) (cc:=((aM kD.toNat).2)) rfl (by kernel_rfl) (by kernel_rfl) rfl (by kernel_rfl) (by kernel_rfl) (aZ.tj oO) oD)<|?_;refine tL hd 2 13 5 rfl rfl<|λ_ r=>eZ 6 rfl<|qq r<|eU (oF (aW:=((aM kD.toNat).1)) (bz:=((aM kD.toNat).2)) (ct:=(cu.up 3 (aZ.tj oO))) (H:=N3) (h:=h) :) λw h=>kn<|λ_ r=>eE ⟨((h.pick 2).held 0 rfl),⟨(h.pick 2).cell 3 rfl,gE⟩,⟨(aZ.tj oO).cell oD (h.dn 3) 0 rfl,(aZ.tj oO).cell oD (h.dn 3) 1 rfl,(aZ.tj oO).cell oD (h.dn 3) 2 rfl,(aZ.tj oO).cell oD (h.dn 3) 3 rfl,(aZ.tj oO).cell oD (h.dn 3) 4 rfl,gE⟩,⟨h.cell 0 rfl,gE⟩,((h.pick 2).held 0 rfl),⟨(h.pick 2).cell 3 rfl,gE⟩,⟨(aZ.tj oO).cell oD (h.dn 3) 0 rfl,(aZ.tj oO).cell oD (h.dn 3) 1 rfl,(aZ.tj oO).cell oD (h.dn 3) 2 rfl,(aZ.tj oO).cell oD (h.dn 3) 3 rfl,(aZ.tj oO).cell oD (h.dn 3) 4 rfl,gE⟩,gE⟩ λhd =>qq r<|gg hd 10 [(7,68,vB (!yM)),(8,69,vB (!yM))]<|λ_ r=>mJ hd 9 11 rfl (pX r (nT rS)) r (pA uo 3)<|?_;refine λ_ r=>mJ hd 8 13 rfl (pX r (nT rS)) r (vI ze)<|?_;refine λ_ r=>WM hd 3 7 9 r (pX r (nT rS)) rfl rfl<|?_;refine λ_ r=>WM hd 4 6 10 r (pX r (nT rS)) rfl rfl<|?_;refine λ_ r=>WL hd 5 5 12 r (pX r (nT rS)) rfl rfl<|?_;refine λ_ r=>mJ hd 4 14 rfl (pX r (nT rS)) r (pA (bg ((aM kD.toNat).1)) (jY ((aM kD.toNat).1)+ze.toNat*5)) (hrun:=λw=>xW (k:=.i64) (E:=146) (cc:=((aM kD.toNat).2)) rfl (by kernel_rfl) (by kernel_rfl) rfl (by kernel_rfl) (by kernel_rfl) (aZ.tj oO) oD)<|?_;refine λ_ r=>WM hd 6 3 15 r (pX r (nT rS)) rfl rfl<|?_
         refine λ_ r=>eZ 16 rfl<|qq r<|Tf (nT rS) (vV (bG:=bG) (cr:=cr) (aZ:=(xw.up 3 aZ)) (cz:=((aM kD.toNat).1)) (cE:=((aM kD.toNat).2)) (dN:=(cu.up 3 (aZ.tj oO))) (aM:=aM) (H:=HV) (h:=h) :) λw h=>kn<|λ_ r=>xE<|gU 1 17 rfl (pX r (nT rS)) r (vB (!tS))<|?_;refine λ_ r=>gU 0 18 rfl (wn rfl) r (vB (!tS)) (hrun:=λw=>Kc (b:=(!yM)) rfl (by kernel_rfl) (nT rS) (by kernel_rfl))<|?_;refine λ_ r=>ji<|qq r<|tn<|C3 H (λxz H=>?_) λxz H=>?_
         ·refine wk<|bn<|tn<|wl<|ko [U,vI (wi (ze+1)),vI (wi (ze+1))]<|kn<|?_;exact λ_ r=>⟨_,⟨(wi (ze+1)),H,r.fj h⟩,Nat.lt_succ_self _⟩
         refine ks<|ko [U,U,U]<|qh h.m1 λh=>kA h (pts b2 (.cells #[vI 52,vI kD,vI ze] 95)) λw h=>kn<|wr<|br<|tr<|tr<|br<|tr<|br<|tr<|tr<|br<|tr<|kC h<|?_;replace H:=sQ H HU;replace H:=sQ H OT;replace H:=sQ H OS;cases H;exact⟨rfl,h.se 3 []⟩
        refine λ_ r=>fy [(uo,0,[vI (ag p0.aq kD.toNat).aU,vI (ag p0.aq kD.toNat).cO,vI (ag p0.aq kD.toNat).bJ,.slice ((aM kD.toNat).1) (ag p0.aq kD.toNat).Code.length ((aM kD.toNat).2)]),(uo,3,[.slice ((aM kD.toNat).1) (ag p0.aq kD.toNat).Code.length ((aM kD.toNat).2)]),(bg ((aM kD.toNat).1),jY ((aM kD.toNat).1)+ze.toNat*5,fY (ag (ag p0.aq kD.toNat).Code ze.toNat))] [1,4] 19 h (λh=>⟨((h.pick 2).held 0 rfl),⟨(h.pick 2).cell 3 rfl,gE⟩,⟨(aZ.tj oO).cell oD (h.dn 3) 0 rfl,(aZ.tj oO).cell oD (h.dn 3) 1 rfl,(aZ.tj oO).cell oD (h.dn 3) 2 rfl,(aZ.tj oO).cell oD (h.dn 3) 3 rfl,(aZ.tj oO).cell oD (h.dn 3) 4 rfl,gE⟩,gE⟩) λw h hd =>qq r<|gg hd 17 [(1,62,pA uo 3),(3,64,vI ze)]<|tL hd 0 16 0 rfl rfl<|kx hd 1 15 2 rfl rfl<|λ_ r=>mJ hd 14 4 rfl (wn rfl) r (pA (bg ((aM kD.toNat).1)) (jY ((aM kD.toNat).1)+ze.toNat*5)) (hrun:=λw=>xW (k:=.i64) (E:=146) (cc:=((aM kD.toNat).2)) rfl (by kernel_rfl) (by kernel_rfl) rfl (by kernel_rfl) (by kernel_rfl) (aZ.tj oO) oD)<|?_;refine tL hd 2 13 5 rfl rfl<|λ_ r=>eZ 6 rfl<|qq r<|eU (oF (aW:=((aM kD.toNat).1)) (bz:=((aM kD.toNat).2)) (ct:=(cu.up 3 (aZ.tj oO))) (H:=N3) (h:=h) :) λw h=>kn<|λ_ r=>xE<|gU 11 7 rfl (wn rfl) r (vB (!yM))<|?_;refine λ_ r=>gU 10 8 rfl (wn rfl) r (vB (!yM))<|?_;refine λ_ r=>Qi 9 11 rfl (pX r (nF rS)) r<|?_;refine λ_ r=>Qi 8 13 rfl (pX r (nF rS)) r<|?_;refine λ_ r=>Qi 7 9 rfl (pX r (nF rS)) r<|?_;refine λ_ r=>Qi 6 10 rfl (pX r (nF rS)) r<|?_;refine λ_ r=>Qi 5 12 rfl (pX r (nF rS)) r<|?_;refine λ_ r=>Qi 4 14 rfl (pX r (nF rS)) r<|?_;refine λ_ r=>Qi 3 15 rfl (pX r (nF rS)) r<|?_;refine λ_ r=>eZ 16 rfl<|XV (pX r (nF rS)) r<|?_;refine kn<|λ_ r=>xE<|Qi 1 17 rfl (pX r (nF rS)) r<|?_;refine λ_ r=>gU 0 18 rfl (wn rfl) r (vB true) (hrun:=λw=>Kb (b:=(!yM)) rfl (by kernel_rfl) (nF rS) (by kernel_rfl))<|?_;refine λ_ r=>ji<|qq r<|tn<|λ_ r=>gb r (b:=true) rfl<|qq r<|ks<|ko [U,U,U]<|qh h.m1 λh=>kA h (pts b2 (.cells #[vI 52,vI kD,vI ze] 95)) λw h=>kn<|wr<|br<|tr<|tr<|br<|tr<|br<|tr<|tr<|br<|tr<|kC h<|?_;replace H:=sQ H HU;replace H:=sQ H OT;replace H:=sQ H OS;cases H;exact⟨rfl,h.se 3 []⟩
       refine wx<|te<|te<|bh<|tn<|?_;exact λ_ r=>⟨(),gH H,r.fj h⟩
     clear h r;rintro _ a w ⟨rfl,j,r,h⟩;replace H:=AX HU;refine qq r<|ks<|kM (h.pick 2)<|fO H λnW Eu H=>eU (sI (aW:=((aM kD.toNat).1)) (bz:=((aM kD.toNat).2)) (ct:=(cu.up 3 (aZ.tj oO))) (H:=Eu) (h:=h) :) λw h=>ko [U]<|kn<|ks<|ko [U,vB (!nW)]<|kn<|C3 H (λHh H=>?_) λHh H=>?_
     ·refine wk<|bn<|tn<|?_;exact λ_ r=>⟨(),gH H,r.fj (h.se 3 [0,1])⟩
     refine ks<|ko [U,U]<|kL (h.pick 2) 3<|ko [vI (((ag p0.aq kD.toNat).Code.length:Nat):Int),vI (wi ((((ag p0.aq kD.toNat).Code.length:Nat):Int)-1)),.agg #[vI 53,vI kD,vI (wi ((((ag p0.aq kD.toNat).Code.length:Nat):Int)-1))]]<|qh h.m1 λh=>kA h (pts b2 (.cells #[vI 53,vI kD,vI (wi ((((ag p0.aq kD.toNat).Code.length:Nat):Int)-1))] 95)) λw h=>kn<|wr<|br<|tr<|tr<|br<|tr<|kC h<|?_;replace H:=sQ H OT;replace H:=sQ H OS;cases H;exact⟨rfl,h.se 3 []⟩
    clear h r;rintro _ a w ⟨rfl,j,r,h⟩;replace H:=AX OT;refine qq r<|wl<|ko [U,vI (wi (kD+1)),vI (wi (kD+1))]<|kn<|?_;exact λ_ r=>⟨_,⟨(wi (kD+1)),H,r.fj h⟩,Nat.lt_succ_self _⟩
   refine wx<|te<|te<|bh<|tn<|?_;exact λ_ r=>⟨(),gH H,r.fj h⟩
 clear h r;rintro _ a w ⟨rfl,j,r,h⟩;replace H:=AX OS;refine qq r<|wq<|ks<|ko [U]<|kn<|wb<|λ_ r=>dP (β:=Nat) id (λm a w=>∃lH:Int,(ja K p0 m lH)=some r0∧∃j,kP 131 (lk [(1,pA b1 0),(2,pA b2 0),(9,vI lH)] j) a∧Fit z (an (pts b1 (.cells #[.slice bG p0.aq.length cr] 24)::pts b2 (.cells #[vI 0,vI 0,vI 0] 95)::L)) w) K ⟨0,H,r.fj h⟩<|?_;clear h r H;rintro k4 a w ⟨lH,H,j,r,h⟩;cases k4 with
 | zero=>exact absurd H (by simp[ja])
 | succ k4 =>
  rw[ja]at H;refine qq r<|wq<|ks<|ko [U,U]<|kL h 0<|ko [vI ((p0.aq.length:Nat):Int),vB (decide (lH<((p0.aq.length:Nat):Int)))]<|kn<|dR H (λQr H=>?_) λQr H=>?_
  ·refine wk<|tn<|?_;obtain⟨o40,H,UN⟩:=AW H;refine λ_ r=>dw (β:=Unit) (λ_ a w=>.inl ()=o40∧∃j,kP 131 (lk [(1,pA b1 0),(2,pA b2 0),(9,vI lH)] j) a∧Fit z (an (pts b1 (.cells #[.slice bG p0.aq.length cr] 24)::pts b2 (.cells #[vI 0,vI 0,vI 0] 95)::L)) w) ?_ ?_
   ·refine qq r<|wb<|ks<|ko [U]<|kL h 0<|qg H λFp H=>ko [U]<|kp (pA (bg bG) (jY bG+lH.toNat*4)) (vG (k:=.i64) (E:=99) (cc:=cr) rfl (by kernel_rfl) (by kernel_rfl) rfl (by kernel_rfl) (by kernel_rfl) aZ Fp)<|λ_ r=>tK (wn rfl) r (.agg #[vI (ag p0.aq lH.toNat).aU,vI (ag p0.aq lH.toNat).cO,vI (ag p0.aq lH.toNat).bJ,.slice ((aM lH.toNat).1) (ag p0.aq lH.toNat).Code.length ((aM lH.toNat).2)]) (cs:=[vI (ag p0.aq lH.toNat).aU,vI (ag p0.aq lH.toNat).cO,vI (ag p0.aq lH.toNat).bJ,.slice ((aM lH.toNat).1) (ag p0.aq lH.toNat).Code.length ((aM lH.toNat).2)]) ⟨aZ.cell Fp (h.dn 2) 0 rfl,aZ.cell Fp (h.dn 2) 1 rfl,aZ.cell Fp (h.dn 2) 2 rfl,aZ.cell Fp (h.dn 2) 3 rfl,gE⟩<|?_;refine kN h (#[vI 0,vI 0,vI 0,.slice none 0 0]) 99 λUO w h=>kA h (n5 UO (ag p0.aq lH.toNat) ((aM lH.toNat).1) ((aM lH.toNat).2)) λw h=>kn<|ks<|kM h<|fO H λGg Yh H=>Ri (xC (aW:=((aM lH.toNat).1)) (bz:=((aM lH.toNat).2)) (ct:=(cu.up 3 (aZ.tj Fp))) (H:=Yh) (h:=h) :) λOU UP w h=>ko [U]<|kn<|ks<|ko [U]<|kn<|wb<|λ_ r=>dP (β:=Nat) id (λm a w=>∃mI:Int,(hJ K p0 lH Gg m mI)=some o40∧∃j,kP 131 (lk [(1,pA b1 0),(2,pA b2 0),(9,vI lH),(10,pA UO 0),(11,.slice OU Gg.length UP),(12,vI mI)] j) a∧Fit z (an (pts b1 (.cells #[.slice bG p0.aq.length cr] 24)::pts b2 (.cells #[vI 0,vI 0,vI 0] 95)::n5 UO (ag p0.aq lH.toNat) ((aM lH.toNat).1) ((aM lH.toNat).2)::En OU UP Gg::L)) w) K ⟨0,H,r.fj (h.se 4 [2,3,1,0])⟩<|?_;clear h r H;rintro k5 a w ⟨mI,H,j,r,h⟩;cases k5 with
    | zero=>exact absurd H (by simp[hJ])
    | succ k5 =>
     rw[hJ]at H;refine qq r<|wq<|ks<|ko [U,U]<|kL (h.pick 2) 3<|ko [vI (((ag p0.aq lH.toNat).Code.length:Nat):Int),vB (decide (mI<(((ag p0.aq lH.toNat).Code.length:Nat):Int)))]<|kn<|dR H (λMG H=>?_) λMG H=>?_
     ·refine wk<|tn<|wq<|wb<|wq<|qg H λDW H=>qg H λOR H=>?_;obtain⟨aaM,h⟩:=h.m3.lU (bf OR);obtain⟨wN,wO,e53,h⟩:=kZ (h.m1);subst e53;refine fO H λEx e56 H=>λ_ r=>fy [(UO,3,[.slice ((aM lH.toNat).1) (ag p0.aq lH.toNat).Code.length ((aM lH.toNat).2)]),(bg ((aM lH.toNat).1),jY ((aM lH.toNat).1)+mI.toNat*5,fY (ag (ag p0.aq lH.toNat).Code mI.toNat)),(bg OU,mI.toNat*1,[.slice wN (ag Gg mI.toNat).length wO])] [0,3,7] 11 h (λh=>⟨⟨(h.pick 4).cell 3 rfl,gE⟩,⟨(aZ.tj Fp).cell DW (h.dn 5) 0 rfl,(aZ.tj Fp).cell DW (h.dn 5) 1 rfl,(aZ.tj Fp).cell DW (h.dn 5) 2 rfl,(aZ.tj Fp).cell DW (h.dn 5) 3 rfl,(aZ.tj Fp).cell DW (h.dn 5) 4 rfl,gE⟩,⟨(h.pick 1).nI (by decide) (f:=0) rfl,gE⟩,gE⟩) λw h hd =>qq r<|gg hd 7 [(0,114,pA UO 3),(2,116,vI mI),(5,119,.slice OU Gg.length UP),(6,120,vI mI)]<|λ_ r=>mJ hd 6 7 rfl (wn rfl) r (pA (bg OU) (mI.toNat*1)) (hrun:=λw=>sR (k:=.i64) (E:=28) rfl (by kernel_rfl) (by kernel_rfl) (by kernel_rfl) (by kernel_rfl) (h.pick 1) OR)<|?_;refine kx hd 0 5 1 rfl rfl<|λ_ r=>mJ hd 4 3 rfl (wn rfl) r (pA (bg ((aM lH.toNat).1)) (jY ((aM lH.toNat).1)+mI.toNat*5)) (hrun:=λw=>xW (k:=.i64) (E:=146) (cc:=((aM lH.toNat).2)) rfl (by kernel_rfl) (by kernel_rfl) rfl (by kernel_rfl) (by kernel_rfl) (aZ.tj Fp) DW)<|?_;refine tL hd 1 3 4 rfl rfl<|kx hd 2 2 8 rfl rfl<|λ_ r=>eZ 9 rfl<|qq r<|eU (um (Jt:=wN) (Ju:=wO) (Ky:=(cu.L2 bq h (λh=>h))) (H:=e56) (h:=h) :) λw h=>kn<|λ_ r=>xE<|gU 0 10 rfl (wn rfl) r (vI Ex)<|?_;refine λ_ r=>ji<|qq r<|tn<|ks<|ko [U,vB (Ex != 0)]<|kn<|oA H (λOV H=>?_) λOV H=>?_
      ·refine wk<|bn<|tn<|wl<|ko [U,vI (wi (mI+1)),vI (wi (mI+1))]<|kn<|?_;replace h:=gJ (x:=(ag Gg mI.toNat)) h;replace h:=(h.m1).gA;exact λ_ r=>⟨_,⟨(wi (mI+1)),H,r.fj (h.se 4 [1,2,3,0])⟩,Nat.lt_succ_self _⟩
      refine ks<|ko [U,U,U,U]<|qh h.m3 λh=>kA h (pts b2 (.cells #[vI Ex,vI lH,vI mI] 95)) λw h=>kn<|wr<|br<|tr<|tr<|br<|br<|tr<|tr<|br<|tr<|kC h<|qh h.m2.m2 λh=>?_;replace h:=gJ (x:=(ag Gg mI.toNat)) h;replace h:=(h.m1).gA;replace H:=sQ H UN;cases H;exact⟨rfl,h.se 4 []⟩
     refine wx<|te<|te<|bh<|bn<|tn<|?_;exact λ_ r=>⟨(),gH H,r.fj (h.se 4 [0,1])⟩
   clear h r;rintro _ a w ⟨rfl,j,r,h⟩;replace H:=AX UN;refine qq r<|wl<|ko [U,vI (wi (lH+1)),vI (wi (lH+1))]<|kn<|?_;exact λ_ r=>⟨_,⟨(wi (lH+1)),H,r.fj h⟩,Nat.lt_succ_self _⟩
  refine wx<|te<|te<|bh<|tn<|ks<|ko [U]<|qh h.m1 λh=>kA h (pts b2 (.cells #[vI 0,vI 0,vI 0] 95)) λw h=>kn<|wr<|kC h<|?_;cases H;exact⟨rfl,h.se 2 []⟩
def jK(K:Nat)(p0:aO)(p1:List Int)(p2:Int)(p3:cY):Option (Int):=
 eL (mV K p0) (λr3=>(if r3.Kp=0 then if bT (0:Int) p0.aq.length then(if((p1.length:Nat):Int)=(ag p0.aq 0).aU then(if p2<1 then some 110 else(if p2>64 then some 110 else eL (hU p3) (λsx=>(if sx=true then some 111 else some 0))))else some 61)else none else some 60))
theorem pY{K:Nat}{p0:aO}{p1:List Int}{p2 r0:Int}{p3:cY}{bG Jt:Option Addr}{cr Ju:Nat}{aM:Nat→Option Addr×Nat}(H:jK K p0 p1 p2 p3=some r0)(h:Fit z (an (L)) w)(aZ:B5 L bG aM p0.aq)(Ky:cu L 1 dK Jt p1) :
 Calls Tryz.prog 16 #[.agg #[.slice bG p0.aq.length cr],.slice Jt p1.length Ju,vI p2,jA p3] w λe w=>e=.returned (vI r0)∧Fit z (an (L)) w:=by
 unfold jK at H;refine ke Tryz.func16 35 rfl λj=>ks<|kN h (#[.slice bG p0.aq.length cr]) 24 λb1 w h=>kN h (kg p3) 27 λb2 w h=>ko [U]<|kn<|ks<|λ_ r=>tK (wn rfl) r (.agg #[.slice bG p0.aq.length cr]) (cs:=[.slice bG p0.aq.length cr]) ⟨(h.pick 1).cell 0 rfl,gE⟩<|?_;refine fO H λr3 e4 H=>eU (wM (bG:=bG) (cr:=cr) (aZ:=(xw.up 2 aZ)) (aM:=aM) (H:=e4) (h:=h) :) λw h=>kN h (#[vI 0,vI 0,vI 0]) 95 λb5 w h=>kA h (Yc b5 r3) λw h=>kn<|wq<|wb<|ks<|ko [U]<|kL h 0<|ko [vB (r3.Kp != 0),vB (r3.Kp != 0)]<|kn<|oA H (λc6 H=>?_) λc6 H=>?_
 ·refine ks<|ko [U,vI ((p1.length:Nat):Int),U]<|kL (h.pick 2) 0<|qg H λc7 H=>kp (pA (bg bG) (jY bG+0*4)) (vG (k:=.i64) (E:=99) (cc:=cr) rfl (by kernel_rfl) (by kernel_rfl) rfl (by kernel_rfl) (by kernel_rfl) aZ c7)<|ko [U]<|λ_ r=>ld (wn rfl) r (vI (ag p0.aq 0).aU) (aZ.cell c7 (h.dn 3) 0 rfl)<|?_;refine ko [vB (((p1.length:Nat):Int) != (ag p0.aq 0).aU),vB (((p1.length:Nat):Int) != (ag p0.aq 0).aU)]<|kn<|oA H (λc8 H=>?_) λc8 H=>?_
  ·refine ks<|ko [U,vB (decide (p2<1)),vB (decide (p2<1))]<|qI H (λc9 H=>?_) λc9 H=>?_
   ·refine bZ (dT c9) [29,30]<|mH (dT c9) (vB true)<|ko [U]<|kn<|λ_ r=>gb r (b:=true) rfl<|qq r<|ks<|ko [U]<|kn<|wr<|br<|tr<|?_;cases H;exact gu (h.se 3 [])
   refine cS (dF c9) [29,30] [vI p2,vB (decide (p2>64))]<|mF (dF c9) (vB (decide (p2>64)))<|ko [vB (decide (p2>64))]<|kn<|dR H (λnV H=>?_) λnV H=>?_
   ·refine ks<|ko [U]<|kn<|wr<|br<|tr<|?_;cases H;exact gu (h.se 3 [])
   refine ks<|kM (h.pick 1)<|fO H λsx Aa H=>eU (oV (H:=Aa) (h:=h) :) λw h=>ko [U]<|kn<|De H (λvk H=>?_) λvk H=>?_
   ·refine ks<|ko [U]<|kn<|wr<|br<|tr<|?_;cases H;exact gu (h.se 3 [])
   refine wk<|bn<|tn<|ks<|ko [U]<|kn<|wr<|?_;cases H;exact gu (h.se 3 [])
  refine ks<|ko [U]<|kn<|wr<|br<|tr<|?_;cases H;exact gu (h.se 3 [])
 refine ks<|ko [U]<|kn<|wr<|br<|tr<|?_;cases H;exact gu (h.se 3 [])
def qu(p0:aG):Option (Bool):=
 vg ((if p0.aU<0 then some (.inr false)else(if p0.aU>8 then some (.inr false)else(if p0.cO<1 then some (.inr false)else(if p0.cO<p0.aU then some (.inr false)else(if p0.cO>16 then some (.inr false)else some (.inl ()))))))) ((if p0.bJ≥0 then(if p0.bJ≤8 then(if((p0.Code.length:Nat):Int)≥1 then some (decide (((p0.Code.length:Nat):Int)≤512))else some false)else some false)else some false))
theorem Bd{p0:aG}{aW:Option Addr}{bz:Nat}{r0:Bool}(H:qu p0=some r0)(h:Fit z (an (L)) w)(ct:cu L 5 cA aW p0.Code) :
 Calls Tryz.prog 114 #[.agg #[vI p0.aU,vI p0.cO,vI p0.bJ,.slice aW p0.Code.length bz]] w λe w=>e=.returned (vB r0)∧Fit z (an (L)) w:=by
 unfold qu at H;refine ke Tryz.func114 48 rfl λj=>ks<|kN h (#[vI p0.aU,vI p0.cO,vI p0.bJ,.slice aW p0.Code.length bz]) 99 λb1 w h=>ko [U]<|kn<|?_;obtain⟨o3,H,z9⟩:=AW H;refine λ_ r=>dw (β:=Unit) (λ_ a w=>.inl ()=o3∧∃j,kP 48 (lk [(1,pA b1 0)] j) a∧Fit z (an (n5 b1 p0 aW bz::L)) w) ?_ ?_
 ·refine qq r<|ks<|ko [U]<|kL h 0<|ko [vB (decide (p0.aU<0)),vB (decide (p0.aU<0))]<|qI H (λc4 H=>?_) λc4 H=>?_
  ·refine bZ (dT c4) [7,8,9]<|mH (dT c4) (vB true)<|ko [U]<|bZ (rfl:true=true) [12,13,14]<|ko [U,U]<|bZ (rfl:true=true) [17,18,19,20,21]<|ko [U,U]<|bZ (rfl:true=true) [24,25,26]<|ko [U]<|kn<|λ_ r=>gb r (b:=true) rfl<|qq r<|ks<|ko [U]<|kn<|wr<|tr<|λ_ r=>ez (v:=vB false) rfl r (by kernel_rfl)<|?_;replace H:=sQ H z9;cases H;exact⟨rfl,h.se 1 []⟩
  refine cS (dF c4) [7] [pA b1 0]<|q9 (dF c4) h 0<|cS (dF c4) [9] [vB (decide (p0.aU>8))]<|mF (dF c4) (vB (decide (p0.aU>8)))<|ko [vB (decide (p0.aU>8))]<|qI H (λc5 H=>?_) λc5 H=>?_
  ·refine bZ (dT c5) [12,13,14]<|mH (dT c5) (vB true)<|ko [U]<|bZ (rfl:true=true) [17,18,19,20,21]<|ko [U,U]<|bZ (rfl:true=true) [24,25,26]<|ko [U]<|kn<|λ_ r=>gb r (b:=true) rfl<|qq r<|ks<|ko [U]<|kn<|wr<|tr<|λ_ r=>ez (v:=vB false) rfl r (by kernel_rfl)<|?_;replace H:=sQ H z9;cases H;exact⟨rfl,h.se 1 []⟩
  refine cS (dF c5) [12] [pA b1 1]<|q9 (dF c5) h 1<|cS (dF c5) [14] [vB (decide (p0.cO<1))]<|mF (dF c5) (vB (decide (p0.cO<1)))<|ko [vB (decide (p0.cO<1))]<|qI H (λc6 H=>?_) λc6 H=>?_
  ·refine bZ (dT c6) [17,18,19,20,21]<|mH (dT c6) (vB true)<|ko [U]<|bZ (rfl:true=true) [24,25,26]<|ko [U]<|kn<|λ_ r=>gb r (b:=true) rfl<|qq r<|ks<|ko [U]<|kn<|wr<|tr<|λ_ r=>ez (v:=vB false) rfl r (by kernel_rfl)<|?_;replace H:=sQ H z9;cases H;exact⟨rfl,h.se 1 []⟩
  refine cS (dF c6) [17] [pA b1 1]<|q9 (dF c6) h 1<|cS (dF c6) [19] [pA b1 0]<|q9 (dF c6) h 0<|cS (dF c6) [21] [vB (decide (p0.cO<p0.aU))]<|mF (dF c6) (vB (decide (p0.cO<p0.aU)))<|ko [vB (decide (p0.cO<p0.aU))]<|qI H (λc7 H=>?_) λc7 H=>?_
  ·refine bZ (dT c7) [24,25,26]<|mH (dT c7) (vB true)<|kn<|λ_ r=>gb r (b:=true) rfl<|qq r<|ks<|ko [U]<|kn<|wr<|tr<|λ_ r=>ez (v:=vB false) rfl r (by kernel_rfl)<|?_;replace H:=sQ H z9;cases H;exact⟨rfl,h.se 1 []⟩
  refine cS (dF c7) [24] [pA b1 1]<|q9 (dF c7) h 1<|cS (dF c7) [26] [vB (decide (p0.cO>16))]<|mF (dF c7) (vB (decide (p0.cO>16)))<|kn<|dR H (λc8 H=>?_) λc8 H=>?_
  ·refine ks<|ko [U]<|kn<|wr<|tr<|λ_ r=>ez (v:=vB false) rfl r (by kernel_rfl)<|?_;replace H:=sQ H z9;cases H;exact⟨rfl,h.se 1 []⟩
  refine wk<|tn<|?_;exact λ_ r=>⟨(),gH H,r.fj h⟩
 clear h r;rintro _ a w ⟨rfl,j,r,h⟩;replace H:=AX z9;refine qq r<|ks<|ko [U]<|kL h 2<|ko [vB (decide (p0.bJ≥0)),vB (decide (p0.bJ≥0))]<|qI H (λc9 H=>?_) λc9 H=>?_
 ·refine cS (dT c9) [32] [pA b1 2]<|q9 (dT c9) h 2<|cS (dT c9) [34] [vB (decide (p0.bJ≤8))]<|mH (dT c9) (vB (decide (p0.bJ≤8)))<|ko [vB (decide (p0.bJ≤8))]<|qI H (λnV H=>?_) λnV H=>?_
  ·refine cS (dT nV) [37] [pA b1 3]<|q9 (dT nV) h 3<|cS (dT nV) [39,40] [vI ((p0.Code.length:Nat):Int),vB (decide (((p0.Code.length:Nat):Int)≥1))]<|mH (dT nV) (vB (decide (((p0.Code.length:Nat):Int)≥1)))<|ko [vB (decide (((p0.Code.length:Nat):Int)≥1))]<|qI H (λsH H=>?_) λsH H=>?_
   ·refine cS (dT sH) [43] [pA b1 3]<|q9 (dT sH) h 3<|cS (dT sH) [45,46] [vI ((p0.Code.length:Nat):Int),vB (decide (((p0.Code.length:Nat):Int)≤512))]<|mH (dT sH) (vB (decide (((p0.Code.length:Nat):Int)≤512)))<|ko [vB (decide (((p0.Code.length:Nat):Int)≤512))]<|kn<|wr<|?_;cases H;exact gu (h.se 1 [])
   refine bZ (dF sH) [43,44,45,46]<|mF (dF sH) (vB false)<|ko [U]<|kn<|wr<|?_;cases H;exact gu (h.se 1 [])
  refine bZ (dF nV) [37,38,39,40]<|mF (dF nV) (vB false)<|ko [U]<|bZ (rfl:false=false) [43,44,45,46]<|ko [U,U]<|kn<|wr<|?_;cases H;exact gu (h.se 1 [])
 refine bZ (dF c9) [32,33,34]<|mF (dF c9) (vB false)<|ko [U]<|bZ (rfl:false=false) [37,38,39,40]<|ko [U,U]<|bZ (rfl:false=false) [43,44,45,46]<|ko [U,U]<|kn<|wr<|?_;cases H;exact gu (h.se 1 [])
def tc(p0:Int)(p1:Int)(p2:aG)(p3:Int):Option (Bool):=
 (if p0=0 then some true else(if p0=1 then(if p1≥0 then some (decide (p1<p2.cO))else some false)else(if p0=2 then(if p1≥0 then some (decide (p1<p2.bJ))else some false)else(if p0=3 then(if p1≥0 then some (decide (p1<((p2.Code.length:Nat):Int)))else some false)else(if p0=5 then(if p1≥0 then some (decide (p1<16))else some false)else(if p0=4 then(if p3<0 then some true else(if p1≥0 then some (decide (p1<p3))else some false))else(if p1≥0 then some (decide (p1<0))else some false)))))))
theorem vl{p0 p1 p3:Int}{p2:aG}{uS:Option Addr}{wP:Nat}{r0:Bool}(H:tc p0 p1 p2 p3=some r0)(h:Fit z (an (L)) w)(Cd:cu L 5 cA uS p2.Code) :
 Calls Tryz.prog 197 #[vI p0,vI p1,.agg #[vI p2.aU,vI p2.cO,vI p2.bJ,.slice uS p2.Code.length wP],vI p3] w λe w=>e=.returned (vB r0)∧Fit z (an (L)) w:=by
 unfold tc at H;refine ke Tryz.func197 40 rfl λj=>ks<|kN h (#[vI p2.aU,vI p2.cO,vI p2.bJ,.slice uS p2.Code.length wP]) 99 λb1 w h=>ko [U]<|kn<|ks<|ko [U]<|kn<|wq<|ks<|ko [U]<|kn<|wb<|ks<|ko [vB (p0==0),vB (p0==0)]<|kn<|dR H (λc2 H=>?_) λc2 H=>?_
 ·refine ks<|ko [U]<|kn<|wr<|br<|tr<|?_;cases H;exact gu (h.se 1 [])
 refine ks<|ko [vB (p0==1),vB (p0==1)]<|kn<|dR H (λc3 H=>?_) λc3 H=>?_
 ·refine wl<|ko [U]<|kL h 1<|ko [U]<|kl<|bn<|tn<|ks<|ko [U,vB (decide (p1≥0)),vB (decide (p1≥0))]<|qI H (λc4 H=>?_) λc4 H=>?_
  ·refine cS (dT c4) [36,37,38] [vI p1,vI p2.cO,vB (decide (p1<p2.cO))]<|mH (dT c4) (vB (decide (p1<p2.cO)))<|ko [vB (decide (p1<p2.cO))]<|kn<|wr<|?_;cases H;exact gu (h.se 1 [])
  refine bZ (dF c4) [36,37,38]<|mF (dF c4) (vB false)<|ko [U]<|kn<|wr<|?_;cases H;exact gu (h.se 1 [])
 refine ks<|ko [vB (p0==2),vB (p0==2)]<|kn<|dR H (λc5 H=>?_) λc5 H=>?_
 ·refine wl<|ko [U]<|kL h 2<|ko [U]<|kl<|bn<|tn<|ks<|ko [U,vB (decide (p1≥0)),vB (decide (p1≥0))]<|qI H (λc6 H=>?_) λc6 H=>?_
  ·refine cS (dT c6) [36,37,38] [vI p1,vI p2.bJ,vB (decide (p1<p2.bJ))]<|mH (dT c6) (vB (decide (p1<p2.bJ)))<|ko [vB (decide (p1<p2.bJ))]<|kn<|wr<|?_;cases H;exact gu (h.se 1 [])
  refine bZ (dF c6) [36,37,38]<|mF (dF c6) (vB false)<|ko [U]<|kn<|wr<|?_;cases H;exact gu (h.se 1 [])
 refine ks<|ko [vB (p0==3),vB (p0==3)]<|kn<|dR H (λc7 H=>?_) λc7 H=>?_
 ·refine wl<|ko [U]<|kL h 3<|ko [vI ((p2.Code.length:Nat):Int),vI ((p2.Code.length:Nat):Int)]<|kl<|bn<|tn<|ks<|ko [U,vB (decide (p1≥0)),vB (decide (p1≥0))]<|qI H (λc8 H=>?_) λc8 H=>?_
  ·refine cS (dT c8) [36,37,38] [vI p1,vI ((p2.Code.length:Nat):Int),vB (decide (p1<((p2.Code.length:Nat):Int)))]<|mH (dT c8) (vB (decide (p1<((p2.Code.length:Nat):Int))))<|ko [vB (decide (p1<((p2.Code.length:Nat):Int)))]<|kn<|wr<|?_;cases H;exact gu (h.se 1 [])
  refine bZ (dF c8) [36,37,38]<|mF (dF c8) (vB false)<|ko [U]<|kn<|wr<|?_;cases H;exact gu (h.se 1 [])
 refine ks<|ko [vB (p0==5),vB (p0==5)]<|kn<|dR H (λc9 H=>?_) λc9 H=>?_
 ·refine wl<|ko [U]<|kl<|bn<|tn<|ks<|ko [U,vB (decide (p1≥0)),vB (decide (p1≥0))]<|qI H (λnV H=>?_) λnV H=>?_
  ·refine cS (dT nV) [36,37,38] [vI p1,vI 16,vB (decide (p1<16))]<|mH (dT nV) (vB (decide (p1<16)))<|ko [vB (decide (p1<16))]<|kn<|wr<|?_;cases H;exact gu (h.se 1 [])
  refine bZ (dF nV) [36,37,38]<|mF (dF nV) (vB false)<|ko [U]<|kn<|wr<|?_;cases H;exact gu (h.se 1 [])
 refine ks<|ko [vB (p0==4),vB (p0==4)]<|kn<|dR H (λsH H=>?_) λsH H=>?_
 ·refine wq<|ks<|ko [U,vB (decide (p3<0))]<|kn<|dR H (λzQ H=>?_) λzQ H=>?_
  ·refine ks<|ko [U]<|kn<|wr<|tr<|br<|tr<|?_;cases H;exact gu (h.se 1 [])
  refine wk<|tn<|wl<|ko [U,U]<|kl<|bn<|tn<|ks<|ko [U,vB (decide (p1≥0)),vB (decide (p1≥0))]<|qI H (λvk H=>?_) λvk H=>?_
  ·refine cS (dT vk) [36,37,38] [vI p1,vI p3,vB (decide (p1<p3))]<|mH (dT vk) (vB (decide (p1<p3)))<|ko [vB (decide (p1<p3))]<|kn<|wr<|?_;cases H;exact gu (h.se 1 [])
  refine bZ (dF vk) [36,37,38]<|mF (dF vk) (vB false)<|ko [U]<|kn<|wr<|?_;cases H;exact gu (h.se 1 [])
 refine wk<|bn<|tn<|ks<|ko [U,vB (decide (p1≥0)),vB (decide (p1≥0))]<|qI H (λza H=>?_) λza H=>?_
 ·refine cS (dT za) [36,37,38] [vI p1,vI 0,vB (decide (p1<0))]<|mH (dT za) (vB (decide (p1<0)))<|ko [vB (decide (p1<0))]<|kn<|wr<|?_;cases H;exact gu (h.se 1 [])
 refine bZ (dF za) [36,37,38]<|mF (dF za) (vB false)<|ko [U]<|kn<|wr<|?_;cases H;exact gu (h.se 1 [])
def qv(p0:bW)(p1:aG)(p2:List aG):Option (Bool):=
 vg ((if p0.aa6<0 then some (.inr false)else(if p0.aa6≥10 then some (.inr false)else some (.inl ())))) (if bT p0.aa6 tY.length then Hz (if 0<p2.length then some ()else none) (vg (eL (tc (ag tY p0.aa6.toNat).a p0.A p1 ((p2.length:Nat):Int)) (λgV=>(if gV=true then eL (tc (ag tY p0.aa6.toNat).b p0.B p1 ((p2.length:Nat):Int)) (λzf=>(if zf=true then eL (tc (ag tY p0.aa6.toNat).c p0.C p1 ((p2.length:Nat):Int)) (λyf=>(if yf=true then some (.inl ())else some (.inr false)))else some (.inr false)))else some (.inr false)))) (vg ((if(ag tY p0.aa6.toNat).k=5 then(if p0.K<0 then some (.inr false)else(if p0.K≥16 then some (.inr false)else some (.inl ())))else some (.inl ()))) (eL ((if p0.aa6=5 then if 0<p2.length then some true else none else some false)) (λUQ=>(if UQ=true then if bT p0.B p2.length then(if(ag p2 p0.B.toNat).aU=0 then some true else(if p0.C≥0 then some (decide (p0.C≤(wi (p1.cO-(ag p2 p0.B.toNat).aU))))else some false))else none else some true)))))else none)
end
end Mo
end
section
namespace Mo
open Go Go.RowKit SL GX
set_option maxRecDepth 100000
set_option maxHeartbeats 4000000
noncomputable section
variable {z w:World}{L:List bE}
theorem vK{p0:bW}{p1:aG}{p2:List aG}{cz tT:Option Addr}{cE uq:Nat}{MI:Nat→Option Addr×Nat}{r0:Bool}(H:qv p0 p1 p2=some r0)(h:Fit z (an (L)) w)(dN:cu L 5 cA cz p1.Code)(Be:B5 L tT MI p2)(sS:cu L 5 gh (some ⟨1,0,none⟩) tY) :
 Calls Tryz.prog 168 #[gP p0,.agg #[vI p1.aU,vI p1.cO,vI p1.bJ,.slice cz p1.Code.length cE],.slice tT p2.length uq] w λe w=>e=.returned (vB r0)∧Fit z (an (L)) w:=by
 unfold qv at H;refine ke Tryz.func168 96 rfl λj=>ks<|kN h (mg p0) 146 λb1 w h=>kN h (#[vI p1.aU,vI p1.cO,vI p1.bJ,.slice cz p1.Code.length cE]) 99 λb2 w h=>ko [U]<|kn<|?_;obtain⟨o4,H,HR⟩:=AW H;refine λ_ r=>dw (β:=Unit) (λ_ a w=>.inl ()=o4∧∃j,kP 96 (lk [(2,.slice tT p2.length uq),(3,pA b1 0),(4,pA b2 0)] j) a∧Fit z (an (tv b1 p0::n5 b2 p1 cz cE::L)) w) ?_ ?_
 ·refine qq r<|ks<|ko [U]<|kL (h.pick 1) 0<|ko [vB (decide (p0.aa6<0)),vB (decide (p0.aa6<0))]<|qI H (λc5 H=>?_) λc5 H=>?_
  ·refine bZ (dT c5) [14,15,16]<|mH (dT c5) (vB true)<|kn<|λ_ r=>gb r (b:=true) rfl<|qq r<|ks<|ko [U]<|kn<|wr<|tr<|λ_ r=>ez (v:=vB false) rfl r (by kernel_rfl)<|?_;replace H:=sQ H HR;cases H;exact⟨rfl,h.se 2 []⟩
  refine cS (dF c5) [14] [pA b1 0]<|q9 (dF c5) (h.pick 1) 0<|cS (dF c5) [16] [vB (decide (p0.aa6≥10))]<|mF (dF c5) (vB (decide (p0.aa6≥10)))<|kn<|dR H (λc6 H=>?_) λc6 H=>?_
  ·refine ks<|ko [U]<|kn<|wr<|tr<|λ_ r=>ez (v:=vB false) rfl r (by kernel_rfl)<|?_;replace H:=sQ H HR;cases H;exact⟨rfl,h.se 2 []⟩
  refine wk<|tn<|?_;exact λ_ r=>⟨(),gH H,r.fj (h.se 2 [1,0])⟩
 clear h r;rintro _ a w ⟨rfl,j,r,h⟩;replace H:=AX HR;refine qq r<|ks<|ko [U]<|kL h 0<|qg H λc7 H=>kp (pA (bg (some ⟨1,0,none⟩)) (p0.aa6.toNat*5)) (HB (xs:=tY) (k:=.i64) (E:=249) rfl (by kernel_rfl) (by kernel_rfl) (by kernel_rfl) (by kernel_rfl) rfl c7)<|λ_ r=>tK (wn rfl) r (Ep (ag tY p0.aa6.toNat)) (cs:=Eo (ag tY p0.aa6.toNat)) ⟨sS.BU c7 (h.dn 2) 0 rfl,sS.BU c7 (h.dn 2) 1 rfl,sS.BU c7 (h.dn 2) 2 rfl,sS.BU c7 (h.dn 2) 3 rfl,sS.BU c7 (h.dn 2) 4 rfl,gE⟩<|?_;refine kN h (#[vI 0,vI 0,vI 0,vI 0,vB false]) 249 λb8 w h=>kA h (MC b8 (ag tY p0.aa6.toNat)) λw h=>kn<|ks<|ko [U,vI ((p2.length:Nat):Int),vI ((p2.length:Nat):Int)]<|kn<|qd0 H λo10 H hK9=>λ_ r=>dw (β:=Unit) (λ_ a w=>()=o10∧∃j,kP 96 (lk [(2,.slice tT p2.length uq),(3,pA b1 0),(4,pA b2 0),(7,pA b8 0),(8,vI ((p2.length:Nat):Int))] j) a∧Fit z (an (tv b1 p0::n5 b2 p1 cz cE::MC b8 (ag tY p0.aa6.toNat)::L)) w) ?_ ?_
 ·refine qq r<|ks<|qg H λsH H=>ko [U]<|kp (vB false) (Oy (n0:=p2.length) (cc:=uq) rfl (by kernel_rfl) (by kernel_rfl) (E:=99) (by kernel_rfl) (Be.ne sH))<|kn<|λ_ r=>ik r (b:=false) rfl<|qq r<|wk<|tn<|?_;exact λ_ r=>⟨(),gH H,r.fj (h.se 3 [1,2,0])⟩
 clear h r;rintro _ a w ⟨rfl,j,r,h⟩;replace H:=kk0 hK9;obtain⟨o13,H,OW⟩:=AW H;refine dw (β:=Unit) (λ_ a w=>.inl ()=o13∧∃j,kP 96 (lk [(2,.slice tT p2.length uq),(3,pA b1 0),(4,pA b2 0),(7,pA b8 0)] j) a∧Fit z (an (tv b1 p0::n5 b2 p1 cz cE::MC b8 (ag tY p0.aa6.toNat)::L)) w) ?_ ?_
 ·refine qq r<|ks<|ko [U]<|kL (h.pick 2) 0<|ko [U]<|kL h 1<|kM (h.pick 1)<|fO H λgV Gh H=>ko [vI ((p2.length:Nat):Int)]<|eU (vl (uS:=cz) (wP:=cE) (Cd:=(cu.up 3 dN)) (H:=Gh) (h:=h) :) λw h=>ko [vB (!gV),vB (!gV)]<|qI H (λtQ H=>?_) λtQ H=>?_
  ·refine cS (nT tQ) [35] [pA b8 1]<|q9 (nT tQ) (h.pick 2) 1<|cS (nT tQ) [37] [pA b1 2]<|q9 (nT tQ) h 2<|λ_ r=>tK (pX r (nT tQ)) r (.agg #[vI p1.aU,vI p1.cO,vI p1.bJ,.slice cz p1.Code.length cE]) (cs:=[vI p1.aU,vI p1.cO,vI p1.bJ,.slice cz p1.Code.length cE]) ((h.pick 1).held 0 rfl)<|?_;refine fO H λzf ye H=>cS (nT tQ) [40] [vI ((p2.length:Nat):Int)]<|Tf (nT tQ) (vl (uS:=cz) (wP:=cE) (Cd:=(cu.up 3 dN)) (H:=ye) (h:=h) :) λw h=>cS (nT tQ) [42] [vB (!zf)]<|mF (nT tQ) (vB (!zf))<|ko [vB (!zf)]<|qI H (λsy H=>?_) λsy H=>?_
   ·refine cS (nT sy) [45] [pA b8 2]<|q9 (nT sy) (h.pick 2) 2<|cS (nT sy) [47] [pA b1 3]<|q9 (nT sy) h 3<|λ_ r=>tK (pX r (nT sy)) r (.agg #[vI p1.aU,vI p1.cO,vI p1.bJ,.slice cz p1.Code.length cE]) (cs:=[vI p1.aU,vI p1.cO,vI p1.bJ,.slice cz p1.Code.length cE]) ((h.pick 1).held 0 rfl)<|?_;refine fO H λyf HW H=>cS (nT sy) [50] [vI ((p2.length:Nat):Int)]<|Tf (nT sy) (vl (uS:=cz) (wP:=cE) (Cd:=(cu.up 3 dN)) (H:=HW) (h:=h) :) λw h=>cS (nT sy) [52] [vB (!yf)]<|mF (nT sy) (vB (!yf))<|kn<|C3 H (λDl H=>?_) λDl H=>?_
    ·refine wk<|tn<|?_;exact λ_ r=>⟨(),gH H,r.fj h⟩
    refine ks<|ko [U]<|kn<|wr<|tr<|λ_ r=>ez (v:=vB false) rfl r (by kernel_rfl)<|?_;replace H:=sQ H OW;cases H;exact⟨rfl,h.se 3 []⟩
   refine bZ (nF sy) [45,46,47,48,49,50,51,52]<|mH (nF sy) (vB true)<|kn<|λ_ r=>gb r (b:=true) rfl<|qq r<|ks<|ko [U]<|kn<|wr<|tr<|λ_ r=>ez (v:=vB false) rfl r (by kernel_rfl)<|?_;replace H:=sQ H OW;cases H;exact⟨rfl,h.se 3 []⟩
  refine bZ (nF tQ) [35,36,37,38,39,40,41,42]<|mH (nF tQ) (vB true)<|ko [U]<|bZ (rfl:true=true) [45,46,47,48,49,50,51,52]<|ko [U]<|kn<|λ_ r=>gb r (b:=true) rfl<|qq r<|ks<|ko [U]<|kn<|wr<|tr<|λ_ r=>ez (v:=vB false) rfl r (by kernel_rfl)<|?_;replace H:=sQ H OW;cases H;exact⟨rfl,h.se 3 []⟩
 clear h r;rintro _ a w ⟨rfl,j,r,h⟩;replace H:=AX OW;obtain⟨WT,H,HU⟩:=AW H;refine dw (β:=Unit) (λ_ a w=>.inl ()=WT∧∃j,kP 96 (lk [(2,.slice tT p2.length uq),(3,pA b1 0),(4,pA b2 0)] j) a∧Fit z (an (tv b1 p0::n5 b2 p1 cz cE::L)) w) ?_ ?_
 ·refine qq r<|ks<|ko [U]<|kL (h.pick 2) 3<|ko [vB ((ag tY p0.aa6.toNat).k==5),vB ((ag tY p0.aa6.toNat).k==5)]<|qI H (λuO H=>?_) λuO H=>?_
  ·refine cS (beq_iff_eq.mpr uO) [58] [pA b1 4]<|λ_ r=>ld (pX r (beq_iff_eq.mpr uO)) r (vI p0.K) (h.cell 4 rfl)<|?_;refine cS (beq_iff_eq.mpr uO) [60,61] [vB (decide (p0.K<0)),vB (decide (p0.K<0))]<|qI H (λyd H=>?_) λyd H=>?_
   ·refine bZ (dT yd) [62,63,64]<|λ_ r=>Ov (pX r (beq_iff_eq.mpr uO)) r (vB true) (Kb (b:=(decide (p0.K<0))) rfl (by kernel_rfl) (dT yd) (by kernel_rfl))<|?_;refine mH (beq_iff_eq.mpr uO) (vB true)<|kn<|λ_ r=>gb r (b:=true) rfl<|qq r<|ks<|ko [U]<|kn<|wr<|tr<|λ_ r=>ez (v:=vB false) rfl r (by kernel_rfl)<|?_;replace H:=sQ H HU;cases H;exact⟨rfl,h.se 3 []⟩
   refine cS (dF yd) [62] [pA b1 4]<|q9 (dF yd) h 4<|cS (dF yd) [64] [vB (decide (p0.K≥16))]<|λ_ r=>Ov (pX r (beq_iff_eq.mpr uO)) r (vB (decide (p0.K≥16))) (Kc (b:=(decide (p0.K<0))) rfl (by kernel_rfl) (dF yd) (by kernel_rfl))<|?_;refine mH (beq_iff_eq.mpr uO) (vB (decide (p0.K≥16)))<|kn<|dR H (λoD H=>?_) λoD H=>?_
   ·refine ks<|ko [U]<|kn<|wr<|tr<|λ_ r=>ez (v:=vB false) rfl r (by kernel_rfl)<|?_;replace H:=sQ H HU;cases H;exact⟨rfl,h.se 3 []⟩
   refine wk<|tn<|?_;exact λ_ r=>⟨(),gH H,r.fj (h.se 3 [0,1])⟩
  refine bZ (bN uO) [58,59,60,61]<|Jl false [62,63,64]<|bZ (bN uO) [65]<|mF (bN uO) (vB false)<|kn<|λ_ r=>ik r (b:=false) rfl<|qq r<|wk<|tn<|?_;exact λ_ r=>⟨(),gH H,r.fj (h.se 3 [0,1])⟩
 clear h r;rintro _ a w ⟨rfl,j,r,h⟩;replace H:=AX HU;refine qq r<|wq<|El H λo30 H Yi=>λ_ r=>dw (β:=Unit) (λ_ a w=>∃UQ:Bool,UQ=o30∧∃j,kP 96 (lk [(2,.slice tT p2.length uq),(3,pA b1 0),(4,pA b2 0),(73,vB UQ)] j) a∧Fit z (an (tv b1 p0::n5 b2 p1 cz cE::L)) w) ?_ ?_
 ·refine qq r<|wl<|ko [U]<|kL h 0<|ko [vB (p0.aa6==5),vB (p0.aa6==5)]<|qI H (λuR H=>?_) λuR H=>?_
  ·refine qg H λB9 H=>cS (beq_iff_eq.mpr uR) [71] [.slice tT p2.length uq]<|λ_ r=>Ov (pX r (beq_iff_eq.mpr uR)) r (vB true) (Mb (n0:=p2.length) (cc:=uq) rfl (by kernel_rfl) (by kernel_rfl) (E:=99) (by kernel_rfl) (Be.ne B9))<|?_;refine mH (beq_iff_eq.mpr uR) (vB true)<|kn<|?_;exact λ_ r=>⟨(),true,gH H,r.fj h⟩
  refine bZ (bN uR) [71,72]<|mF (bN uR) (vB false)<|kn<|?_;exact λ_ r=>⟨(),false,gH H,r.fj h⟩
 clear h r;rintro _ a w ⟨UQ,rfl,j,r,h⟩;replace H:=Eg Yi;refine qq r<|De H (λxz H=>?_) λxz H=>?_
 ·refine ks<|ko [U,U]<|kL h 2<|qg H λzb H=>kp (pA (bg tT) (jY tT+p0.B.toNat*4)) (vG (k:=.i64) (E:=99) (cc:=uq) rfl (by kernel_rfl) (by kernel_rfl) rfl (by kernel_rfl) (by kernel_rfl) Be zb)<|ko [U]<|λ_ r=>ld (wn rfl) r (vI (ag p2 p0.B.toNat).aU) (Be.cell zb (h.dn 2) 0 rfl)<|?_;refine ko [U]<|kn<|ks<|ko [U,vB ((ag p2 p0.B.toNat).aU==0),vB ((ag p2 p0.B.toNat).aU==0)]<|qI H (λEy H=>?_) λEy H=>?_
  ·refine bZ (beq_iff_eq.mpr Ey) [83,84,85,86]<|Jl true [87,88,89,90,91,92,93]<|bZ (beq_iff_eq.mpr Ey) [94]<|mH (beq_iff_eq.mpr Ey) (vB true)<|ko [U]<|kn<|wr<|tr<|?_;cases H;exact gu (h.se 2 [])
  refine cS (bN Ey) [83] [pA b1 3]<|q9 (bN Ey) h 3<|cS (bN Ey) [85,86] [vB (decide (p0.C≥0)),vB (decide (p0.C≥0))]<|qI H (λHh H=>?_) λHh H=>?_
  ·refine cS (dT Hh) [87] [pA b1 3]<|q9 (dT Hh) h 3<|cS (dT Hh) [89] [pA b2 1]<|q9 (dT Hh) (h.pick 1) 1<|cS (dT Hh) [91,92,93] [vI (ag p2 p0.B.toNat).aU,vI (wi (p1.cO-(ag p2 p0.B.toNat).aU)),vB (decide (p0.C≤(wi (p1.cO-(ag p2 p0.B.toNat).aU))))]<|λ_ r=>Ov (pX r (bN Ey)) r (vB (decide (p0.C≤(wi (p1.cO-(ag p2 p0.B.toNat).aU))))) (Kb (b:=(decide (p0.C≥0))) rfl (by kernel_rfl) (dT Hh) (by kernel_rfl))<|?_;refine mF (bN Ey) (vB (decide (p0.C≤(wi (p1.cO-(ag p2 p0.B.toNat).aU)))))<|ko [vB (decide (p0.C≤(wi (p1.cO-(ag p2 p0.B.toNat).aU))))]<|kn<|wr<|tr<|?_;cases H;exact gu (h.se 2 [])
  refine bZ (dF Hh) [87,88,89,90,91,92,93]<|λ_ r=>Ov (pX r (bN Ey)) r (vB false) (Kc (b:=(decide (p0.C≥0))) rfl (by kernel_rfl) (dF Hh) (by kernel_rfl))<|?_;refine mF (bN Ey) (vB false)<|ko [U]<|kn<|wr<|tr<|?_;cases H;exact gu (h.se 2 [])
 refine wk<|tn<|ks<|ko [U]<|kn<|wr<|?_;cases H;exact gu (h.se 2 [])
def rT(p0:aG):Option (Bool):=
 if bT (wi (((p0.Code.length:Nat):Int)-1)) p0.Code.length then(if(ag p0.Code (wi (((p0.Code.length:Nat):Int)-1)).toNat).aa6=3 then some true else some ((ag p0.Code (wi (((p0.Code.length:Nat):Int)-1)).toNat).aa6==9))else none
theorem wQ{p0:aG}{aW:Option Addr}{bz:Nat}{r0:Bool}(H:rT p0=some r0)(h:Fit z (an (L)) w)(ct:cu L 5 cA aW p0.Code) :
 Calls Tryz.prog 169 #[.agg #[vI p0.aU,vI p0.cO,vI p0.bJ,.slice aW p0.Code.length bz]] w λe w=>e=.returned (vB r0)∧Fit z (an (L)) w:=by
 unfold rT at H;refine ke Tryz.func169 19 rfl λj=>ks<|kN h (#[vI p0.aU,vI p0.cO,vI p0.bJ,.slice aW p0.Code.length bz]) 99 λb1 w h=>ko [U]<|kn<|ks<|ko [U]<|kL h 3<|ko [U]<|kL h 3<|qg H λc2 H=>ko [vI ((p0.Code.length:Nat):Int),vI (wi (((p0.Code.length:Nat):Int)-1))]<|kj 146 bz ct c2<|ko [pA (bg aW) (jY aW+(wi (((p0.Code.length:Nat):Int)-1)).toNat*5)]<|λ_ r=>ld (wn rfl) r (vI (ag p0.Code (wi (((p0.Code.length:Nat):Int)-1)).toNat).aa6) (ct.cell c2 (h.dn 1) 0 rfl)<|?_;refine ko [vI (ag p0.Code (wi (((p0.Code.length:Nat):Int)-1)).toNat).aa6]<|kn<|ks<|ko [vI (ag p0.Code (wi (((p0.Code.length:Nat):Int)-1)).toNat).aa6,vB ((ag p0.Code (wi (((p0.Code.length:Nat):Int)-1)).toNat).aa6==3),vB ((ag p0.Code (wi (((p0.Code.length:Nat):Int)-1)).toNat).aa6==3)]<|qI H (λc3 H=>?_) λc3 H=>?_
 ·refine bZ (beq_iff_eq.mpr c3) [16,17]<|mH (beq_iff_eq.mpr c3) (vB true)<|ko [U]<|kn<|wr<|?_;cases H;exact gu (h.se 1 [])
 refine cS (bN c3) [16,17] [vI (ag p0.Code (wi (((p0.Code.length:Nat):Int)-1)).toNat).aa6,vB ((ag p0.Code (wi (((p0.Code.length:Nat):Int)-1)).toNat).aa6==9)]<|mF (bN c3) (vB ((ag p0.Code (wi (((p0.Code.length:Nat):Int)-1)).toNat).aa6==9))<|ko [vB ((ag p0.Code (wi (((p0.Code.length:Nat):Int)-1)).toNat).aa6==9)]<|kn<|wr<|?_;cases H;exact gu (h.se 1 [])
def fC(K:Nat)(p0:Int)(p1:aG)(p2:List aG):Nat→Int→Option ((Unit)⊕((Unit)⊕kQ))
 | 0,_=>none
 | k1+1,g4=>(if g4<((p1.Code.length:Nat):Int)then if bT g4 p1.Code.length then eL (qv (ag p1.Code g4.toNat) p1 p2) (λr8=>(if r8=true then(fC K p0 p1 p2 k1 (wi (g4+1)))else some (.inr (.inr (⟨52,p0,g4⟩:kQ)))))else none else some (.inl ()))
def lq(K:Nat)(p0:Int)(p1:aG)(p2:List aG):Option ((Unit)⊕kQ):=
 vg ((fC K p0 p1 p2 K 0)) (eL (rT p1) (λsx=>(if sx=true then some (.inl ())else some (.inr (⟨53,p0,wi (((p1.Code.length:Nat):Int)-1)⟩:kQ)))))
theorem vW{K:Nat}{p0:Int}{p1:aG}{p2:List aG}{cz tT:Option Addr}{cE uq:Nat}{MI:Nat→Option Addr×Nat}(H:lq K p0 p1 p2=some (.inl ()))(h:Fit z (an (L)) w)(dN:cu L 5 cA cz p1.Code)(Be:B5 L tT MI p2)(sS:cu L 5 gh (some ⟨1,0,none⟩) tY) :
 Calls Tryz.prog 115 #[vI p0,.agg #[vI p1.aU,vI p1.cO,vI p1.bJ,.slice cz p1.Code.length cE],.slice tT p2.length uq] w λe w=>e=.returned (.tuple #[])∧Fit z (an (L)) w:=by
 unfold lq at H;refine ke Tryz.func115 38 rfl λj=>ks<|kN h (#[vI p1.aU,vI p1.cO,vI p1.bJ,.slice cz p1.Code.length cE]) 99 λb1 w h=>kn<|?_;obtain⟨o3,H,z9⟩:=AW H;refine λ_ r=>dw (β:=Unit) (λ_ a w=>.inl ()=o3∧∃j,kP 38 (lk [(0,vI p0),(4,pA b1 0)] j) a∧Fit z (an (n5 b1 p1 cz cE::L)) w) ?_ ?_
 ·refine qq r<|ks<|ko [U]<|kL h 3<|ko [vI ((p1.Code.length:Nat):Int),U]<|kn<|wb<|λ_ r=>dP (β:=Nat) id (λm a w=>∃g4:Int,(fC K p0 p1 p2 m g4)=some o3∧∃j,kP 38 (lk [(0,vI p0),(2,.slice tT p2.length uq),(4,pA b1 0),(9,.slice cz p1.Code.length cE),(10,vI ((p1.Code.length:Nat):Int)),(11,vI g4)] j) a∧Fit z (an (n5 b1 p1 cz cE::L)) w) K ⟨0,H,r.fj h⟩<|?_;clear h r H;rintro k1 a w ⟨g4,H,j,r,h⟩;cases k1 with
  | zero=>exact absurd H (by simp[fC])
  | succ k1 =>
   rw[fC]at H;refine qq r<|ks<|ko [vB (decide (g4<((p1.Code.length:Nat):Int)))]<|kn<|wq<|dR H (λc5 H=>?_) λc5 H=>?_
   ·refine wk<|tn<|wq<|wb<|ks<|qg H λc6 H=>ko [U]<|kj 146 cE dN c6<|λ_ r=>tK (wn rfl) r (gP (ag p1.Code g4.toNat)) (cs:=fY (ag p1.Code g4.toNat)) ⟨dN.cell c6 (h.dn 1) 0 rfl,dN.cell c6 (h.dn 1) 1 rfl,dN.cell c6 (h.dn 1) 2 rfl,dN.cell c6 (h.dn 1) 3 rfl,dN.cell c6 (h.dn 1) 4 rfl,gE⟩<|?_;refine kN h (#[vI 0,vI 0,vI 0,vI 0,vI 0]) 146 λb7 w h=>ko [U]<|kA h (tv b7 (ag p1.Code g4.toNat)) λw h=>kn<|ks<|kM h<|kM (h.pick 1)<|fO H λr8 e9 H=>ko [U]<|eU (vK (tT:=tT) (uq:=uq) (Be:=(xw.up 2 Be)) (cz:=cz) (cE:=cE) (dN:=(cu.up 2 dN)) (sS:=cu.up 2 sS) (MI:=MI) (H:=e9) (h:=h) :) λw h=>ko [vB (!r8)]<|kn<|C3 H (λnV H=>?_) λnV H=>?_
    ·refine wk<|bn<|tn<|wl<|ko [vI (wi (g4+1)),vI (wi (g4+1))]<|kn<|?_;exact λ_ r=>⟨_,⟨(wi (g4+1)),H,r.fj (h.se 2 [1])⟩,Nat.lt_succ_self _⟩
    refine wl<|ko [U,U,U,U,U]<|λ_ r=>zZ (wn rfl) r rfl (T:=194) (u:=.agg #[vI 52,vI p0,vI g4]) (by kernel_rfl)<|pH<|lF<|lF<|pH<|lF<|xl r<|?_;replace H:=sQ H z9;cases H
   refine wx<|te<|te<|bh<|tn<|?_;exact λ_ r=>⟨(),gH H,r.fj h⟩
 clear h r;rintro _ a w ⟨rfl,j,r,h⟩;replace H:=AX z9;refine qq r<|ks<|kM h<|fO H λsx Aa H=>eU (wQ (aW:=cz) (bz:=cE) (ct:=(cu.up 1 dN)) (H:=Aa) (h:=h) :) λw h=>ko [vB (!sx)]<|kn<|C3 H (λvk H=>?_) λvk H=>?_
 ·refine wk<|?_;cases H;exact Jm (h.se 1 [])
 refine wl<|ko [U,U]<|kL h 3<|ko [vI ((p1.Code.length:Nat):Int),vI (wi (((p1.Code.length:Nat):Int)-1)),.agg #[vI 53,vI p0,vI (wi (((p1.Code.length:Nat):Int)-1))],.agg #[vI 53,vI p0,vI (wi (((p1.Code.length:Nat):Int)-1))],.iface 194 (.agg #[vI 53,vI p0,vI (wi (((p1.Code.length:Nat):Int)-1))])]<|λ_ r=>zZ (wn rfl) r rfl (T:=194) (u:=.agg #[vI 53,vI p0,vI (wi (((p1.Code.length:Nat):Int)-1))]) (by kernel_rfl)<|xl r<|?_;cases H
theorem vX{K:Nat}{p0:Int}{p1:aG}{p2:List aG}{cz tT:Option Addr}{cE uq:Nat}{MI:Nat→Option Addr×Nat}{rP:kQ}(H:lq K p0 p1 p2=some (.inr rP))(h:Fit z (an (L)) w)(dN:cu L 5 cA cz p1.Code)(Be:B5 L tT MI p2)(sS:cu L 5 gh (some ⟨1,0,none⟩) tY) :
 Calls Tryz.prog 115 #[vI p0,.agg #[vI p1.aU,vI p1.cO,vI p1.bJ,.slice cz p1.Code.length cE],.slice tT p2.length uq] w λe w=>e=.panicked [{v:=.iface 194 (vH rP),recovered:=false}]∧Fit z (an (L)) w:=by
 unfold lq at H;refine ke Tryz.func115 38 rfl λj=>ks<|kN h (#[vI p1.aU,vI p1.cO,vI p1.bJ,.slice cz p1.Code.length cE]) 99 λb1 w h=>kn<|?_;obtain⟨o3,H,z9⟩:=AW H;refine λ_ r=>dw (β:=Unit) (λ_ a w=>.inl ()=o3∧∃j,kP 38 (lk [(0,vI p0),(4,pA b1 0)] j) a∧Fit z (an (n5 b1 p1 cz cE::L)) w) ?_ ?_
 ·refine qq r<|ks<|ko [U]<|kL h 3<|ko [vI ((p1.Code.length:Nat):Int),U]<|kn<|wb<|λ_ r=>dP (β:=Nat) id (λm a w=>∃g4:Int,(fC K p0 p1 p2 m g4)=some o3∧∃j,kP 38 (lk [(0,vI p0),(2,.slice tT p2.length uq),(4,pA b1 0),(9,.slice cz p1.Code.length cE),(10,vI ((p1.Code.length:Nat):Int)),(11,vI g4)] j) a∧Fit z (an (n5 b1 p1 cz cE::L)) w) K ⟨0,H,r.fj h⟩<|?_;clear h r H;rintro k1 a w ⟨g4,H,j,r,h⟩;cases k1 with
  | zero=>exact absurd H (by simp[fC])
  | succ k1 =>
   rw[fC]at H;refine qq r<|ks<|ko [vB (decide (g4<((p1.Code.length:Nat):Int)))]<|kn<|wq<|dR H (λc5 H=>?_) λc5 H=>?_
   ·refine wk<|tn<|wq<|wb<|ks<|qg H λc6 H=>ko [U]<|kj 146 cE dN c6<|λ_ r=>tK (wn rfl) r (gP (ag p1.Code g4.toNat)) (cs:=fY (ag p1.Code g4.toNat)) ⟨dN.cell c6 (h.dn 1) 0 rfl,dN.cell c6 (h.dn 1) 1 rfl,dN.cell c6 (h.dn 1) 2 rfl,dN.cell c6 (h.dn 1) 3 rfl,dN.cell c6 (h.dn 1) 4 rfl,gE⟩<|?_;refine kN h (#[vI 0,vI 0,vI 0,vI 0,vI 0]) 146 λb7 w h=>ko [U]<|kA h (tv b7 (ag p1.Code g4.toNat)) λw h=>kn<|ks<|kM h<|kM (h.pick 1)<|fO H λr8 e9 H=>ko [U]<|eU (vK (tT:=tT) (uq:=uq) (Be:=(xw.up 2 Be)) (cz:=cz) (cE:=cE) (dN:=(cu.up 2 dN)) (sS:=cu.up 2 sS) (MI:=MI) (H:=e9) (h:=h) :) λw h=>ko [vB (!r8)]<|kn<|C3 H (λnV H=>?_) λnV H=>?_
    ·refine wk<|bn<|tn<|wl<|ko [vI (wi (g4+1)),vI (wi (g4+1))]<|kn<|?_;exact λ_ r=>⟨_,⟨(wi (g4+1)),H,r.fj (h.se 2 [1])⟩,Nat.lt_succ_self _⟩
    refine wl<|ko [U,U,U,U,U]<|λ_ r=>zZ (wn rfl) r rfl (T:=194) (u:=.agg #[vI 52,vI p0,vI g4]) (by kernel_rfl)<|pH<|lF<|lF<|pH<|lF<|xl r<|?_;replace H:=sQ H z9;replace H:=X4 H;subst H;exact⟨rfl,h.se 2 []⟩
   refine wx<|te<|te<|bh<|tn<|?_;exact λ_ r=>⟨(),gH H,r.fj h⟩
 clear h r;rintro _ a w ⟨rfl,j,r,h⟩;replace H:=AX z9;refine qq r<|ks<|kM h<|fO H λsx Aa H=>eU (wQ (aW:=cz) (bz:=cE) (ct:=(cu.up 1 dN)) (H:=Aa) (h:=h) :) λw h=>ko [vB (!sx)]<|kn<|C3 H (λvk H=>?_) λvk H=>?_
 ·refine wk<|λ_ r=>nH rfl r<|?_;cases H
 refine wl<|ko [U,U]<|kL h 3<|ko [vI ((p1.Code.length:Nat):Int),vI (wi (((p1.Code.length:Nat):Int)-1)),.agg #[vI 53,vI p0,vI (wi (((p1.Code.length:Nat):Int)-1))],.agg #[vI 53,vI p0,vI (wi (((p1.Code.length:Nat):Int)-1))],.iface 194 (.agg #[vI 53,vI p0,vI (wi (((p1.Code.length:Nat):Int)-1))])]<|λ_ r=>zZ (wn rfl) r rfl (T:=194) (u:=.agg #[vI 53,vI p0,vI (wi (((p1.Code.length:Nat):Int)-1))]) (by kernel_rfl)<|xl r<|?_;replace H:=X4 H;subst H;exact⟨rfl,h.se 1 []⟩
def rE(p0:aL):Option (Bool):=
 some false
theorem Ad{p0:aL}{r0:Bool}(H:rE p0=some r0)(h:Fit z (an (L)) w) :
 Calls Tryz.prog 199 #[sw p0] w λe w=>e=.returned (vB r0)∧Fit z (an (L)) w:=by
 unfold rE at H;refine ke Tryz.func199 3 rfl λj=>ks<|kN h (Bb p0) 255 λb1 w h=>ko [U]<|kn<|ks<|ko [U]<|kn<|wr<|?_;cases H;exact gu (h.se 1 [])
def rU(p0:bW)(p1:Int)(p2:Int):Option (Int):=
 (if p0.aa6=5 then(if p0.A=p1 then some 2 else(if p0.aa6=6 then(if p2=2 then some 4 else some p2)else some p2))else(if p0.aa6=6 then(if p2=2 then some 4 else some p2)else some p2))
theorem Ce{p0:bW}{p1 p2 r0:Int}(H:rU p0 p1 p2=some r0)(h:Fit z (an (L)) w) :
 Calls Tryz.prog 220 #[gP p0,vI p1,vI p2] w λe w=>e=.returned (vI r0)∧Fit z (an (L)) w:=by
 unfold rU at H;refine ke Tryz.func220 26 rfl λj=>ks<|kN h (mg p0) 146 λb1 w h=>ko [U]<|kn<|wq<|wb<|ks<|ko [U]<|kL h 0<|ko [vB (p0.aa6==5),vB (p0.aa6==5)]<|qI H (λc2 H=>?_) λc2 H=>?_
 ·refine cS (beq_iff_eq.mpr c2) [12] [pA b1 1]<|λ_ r=>ld (pX r (beq_iff_eq.mpr c2)) r (vI p0.A) (h.cell 1 rfl)<|?_;refine cS (beq_iff_eq.mpr c2) [14,15] [vI p1,vB (p0.A==p1)]<|mH (beq_iff_eq.mpr c2) (vB (p0.A==p1))<|ko [vB (p0.A==p1)]<|kn<|dR H (λc3 H=>?_) λc3 H=>?_
  ·refine ks<|ko [U]<|kn<|wr<|br<|tr<|?_;cases H;exact gu (h.se 1 [])
  refine ks<|ko [U]<|kL h 0<|ko [vB (p0.aa6==6),vB (p0.aa6==6)]<|qI H (λc4 H=>?_) λc4 H=>?_
  ·refine cS (beq_iff_eq.mpr c4) [22,23] [vI p2,vB (p2==2)]<|mH (beq_iff_eq.mpr c4) (vB (p2==2))<|ko [vB (p2==2)]<|kn<|dR H (λc5 H=>?_) λc5 H=>?_
   ·refine ks<|ko [U]<|kn<|wr<|br<|tr<|?_;cases H;exact gu (h.se 1 [])
   refine wk<|bn<|tn<|ks<|ko [U,U]<|kn<|wr<|?_;cases H;exact gu (h.se 1 [])
  refine bZ (bN c4) [22,23]<|mF (bN c4) (vB false)<|ko [U]<|kn<|λ_ r=>ik r (b:=false) rfl<|qq r<|wk<|bn<|tn<|ks<|ko [U,U]<|kn<|wr<|?_;cases H;exact gu (h.se 1 [])
 refine bZ (bN c2) [12,13,14,15]<|mF (bN c2) (vB false)<|ko [U]<|kn<|λ_ r=>ik r (b:=false) rfl<|qq r<|ks<|ko [U]<|kL h 0<|ko [vB (p0.aa6==6),vB (p0.aa6==6)]<|qI H (λc6 H=>?_) λc6 H=>?_
 ·refine cS (beq_iff_eq.mpr c6) [22,23] [vI p2,vB (p2==2)]<|mH (beq_iff_eq.mpr c6) (vB (p2==2))<|ko [vB (p2==2)]<|kn<|dR H (λc7 H=>?_) λc7 H=>?_
  ·refine ks<|ko [U]<|kn<|wr<|br<|tr<|?_;cases H;exact gu (h.se 1 [])
  refine wk<|bn<|tn<|ks<|ko [U,U]<|kn<|wr<|?_;cases H;exact gu (h.se 1 [])
 refine bZ (bN c6) [22,23]<|mF (bN c6) (vB false)<|ko [U]<|kn<|λ_ r=>ik r (b:=false) rfl<|qq r<|wk<|bn<|tn<|ks<|ko [U,U]<|kn<|wr<|?_;cases H;exact gu (h.se 1 [])
def rV(p0:aG)(p1:Int):Option ((List Int)):=
 if bT p1 p0.Code.length then eL (if bT (ag p0.Code p1.toNat).aa6 tY.length then(if(ag tY (ag p0.Code p1.toNat).aa6.toNat).next=true then(if(wi (p1+1))<((p0.Code.length:Nat):Int)then if(([]:List Int).length+1)*8≤140737488355328 then some (([]:List Int)++[wi (p1+1)])else none else some ([]:List Int))else some ([]:List Int))else none) (λl6=>(if(ag p0.Code p1.toNat).aa6=3 then if(l6.length+1)*8≤140737488355328 then some (l6++[(ag p0.Code p1.toNat).A])else none else(if(ag p0.Code p1.toNat).aa6=4 then if(l6.length+1)*8≤140737488355328 then some (l6++[(ag p0.Code p1.toNat).B])else none else some l6)))else none
theorem Cf{p0:aG}{p1:Int}{aW:Option Addr}{bz:Nat}{r0:List Int}(H:rV p0 p1=some r0)(h:Fit z (an (L)) w)(ct:cu L 5 cA aW p0.Code)(sS:cu L 5 gh (some ⟨1,0,none⟩) tY) :
 Calls Tryz.prog 221 #[.agg #[vI p0.aU,vI p0.cO,vI p0.bJ,.slice aW p0.Code.length bz],vI p1] w λe w=>∃y1 y2,e=.returned (.slice y1 r0.length y2)∧Fit z (an (Br y1 y2 r0::L)) w:=by
 unfold rV at H;refine ke Tryz.func221 47 rfl λj=>ks<|kN h (#[vI p0.aU,vI p0.cO,vI p0.bJ,.slice aW p0.Code.length bz]) 99 λb1 w h=>ko [U]<|kn<|ks<|ko [U]<|kL h 3<|qg H λc2 H=>ko [U]<|kj 146 bz ct c2<|λ_ r=>tK (wn rfl) r (gP (ag p0.Code p1.toNat)) (cs:=fY (ag p0.Code p1.toNat)) ⟨ct.cell c2 (h.dn 1) 0 rfl,ct.cell c2 (h.dn 1) 1 rfl,ct.cell c2 (h.dn 1) 2 rfl,ct.cell c2 (h.dn 1) 3 rfl,ct.cell c2 (h.dn 1) 4 rfl,gE⟩<|?_;refine kN h (#[vI 0,vI 0,vI 0,vI 0,vI 0]) 146 λb3 w h=>kA h (tv b3 (ag p0.Code p1.toNat)) λw h=>kn<|ks<|ko [U]<|kn<|El H λo8 H HS=>λ_ r=>dw (β:=Unit) (λ_ a w=>∃WU:Option Addr,∃WV:Nat,∃l6:List Int,l6=o8∧∃j,kP 47 (lk [(5,pA b3 0),(6,.slice WU l6.length WV)] j) a∧Fit z (an (tv b3 (ag p0.Code p1.toNat)::Br WU WV l6::L)) w) ?_ ?_
 ·refine qq r<|ks<|ko [U]<|kL h 0<|qg H λc9 H=>kp (pA (bg (some ⟨1,0,none⟩)) ((ag p0.Code p1.toNat).aa6.toNat*5)) (HB (xs:=tY) (k:=.i64) (E:=249) rfl (by kernel_rfl) (by kernel_rfl) (by kernel_rfl) (by kernel_rfl) rfl c9)<|ko [U]<|λ_ r=>ld (wn rfl) r (vB (ag tY (ag p0.Code p1.toNat).aa6.toNat).next) (sS.BU c9 (h.dn 2) 4 rfl)<|?_;refine ko [U]<|qI H (λnV H=>?_) λnV H=>?_
  ·refine cS (nV) [18,19,20] [vI p1,vI (wi (p1+1)),pA b1 3]<|λ_ r=>ld (pX r (nV)) r (.slice aW p0.Code.length bz) ((h.pick 1).cell 3 rfl)<|?_;refine cS (nV) [22,23] [vI ((p0.Code.length:Nat):Int),vB (decide ((wi (p1+1))<((p0.Code.length:Nat):Int)))]<|mH (nV) (vB (decide ((wi (p1+1))<((p0.Code.length:Nat):Int))))<|kn<|dR H (λsH H=>?_) λsH H=>?_
   ·refine wl<|ko [U,U,vI (wi (p1+1))]<|kV h (#[vI (wi (p1+1))]) 3 λoG w h=>?_;replace h:=h.jX (e:=3) (sz:=1) (enc:=dK);refine qg H λnE H=>λ_ r=>mO (n0:=0) (c:=1) (bytes:=8) (wn rfl) rfl rfl r rfl (by kernel_rfl) (by kernel_rfl) bq (E:=3) (xs:=([]:List Int)) (by kernel_rfl) (by kernel_rfl) h (news:=[wi (p1+1)]) (m:=1) rfl ((h.pick 1).news rfl) nE rfl λoP po w _ h r=>qq r<|ko [.slice oP (([]:List Int)++[wi (p1+1)]).length po]<|kn<|?_;exact λ_ r=>⟨(),oP,po,(([]:List Int)++[wi (p1+1)]),gH H,r.fj (h.se 4 [2,0])⟩
   refine wk<|tn<|?_;replace h:=h.jX (e:=3) (sz:=1) (enc:=dK);exact λ_ r=>⟨(),none,0,([]:List Int),gH H,r.fj (h.se 3 [1,0])⟩
  refine bZ (bF nV) [18,19,20,21,22,23]<|mF (bF nV) (vB false)<|kn<|λ_ r=>ik r (b:=false) rfl<|qq r<|wk<|tn<|?_;replace h:=h.jX (e:=3) (sz:=1) (enc:=dK);exact λ_ r=>⟨(),none,0,([]:List Int),gH H,r.fj (h.se 3 [1,0])⟩
 clear h r;rintro _ a w ⟨WU,WV,l6,rfl,j,r,h⟩;replace H:=Eg HS;refine qq r<|wq<|ks<|ko [U]<|kL h 0<|kn<|wb<|ks<|ko [vB ((ag p0.Code p1.toNat).aa6==3),vB ((ag p0.Code p1.toNat).aa6==3)]<|kn<|dR H (λtQ H=>?_) λtQ H=>?_
 ·refine wl<|ko [U,U]<|kL h 1<|kV h (#[vI (ag p0.Code p1.toNat).A]) 3 λb17 w h=>qh h.m2 λh=>qg H λkE H=>λ_ r=>mO (n0:=l6.length) (c:=1) (bytes:=8) (wn rfl) rfl rfl r rfl (by kernel_rfl) (by kernel_rfl) bq (E:=3) (xs:=l6) (by kernel_rfl) (by kernel_rfl) h (news:=[(ag p0.Code p1.toNat).A]) (m:=1) rfl ((h.pick 1).news rfl) kE rfl λAe Af w _ h r=>qq r<|ko [U]<|kl<|bn<|tn<|ks<|ko [U,U]<|kn<|wr<|?_;cases H;exact Tg Ae Af (h.se 3 [0])
 refine ks<|ko [vB ((ag p0.Code p1.toNat).aa6==4),vB ((ag p0.Code p1.toNat).aa6==4)]<|kn<|dR H (λoO H=>?_) λoO H=>?_
 ·refine wl<|ko [U,U]<|kL h 2<|kV h (#[vI (ag p0.Code p1.toNat).B]) 3 λuo w h=>qh h.m2 λh=>qg H λuO H=>λ_ r=>mO (n0:=l6.length) (c:=1) (bytes:=8) (wn rfl) rfl rfl r rfl (by kernel_rfl) (by kernel_rfl) bq (E:=3) (xs:=l6) (by kernel_rfl) (by kernel_rfl) h (news:=[(ag p0.Code p1.toNat).B]) (m:=1) rfl ((h.pick 1).news rfl) uO rfl λYj Yk w _ h r=>qq r<|ko [U]<|kl<|bn<|tn<|ks<|ko [U,U]<|kn<|wr<|?_;cases H;exact Tg Yj Yk (h.se 3 [0])
 refine wk<|bn<|tn<|ks<|ko [U,U]<|kn<|wr<|?_;cases H;exact Tg WU WV (h.se 2 [1])
def iD(K:Nat)(l8:List aL)(vL:Int)(n6:List Int):Nat→(List (aL×aL))→(List aL)→Int→Option ((List (aL×aL))×(List aL))
 | 0,_,_,_=>none
 | k2+1,HX,HY,lH=>(if lH<((n6.length:Nat):Int)then if bT lH n6.length then(if(tP HX (⟨(ag n6 lH.toNat),vL⟩:aL)).isSome=true then(iD K l8 vL n6 k2 HX HY (wi (lH+1)))else if tP HX (⟨(ag n6 lH.toNat),vL⟩:aL)=none then if(HY.length+1)*16≤140737488355328 then(iD K l8 vL n6 k2 (HX++[((⟨(ag n6 lH.toNat),vL⟩:aL),ag l8 0)]) (HY++[(⟨(ag n6 lH.toNat),vL⟩:aL)]) (wi (lH+1)))else none else none)else none else some (HX,HY))
def jo(K:Nat)(p0:aG)(p1:Int):Nat→(List (aL×aL))→(List aL)→Option ((List (aL×aL)))
 | 0,_,_=>none
 | k1+1,l5,l8=>(if((l8.length:Nat):Int)>0 then if bT (0:Int) l8.length then if 0≤(1:Int)∧(1:Int)≤((l8.length:Nat):Int)then if 0<l8.length then eL (rE (ag l8 0)) (λzf=>(if zf=true then some l5 else if bT (ag l8 0).ag p0.Code.length then eL (rU (ag p0.Code (ag l8 0).ag.toNat) p1 (ag l8 0).state) (λvL=>eL (rV p0 (ag l8 0).ag) (λn6=>pL ((iD K l8 vL n6 K l5 (l8.drop 1) 0)) (λJs zS=>(jo K p0 p1 k1 Js zS))))else none))else none else none else none else some l5)
def nM(K:Nat)(p0:aG)(p1:Int):Option ((List (aL×aL))):=
 (jo K p0 p1 K (([]:List (aL×aL))++[((⟨0,1⟩:aL),(⟨-1,0⟩:aL))]) ([(⟨0,1⟩:aL)]))
theorem xD{K:Nat}{p0:aG}{p1:Int}{aW:Option Addr}{bz:Nat}{r0:List (aL×aL)}(H:nM K p0 p1=some r0)(h:Fit z (an (L)) w)(ct:cu L 5 cA aW p0.Code)(sS:cu L 5 gh (some ⟨1,0,none⟩) tY) :
 Calls Tryz.prog 198 #[.agg #[vI p0.aU,vI p0.cO,vI p0.bJ,.slice aW p0.Code.length bz],vI p1,.func (.func 199) #[] #[]] w λe w=>∃OO,e=.returned (.map (some OO))∧Fit z (an (mapOf dg dg OO r0::L)) w:=by
 unfold nM at H;refine ke Tryz.func198 73 rfl λj=>ks<|kN h (#[vI p0.aU,vI p0.cO,vI p0.bJ,.slice aW p0.Code.length bz]) 99 λb1 w h=>ko [U]<|kn<|λ_ r=>wp_scope_straight<|qq r<|ks<|ko [U]<|kN h (#[vI 0,vI 0]) 255 λb2 w h=>kA h (pts b2 (.cells #[vI 0,vI 1] 255)) λw h=>kn<|ks<|λ_ r=>Mn (wn rfl) rfl rfl r rfl dg dg h λb3 w _ h r=>qq r<|kM (h.pick 1)<|ko [U]<|λ_ r=>Mp (t:=252) (et:=255) (wn rfl) rfl r (Or.inr rfl) (by kernel_rfl) (⟨0,1⟩:aL) (⟨-1,0⟩:aL) (by kernel_rfl) (by kernel_rfl) (by kernel_rfl) Er rfl h λw h=>qq r<|ko [U,U]<|kn<|ks<|kM (h.pick 1)<|kV h (#[vI 0,vI 1]) 255 λb4 w h=>?_;replace h:=Fit.xj (n:=1) (l:=[(⟨0,1⟩:aL)]) (by rfl) (by rfl) lG (by decide) h;refine ko [U]<|kn<|wq<|λ_ r=>wp_label<|qq r<|tn<|wq<|wb<|qh h.Jn λh=>?_;have WW:1=([(⟨0,1⟩:aL)]).length:=h.Mu;replace h:=Fit.Dd WW (λq_=>yq 255 2 dg (.slice (some ⟨b4,0,none⟩) q_ 1) ([(⟨0,1⟩:aL)])) h;intro _ r;replace r:=r.re 9 (congrArg (λq_=>Value.slice (some ⟨b4,0,none⟩) q_ 1) WW);refine dP (β:=Nat) id (λm a w=>∃Bt:Option Addr,∃Yl:Nat,∃l5:List (aL×aL),∃l8:List aL,(jo K p0 p1 m l5 l8)=some r0∧∃j,kP 73 (lk [(1,vI p1),(2,.func (.func 199) #[] #[]),(3,pA b1 0),(8,.map (some b3)),(9,.slice Bt l8.length Yl)] j) a∧Fit z (an (n5 b1 p0 aW bz::mapOf dg dg b3 l5::yq 255 2 dg (.slice Bt l8.length Yl) l8::L)) w) K ⟨(some ⟨b4,0,none⟩),1,(([]:List (aL×aL))++[((⟨0,1⟩:aL),(⟨-1,0⟩:aL))]),([(⟨0,1⟩:aL)]),H,r.fj (h.se 4 [3,1,0])⟩<|?_;clear h r H;rintro k1 a w ⟨Bt,Yl,l5,l8,H,j,r,h⟩;cases k1 with
 | zero=>exact absurd H (by simp[jo])
 | succ k1 =>
  rw[jo]at H;refine qq r<|wq<|ks<|ko [U,vI ((l8.length:Nat):Int),vB (decide (((l8.length:Nat):Int)>0))]<|kn<|dR H (λnV H=>?_) λnV H=>?_
  ·refine wk<|tn<|wb<|ks<|qg H λsH H=>ko [U]<|kp (pA (bg Bt) (jY Bt+0*2)) (Ya (i:=(0:Int)) (k:=.i64) (E:=255) rfl (by kernel_rfl) (by kernel_rfl) (by kernel_rfl) (by kernel_rfl) (h.pick 2) sH)<|λ_ r=>tK (wn rfl) r (sw (ag l8 0)) (cs:=Ba (ag l8 0)) ⟨(h.pick 2).F8 lG (f:=0) (bf sH) rfl,(h.pick 2).F8 lG (f:=1) (bf sH) rfl,gE⟩<|?_;refine kN h (#[vI 0,vI 0]) 255 λoG w h=>kA h (Jo oG (ag l8 0)) λw h=>kn<|ks<|qg H λvk H=>qg H λza H=>ko [U]<|qh h.m3 λh=>λ_ r=>OM (k:=.i64) (wn rfl) rfl rfl r rfl (by kernel_rfl) (by kernel_rfl) (E:=255) (by kernel_rfl) (by kernel_rfl) lG h vk za λYm Yn a h r =>qq r<|ko [U]<|kn<|wq<|ks<|ko [U]<|kM (h.pick 1)<|fO H λzf ye H=>eU (Ad (H:=ye) (h:=h) :) λw h=>kn<|De H (λsy H=>?_) λsy H=>?_
   ·refine wx<|te<|λ_ r=>Kd (by decide)<|qq r<|te<|bh<|tn<|ks<|ko [U,U]<|kn<|wr<|λ_ r=>Ml<|qq r<|?_;cases H;exact WR b3 (h.se 4 [3])
   refine wk<|tn<|wq<|qg H λkE H=>fO H λvL HZ H=>λ_ r=>fy [(b1,3,[.slice aW p0.Code.length bz]),(oG,0,[vI (ag l8 0).ag]),(bg aW,jY aW+(ag l8 0).ag.toNat*5,fY (ag p0.Code (ag l8 0).ag.toNat)),(oG,1,[vI (ag l8 0).state])] [0,2,4,7] 11 h (λh=>⟨⟨(h.pick 2).cell 3 rfl,gE⟩,⟨(h.pick 1).cell 0 rfl,gE⟩,⟨ct.cell kE (h.dn 4) 0 rfl,ct.cell kE (h.dn 4) 1 rfl,ct.cell kE (h.dn 4) 2 rfl,ct.cell kE (h.dn 4) 3 rfl,ct.cell kE (h.dn 4) 4 rfl,gE⟩,⟨(h.pick 1).cell 1 rfl,gE⟩,gE⟩) λw h hd =>qq r<|gg hd 7 [(0,35,pA b1 3),(2,37,pA oG 0),(6,41,vI p1),(7,42,pA oG 1)]<|kx hd 0 6 1 rfl rfl<|kx hd 1 5 3 rfl rfl<|λ_ r=>mJ hd 4 4 rfl (wn rfl) r (pA (bg aW) (jY aW+(ag l8 0).ag.toNat*5)) (hrun:=λw=>xW (k:=.i64) (E:=146) (cc:=bz) rfl (by kernel_rfl) (by kernel_rfl) rfl (by kernel_rfl) (by kernel_rfl) ct kE)<|?_;refine tL hd 2 3 5 rfl rfl<|kx hd 3 2 8 rfl rfl<|λ_ r=>eZ 9 rfl<|qq r<|eU (Ce (H:=HZ) (h:=h) :) λw h=>kn<|λ_ r=>xE<|gU 0 10 rfl (wn rfl) r (vI vL)<|?_;refine λ_ r=>ji<|qq r<|tn<|ks<|kM (h.pick 2)<|ko [U]<|kL (h.pick 1) 0<|fO H λn6 OQ H=>Ri (Cf (aW:=aW) (bz:=bz) (ct:=(cu.up 4 ct)) (sS:=cu.up 4 sS) (H:=OQ) (h:=h) :) λxn zT w h=>ko [vI ((n6.length:Nat):Int),U]<|kn<|qd2 H λo32 H Yo=>λ_ r=>n4 (λa w=>∃OX:Option Addr,∃OY:Nat,∃Js:List (aL×aL),∃zS:List aL,(Js,zS)=o32∧∃j,kP 73 (lk [(1,vI p1),(2,.func (.func 199) #[] #[]),(3,pA b1 0),(8,.map (some b3)),(9,.slice OX zS.length OY)] j) a∧Fit z (an (n5 b1 p0 aW bz::mapOf dg dg b3 Js::yq 255 2 dg (.slice OX zS.length OY) zS::L)) w) ?_ ?_
   ·refine qq r<|wb<|λ_ r=>dP (β:=Nat) id (λm a w=>∃Dn:Option Addr,∃Ew:Nat,∃HX:List (aL×aL),∃HY:List aL,∃lH:Int,(iD K l8 vL n6 m HX HY lH)=some o32∧∃j,kP 73 (lk [(1,vI p1),(2,.func (.func 199) #[] #[]),(3,pA b1 0),(8,.map (some b3)),(9,.slice Dn HY.length Ew),(10,pA oG 0),(11,vI vL),(48,.slice xn n6.length zT),(49,vI ((n6.length:Nat):Int)),(50,vI lH)] j) a∧Fit z (an (n5 b1 p0 aW bz::mapOf dg dg b3 HX::yq 255 2 dg (.slice Dn HY.length Ew) HY::Jo oG (ag l8 0)::Br xn zT n6::L)) w) K ⟨Ym,Yn,l5,(l8.drop 1),0,H,r.fj (h.se 5 [3,4,1,2,0])⟩<|?_;clear h r H;rintro k2 a w ⟨Dn,Ew,HX,HY,lH,H,j,r,h⟩;cases k2 with
    | zero=>exact absurd H (by simp[iD])
    | succ k2 =>
     rw[iD]at H;refine qq r<|ks<|ko [vB (decide (lH<((n6.length:Nat):Int)))]<|kn<|wq<|dR H (λQr H=>?_) λQr H=>?_
     ·refine wk<|tn<|wq<|wb<|ks<|qg H λFo H=>ki (h.pick 4) Fo<|λ_ r=>ld (wn rfl) r (vI (ag n6 lH.toNat)) ((h.pick 4).cL bq (f:=0) (bf Fo) rfl)<|?_;refine ko [U]<|kn<|ks<|ko [U,U,U]<|kN h (#[vI 0,vI 0]) 255 λb40 w h=>kA h (pts b40 (.cells #[vI (ag n6 lH.toNat),vI vL] 255)) λw h=>kn<|wq<|ks<|ko [U]<|kM h<|λ_ r=>OG (et:=255) (wn rfl) rfl rfl r rfl (by kernel_rfl) (⟨(ag n6 lH.toNat),vL⟩:aL) (by kernel_rfl) (by kernel_rfl) Er (v0:=(⟨0,0⟩:aL)) (by kernel_rfl) (h.pick 2)<|?_;refine ko [.tuple #[sw ((tP HX (⟨(ag n6 lH.toNat),vL⟩:aL)).getD (⟨0,0⟩:aL)),vB (tP HX (⟨(ag n6 lH.toNat),vL⟩:aL)).isSome],U,U]<|kN h (#[vI 0,vI 0]) 255 λb41 w h=>kA h (Jo b41 ((tP HX (⟨(ag n6 lH.toNat),vL⟩:aL)).getD (⟨0,0⟩:aL))) λw h=>ko [U]<|kn<|ks<|ko [U]<|kn<|De H (λGi H=>?_) λGi H=>?_
      ·refine wx<|te<|bh<|tn<|wl<|ko [vI (wi (lH+1)),vI (wi (lH+1))]<|kn<|?_;exact λ_ r=>⟨_,⟨Dn,Ew,HX,HY,(wi (lH+1)),H,r.fj (h.se 7 [2,3,4,5,6])⟩,Nat.lt_succ_self _⟩
      refine wk<|tn<|ks<|ko [U]<|kM (h.pick 1)<|kM (h.pick 5)<|qh h.m3 λh=>qg H λKz H=>λ_ r=>Mp (t:=252) (et:=255) (wn rfl) rfl r (Or.inl rfl) (by kernel_rfl) (⟨(ag n6 lH.toNat),vL⟩:aL) (ag l8 0) (by kernel_rfl) (by kernel_rfl) (by kernel_rfl) Er Kz h λw h=>qq r<|kn<|wl<|ko [U]<|kM (h.pick 2)<|kV h (#[vI (ag n6 lH.toNat),vI vL]) 255 λJv w h=>qh h.m5 λh=>qg H λOZ H=>λ_ r=>F9 (n0:=HY.length) (c:=1) (bytes:=16) (wn rfl) rfl rfl r rfl (by kernel_rfl) (by kernel_rfl) lG (E:=255) (xs:=HY) (by kernel_rfl) (by kernel_rfl) h (news:=[(⟨(ag n6 lH.toNat),vL⟩:aL)]) (m:=1) rfl ((h.pick 1).news rfl) OZ rfl λYp Yq w _ h r=>qq r<|ko [U]<|kl<|bn<|tn<|wl<|ko [vI (wi (lH+1)),vI (wi (lH+1))]<|kn<|?_;exact λ_ r=>⟨_,⟨Yp,Yq,(HX++[((⟨(ag n6 lH.toNat),vL⟩:aL),ag l8 0)]),(HY++[(⟨(ag n6 lH.toNat),vL⟩:aL)]),(wi (lH+1)),H,r.fj (h.se 8 [5,2,0,6,7])⟩,Nat.lt_succ_self _⟩
     refine wx<|te<|te<|bh<|tn<|?_;exact λ_ r=>⟨Dn,Ew,HX,HY,gH H,r.fj (h.se 5 [0,1,2])⟩
   clear h r;rintro a w ⟨OX,OY,Js,zS,rfl,j,r,h⟩;replace H:=kk2 Yo;refine qq r<|bn<|tn<|?_;exact λ_ r=>⟨_,⟨OX,OY,Js,zS,H,r.fj h⟩,Nat.lt_succ_self _⟩
  refine wx<|te<|te<|bh<|tn<|ks<|ko [U,U]<|kn<|wr<|λ_ r=>Ml<|qq r<|?_;cases H;exact WR b3 (h.se 3 [1])
def mm(K:Nat)(p0:aG):Nat→(List (List Int))→Int→Option ((List (List Int)))
 | 0,_,_=>none
 | k1+1,l7,g8=>(if g8<(((List.replicate p0.Code.length ([]:List Int)).length:Nat):Int)then if 0≤p0.bJ∧p0.bJ*8≤140737488355328 then if bT g8 l7.length then(mm K p0 k1 (l7.set g8.toNat (List.replicate p0.bJ.toNat (0:Int))) (wi (g8+1)))else none else none else some l7)
def mo(K:Nat)(n7:Int)(qQ:(aL×aL)):(List (List Int))→Option ((List (List Int)))
 | zg=>if bT qQ.1.ag zg.length then if bT n7 (ag zg qQ.1.ag.toNat).length then some (zg.set qQ.1.ag.toNat ((ag zg qQ.1.ag.toNat).set n7.toNat (Je (ag (ag zg qQ.1.ag.toNat) n7.toNat) qQ.1.state)))else none else none
def mq(K:Nat)(p0:aG):Nat→(List (List Int))→Int→Option ((List (List Int)))
 | 0,_,_=>none
 | k2+1,N4,n7=>(if n7<p0.bJ then eL (eL (nM K p0 n7) (λn6=>(eL (rR (mo K n7) N4 n6) (λzg=>some zg)))) (λuD=>(mq K p0 k2 uD (wi (n7+1))))else some N4)
def rW(K:Nat)(p0:aG):Option ((List (List Int))):=
 if 0≤((p0.Code.length:Nat):Int)∧((p0.Code.length:Nat):Int)*24≤140737488355328 then eL ((mm K p0 K (List.replicate p0.Code.length ([]:List Int)) 0)) (λl4=>(mq K p0 K l4 0))else none
theorem wR{K:Nat}{p0:aG}{aW:Option Addr}{bz:Nat}{r0:List (List Int)}(H:rW K p0=some r0)(h:Fit z (an (L)) w)(ct:cu L 5 cA aW p0.Code)(sS:cu L 5 gh (some ⟨1,0,none⟩) tY) :
 Calls Tryz.prog 170 #[.agg #[vI p0.aU,vI p0.cO,vI p0.bJ,.slice aW p0.Code.length bz]] w λe w=>∃y1 y2,e=.returned (.slice y1 r0.length y2)∧Fit z (an (En y1 y2 r0::L)) w:=by
 unfold rW at H;refine ke Tryz.func170 50 rfl λj=>ks<|kN h (#[vI p0.aU,vI p0.cO,vI p0.bJ,.slice aW p0.Code.length bz]) 99 λb1 w h=>ko [U]<|kn<|ks<|ko [U]<|kL h 3<|qg H λc2 H=>ko [vI ((p0.Code.length:Nat):Int)]<|λ_ r=>yU (own:=iL) (i:=((p0.Code.length:Nat):Int)) (bytes:=24) (zc:=#[.slice none 0 0]) ([]:List Int) (wn rfl) rfl rfl r rfl (by kernel_rfl) (by kernel_rfl) c2 rfl (by simp[Value.oneCell']) (by decide) (E:=28) (by kernel_rfl) (by kernel_rfl) rfl (λh=>gJ (x:=([]:List Int)) (pM:=none) (pO:=0) (h.jX)) h λdU w _ h r=>qq r<|ko [U]<|kn<|El H λo6 H Yr=>λ_ r=>dw (β:=Unit) (λ_ a w=>∃l4:List (List Int),l4=o6∧∃j,kP 50 (lk [(1,pA b1 0),(3,.slice dU (List.replicate p0.Code.length ([]:List Int)).length p0.Code.length)] j) a∧Fit z (an (n5 b1 p0 aW bz::qP 28 1 iL (.slice dU (List.replicate p0.Code.length ([]:List Int)).length p0.Code.length) l4::L)) w) ?_ ?_
 ·refine qq r<|ks<|ko [U,vI (((List.replicate p0.Code.length ([]:List Int)).length:Nat):Int),U]<|kn<|wb<|λ_ r=>dP (β:=Nat) id (λm a w=>∃l7:List (List Int),∃g8:Int,(mm K p0 m l7 g8)=some o6∧∃j,kP 50 (lk [(1,pA b1 0),(3,.slice dU (List.replicate p0.Code.length ([]:List Int)).length p0.Code.length),(12,vI (((List.replicate p0.Code.length ([]:List Int)).length:Nat):Int)),(13,vI g8)] j) a∧Fit z (an (n5 b1 p0 aW bz::qP 28 1 iL (.slice dU (List.replicate p0.Code.length ([]:List Int)).length p0.Code.length) l7::L)) w) K ⟨(List.replicate p0.Code.length ([]:List Int)),0,H,r.fj (h.se 2 [1,0])⟩<|?_;clear h r H;rintro k1 a w ⟨l7,g8,H,j,r,h⟩;cases k1 with
  | zero=>exact absurd H (by simp[mm])
  | succ k1 =>
   rw[mm]at H;refine qq r<|ks<|ko [vB (decide (g8<(((List.replicate p0.Code.length ([]:List Int)).length:Nat):Int)))]<|kn<|wq<|dR H (λc9 H=>?_) λc9 H=>?_
   ·refine wk<|tn<|wq<|wb<|ks<|ko [U,U]<|kn<|wl<|ko [U,U,U]<|kL h 2<|qg H λnV H=>λ_ r=>pW (i:=p0.bJ) (bytes:=8) (zc:=#[vI 0]) (0:Int) (wn rfl) rfl rfl r rfl (by kernel_rfl) (by kernel_rfl) nV bq (E:=3) (by kernel_rfl) (by kernel_rfl) rfl rfl h λax w _ h r=>qq r<|qg H λzQ H=>kp (pA (bg dU) (g8.toNat*1)) (Bp (k:=.i64) (E:=28) rfl (by kernel_rfl) (by kernel_rfl) (by kernel_rfl) (by kernel_rfl) (h.pick 2) zQ)<|?_;obtain⟨aaN,h⟩:=h.m2.lU (bf zQ);obtain⟨oP,po,Gh,h⟩:=kZ (h.m1);subst Gh;refine qh h.m1 λh=>λ_ r=>xX (wn rfl) rfl r rfl (by kernel_rfl) (by kernel_rfl) (v:=.slice ax (List.replicate p0.bJ.toNat (0:Int)).length p0.bJ.toNat) rfl rfl (by kernel_rfl) (by kernel_rfl) h (i:=g8.toNat) (f:=0) (by decide) λw h=>qq r<|kl<|bn<|tn<|wl<|ko [vI (wi (g8+1)),vI (wi (g8+1))]<|kn<|qh h.m2 λh=>?_;replace h:=gJ (x:=(List.replicate p0.bJ.toNat (0:Int))) h;replace h:=(h.m1).uK;exact λ_ r=>⟨_,⟨(l7.set g8.toNat (List.replicate p0.bJ.toNat (0:Int))),(wi (g8+1)),H,r.fj (h.se 3 [2,0])⟩,Nat.lt_succ_self _⟩
   refine wx<|te<|te<|bh<|tn<|?_;exact λ_ r=>⟨(),l7,gH H,r.fj h⟩
 clear h r;rintro _ a w ⟨l4,rfl,j,r,h⟩;replace H:=Eg Yr;refine qq r<|wq<|ks<|ko [U]<|kL h 2<|ko [U]<|kn<|wb<|λ_ r=>dP (β:=Nat) id (λm a w=>∃N4:List (List Int),∃n7:Int,(mq K p0 m N4 n7)=some r0∧∃j,kP 50 (lk [(1,pA b1 0),(3,.slice dU (List.replicate p0.Code.length ([]:List Int)).length p0.Code.length),(24,vI p0.bJ),(25,vI n7)] j) a∧Fit z (an (n5 b1 p0 aW bz::qP 28 1 iL (.slice dU (List.replicate p0.Code.length ([]:List Int)).length p0.Code.length) N4::L)) w) K ⟨l4,0,H,r.fj h⟩<|?_;clear h r H;rintro k2 a w ⟨N4,n7,H,j,r,h⟩;cases k2 with
 | zero=>exact absurd H (by simp[mq])
 | succ k2 =>
  rw[mq]at H;refine qq r<|ks<|ko [vB (decide (n7<p0.bJ))]<|kn<|wq<|dR H (λsy H=>?_) λsy H=>?_
  ·refine wk<|tn<|El H λo22 H Ys=>λ_ r=>dw (β:=Unit) (λ_ a w=>∃uD:List (List Int),uD=o22∧∃j,kP 50 (lk [(1,pA b1 0),(3,.slice dU (List.replicate p0.Code.length ([]:List Int)).length p0.Code.length),(24,vI p0.bJ),(25,vI n7)] j) a∧Fit z (an (n5 b1 p0 aW bz::qP 28 1 iL (.slice dU (List.replicate p0.Code.length ([]:List Int)).length p0.Code.length) uD::L)) w) ?_ ?_
   ·refine qq r<|wb<|ks<|ko [U,U]<|kn<|ks<|kM h<|fO H λn6 OQ H=>ko [U]<|WQ (xD (aW:=aW) (bz:=bz) (ct:=(cu.up 2 ct)) (sS:=cu.up 2 sS) (H:=OQ) (h:=h) :) λUR w h=>λ_ r=>Mq (kt:=255) (et:=255) (wn rfl) rfl rfl r rfl (by kernel_rfl) (by kernel_rfl) h λb26 w _ h r=>qq r<|kn<|wb<|fO H λQs LL H=>λ_ r=>HF n6 (mo K n7) N4 (λUS s_ a w=>∃zg:List (List Int),zg=s_∧∃j,kP 50 (lk [(1,pA b1 0),(3,.slice dU (List.replicate p0.Code.length ([]:List Int)).length p0.Code.length),(5,vI n7),(24,vI p0.bJ),(25,vI n7),(31,pA b26 0)] j) a∧Fit z (an (n5 b1 p0 aW bz::qP 28 1 iL (.slice dU (List.replicate p0.Code.length ([]:List Int)).length p0.Code.length) zg::BX b26 UR n6.length US::mapOf dg dg UR n6::L)) w) ⟨N4,rfl,r.fj (h.se 4 [2,3,0,1])⟩<|?_;clear h r;rintro US _ a w hs_ ⟨zg,rfl,j,r,h⟩;refine qq r<|ks<|qh h.m3.m3 λh=>λ_ r=>OH (wn rfl) rfl rfl r rfl (by kernel_rfl) rfl h ?_ ?_
    ·clear r;intro UT a r;have e_:=hs_.done LL UT;subst e_;refine qq r<|ko [U]<|kn<|wq<|λ_ r=>ik r (b:=false) rfl<|qq r<|wx<|te<|te<|bh<|bn<|tn<|?_;exact λ_ r=>⟨(),zg,gH H,r.fj (h.se 4 [2,3])⟩
    clear r h;intro aaO qQ w a hx_ hi_ h r;obtain⟨s1_,Hs_,hp_⟩:=hs_.push LL hx_ hi_;clear H;have H:=Hs_;rw[mo]at H;refine qq r<|ko [U]<|kn<|wq<|λ_ r=>gb r (b:=true) rfl<|qq r<|wk<|tn<|wb<|ks<|λ_ r=>Mr (wn rfl) rfl rfl r rfl (by kernel_rfl) rfl h hx_<|?_;refine ko [U]<|kN h (#[vI 0,vI 0]) 255 λEz w h=>kA h (Jo Ez qQ.1) λw h=>kn<|qg H λzb H=>?_;obtain⟨aaP,h⟩:=h.m4.lU (bf zb);obtain⟨KA,Rs,Ku,h⟩:=kZ (h.m1);subst Ku;refine qg H λFo H=>λ_ r=>fy [(Ez,0,[vI qQ.1.ag]),(bg dU,qQ.1.ag.toNat*1,[.slice KA (ag zg qQ.1.ag.toNat).length Rs]),(bg KA,n7.toNat*1,[vI (ag (ag zg qQ.1.ag.toNat) n7.toNat)]),(Ez,1,[vI qQ.1.state])] [1,3,6,8] 13 h (λh=>⟨⟨(h.pick 2).cell 0 rfl,gE⟩,⟨(h.pick 1).nI (by decide) (f:=0) rfl,gE⟩,⟨h.cL bq (f:=0) (bf Fo) rfl,gE⟩,⟨(h.pick 2).cell 1 rfl,gE⟩,gE⟩) λw h hd =>qq r<|gg hd 9 [(0,36,.slice dU (List.replicate p0.Code.length ([]:List Int)).length p0.Code.length),(1,37,pA Ez 0),(5,41,vI n7),(8,44,pA Ez 1)]<|kx hd 0 8 2 rfl rfl<|λ_ r=>mJ hd 7 3 rfl (wn rfl) r (pA (bg dU) (qQ.1.ag.toNat*1)) (hrun:=λw=>sR (k:=.i64) (E:=28) rfl (by kernel_rfl) (by kernel_rfl) (by kernel_rfl) (by kernel_rfl) (h.pick 1) zb)<|?_;refine kx hd 1 6 4 rfl rfl<|λ_ r=>mJ hd 5 6 rfl (wn rfl) r (pA (bg KA) (n7.toNat*1)) (hrun:=λw=>kW (k:=.i64) (E:=3) rfl (by kernel_rfl) (by kernel_rfl) (by kernel_rfl) (by kernel_rfl) h Fo)<|?_;refine kx hd 2 4 7 rfl rfl<|kx hd 3 3 9 rfl rfl<|λ_ r=>mJ hd 2 10 rfl (wn rfl) r (vI (Je (ag (ag zg qQ.1.ag.toNat) n7.toNat) qQ.1.state)) (hrun:=λw=>ror rfl (by kernel_rfl) (by kernel_rfl))<|?_;refine λ_ r=>mJ hd 1 11 rfl (wn rfl) r (pA (bg KA) (n7.toNat*1)) (hrun:=λw=>kW (k:=.i64) (E:=3) rfl (by kernel_rfl) (by kernel_rfl) (by kernel_rfl) (by kernel_rfl) h Fo)<|?_;refine λ_ r=>eZ 12 rfl<|HC (wn rfl) r bq h n7.toNat 0 (vI (Je (ag (ag zg qQ.1.ag.toNat) n7.toNat) qQ.1.state)) (ag (ag zg qQ.1.ag.toNat) n7.toNat) (Je (ag (ag zg qQ.1.ag.toNat) n7.toNat) qQ.1.state) (bf Fo) λw h=>qq r<|kn<|λ_ r=>xE<|ji<|qq r<|bn<|tn<|?_;have HQ:(ag zg qQ.1.ag.toNat).length=((ag zg qQ.1.ag.toNat).set n7.toNat (Je (ag (ag zg qQ.1.ag.toNat) n7.toNat) qQ.1.state)).length:=h.eY;replace h:=Fit.jZ HQ (λq_=>rowOf 3 1 dK (.slice KA q_ Rs) ((ag zg qQ.1.ag.toNat).set n7.toNat (Je (ag (ag zg qQ.1.ag.toNat) n7.toNat) qQ.1.state))) (λq_=>wB 28 1 iL (.slice dU (List.replicate p0.Code.length ([]:List Int)).length p0.Code.length) zg qQ.1.ag.toNat [.slice KA q_ Rs]) h;replace h:=gJ (x:=((ag zg qQ.1.ag.toNat).set n7.toNat (Je (ag (ag zg qQ.1.ag.toNat) n7.toNat) qQ.1.state))) h;replace h:=(h.m1).uK;exact λ_ r=>⟨_,_,hp_,(zg.set qQ.1.ag.toNat ((ag zg qQ.1.ag.toNat).set n7.toNat (Je (ag (ag zg qQ.1.ag.toNat) n7.toNat) qQ.1.state))),gH H,r.fj (h.se 5 [4,0,2,3])⟩
   clear h r;rintro _ a w ⟨uD,rfl,j,r,h⟩;replace H:=Eg Ys;refine qq r<|wl<|ko [vI (wi (n7+1)),vI (wi (n7+1))]<|kn<|?_;exact λ_ r=>⟨_,⟨uD,(wi (n7+1)),H,r.fj h⟩,Nat.lt_succ_self _⟩
  refine wx<|te<|te<|bh<|tn<|ks<|ko [U,U]<|kn<|wr<|λ_ r=>ez (v:=.slice dU (List.replicate p0.Code.length ([]:List Int)).length p0.Code.length) rfl r (by kernel_rfl)<|qh h.m1 λh=>?_;have MH:(List.replicate p0.Code.length ([]:List Int)).length=N4.length:=h.HA;replace h:=Fit.Dd MH (λq_=>qP 28 1 iL (.slice dU q_ p0.Code.length) N4) h;cases H;exact⟨dU,p0.Code.length,(by first | rfl | simp only[MH]),h.se 2 [0]⟩
def iu(K:Nat)(r2:List (List Int))(g6:Int):Nat→Int→Int→Option (Int)
 | 0,_,_=>none
 | k2+1,lH,xF=>(if xF<(((ag r2 g6.toNat).length:Nat):Int)then if bT xF (ag r2 g6.toNat).length then(if(gO (ag (ag r2 g6.toNat) xF.toNat) (2:Int))=0 then(iu K r2 g6 k2 lH (wi (xF+1)))else(iu K r2 g6 k2 56 (wi (xF+1))))else none else some lH)
def jw(K:Nat)(p0:Int)(p1:aG)(r2:List (List Int)):Nat→Int→Option ((Unit)⊕kQ)
 | 0,_=>none
 | k1+1,g6=>(if g6<((p1.Code.length:Nat):Int)then vg (if bT g6 p1.Code.length then eL ((if(ag p1.Code g6.toNat).aa6=5 then if bT g6 r2.length then if bT (ag p1.Code g6.toNat).A (ag r2 g6.toNat).length then(if(gO (ag (ag r2 g6.toNat) (ag p1.Code g6.toNat).A.toNat) (2:Int))=0 then some 0 else some 54)else none else none else(if(ag p1.Code g6.toNat).aa6=7 then if bT g6 r2.length then if bT (ag p1.Code g6.toNat).B (ag r2 g6.toNat).length then(if(gO (ag (ag r2 g6.toNat) (ag p1.Code g6.toNat).B.toNat) (3:Int))=0 then some 0 else some 55)else none else none else(if(ag p1.Code g6.toNat).aa6=9 then if bT g6 r2.length then(iu K r2 g6 K 0 0)else none else some 0)))) (λJw=>(if Jw=0 then some (.inl ())else some (.inr (.inr (⟨Jw,p0,g6⟩:kQ)))))else none) ((jw K p0 p1 r2 k1 (wi (g6+1))))else some (.inl ()))
def rj(K:Nat)(p0:Int)(p1:aG):Option ((Unit)⊕kQ):=
 eL (rW K p1) (λr2=>(jw K p0 p1 r2 K 0))
theorem Cg{K:Nat}{p0:Int}{p1:aG}{cz:Option Addr}{cE:Nat}(H:rj K p0 p1=some (.inl ()))(h:Fit z (an (L)) w)(dN:cu L 5 cA cz p1.Code)(sS:cu L 5 gh (some ⟨1,0,none⟩) tY) :
 Calls Tryz.prog 116 #[vI p0,.agg #[vI p1.aU,vI p1.cO,vI p1.bJ,.slice cz p1.Code.length cE]] w λe w=>e=.returned (.tuple #[])∧Fit z (an (L)) w:=by
 unfold rj at H;refine ke Tryz.func116 70 rfl λj=>ks<|kN h (#[vI p1.aU,vI p1.cO,vI p1.bJ,.slice cz p1.Code.length cE]) 99 λb1 w h=>kn<|ks<|kM h<|fO H λr2 e3 H=>Ri (wR (aW:=cz) (bz:=cE) (ct:=(cu.up 1 dN)) (sS:=cu.up 1 sS) (H:=e3) (h:=h) :) λx4 x5 w h=>ko [U]<|kn<|ks<|ko [U]<|kL (h.pick 1) 3<|ko [vI ((p1.Code.length:Nat):Int),U]<|kn<|wb<|λ_ r=>dP (β:=Nat) id (λm a w=>∃g6:Int,(jw K p0 p1 r2 m g6)=some (.inl ())∧∃j,kP 70 (lk [(0,vI p0),(4,.slice x4 r2.length x5),(13,.slice cz p1.Code.length cE),(14,vI ((p1.Code.length:Nat):Int)),(15,vI g6)] j) a∧Fit z (an (En x4 x5 r2::L)) w) K ⟨0,H,r.fj (h.se 2 [0])⟩<|?_;clear h r H;rintro k1 a w ⟨g6,H,j,r,h⟩;cases k1 with
 | zero=>exact absurd H (by simp[jw])
 | succ k1 =>
  rw[jw]at H;refine qq r<|ks<|ko [vB (decide (g6<((p1.Code.length:Nat):Int)))]<|kn<|wq<|dR H (λc7 H=>?_) λc7 H=>?_
  ·refine wk<|tn<|?_;obtain⟨o9,H,OP⟩:=AW H;refine λ_ r=>dw (β:=Unit) (λ_ a w=>.inl ()=o9∧∃j,kP 70 (lk [(0,vI p0),(4,.slice x4 r2.length x5),(13,.slice cz p1.Code.length cE),(14,vI ((p1.Code.length:Nat):Int)),(15,vI g6)] j) a∧Fit z (an (En x4 x5 r2::L)) w) ?_ ?_
   ·refine qq r<|wb<|ks<|qg H λnV H=>ko [U]<|kj 146 cE dN nV<|λ_ r=>tK (wn rfl) r (gP (ag p1.Code g6.toNat)) (cs:=fY (ag p1.Code g6.toNat)) ⟨dN.cell nV (h.dn 1) 0 rfl,dN.cell nV (h.dn 1) 1 rfl,dN.cell nV (h.dn 1) 2 rfl,dN.cell nV (h.dn 1) 3 rfl,dN.cell nV (h.dn 1) 4 rfl,gE⟩<|?_;refine kN h (#[vI 0,vI 0,vI 0,vI 0,vI 0]) 146 λHN w h=>ko [U]<|kA h (tv HN (ag p1.Code g6.toNat)) λw h=>kn<|ks<|ko [U]<|kn<|El H λUU H Rt=>λ_ r=>dw (β:=Unit) (λ_ a w=>∃Jw:Int,Jw=UU∧∃j,kP 70 (lk [(0,vI p0),(4,.slice x4 r2.length x5),(5,vI g6),(7,vI Jw),(13,.slice cz p1.Code.length cE),(14,vI ((p1.Code.length:Nat):Int)),(15,vI g6)] j) a∧Fit z (an (En x4 x5 r2::L)) w) ?_ ?_
    ·refine qq r<|ks<|ko [U]<|kL h 0<|kn<|wb<|ks<|ko [vB ((ag p1.Code g6.toNat).aa6==5),vB ((ag p1.Code g6.toNat).aa6==5)]<|kn<|dR H (λnE H=>?_) λnE H=>?_
     ·refine wq<|qg H λtQ H=>?_;obtain⟨UW,h⟩:=h.m1.lU (bf tQ);obtain⟨Ag,H6,HM,h⟩:=kZ (h.m1);subst HM;refine qg H λoO H=>λ_ r=>fy [(bg x4,g6.toNat*1,[.slice Ag (ag r2 g6.toNat).length H6]),(HN,1,[vI (ag p1.Code g6.toNat).A]),(bg Ag,(ag p1.Code g6.toNat).A.toNat*1,[vI (ag (ag r2 g6.toNat) (ag p1.Code g6.toNat).A.toNat)])] [2,4,6] 10 h (λh=>⟨⟨(h.pick 1).nI (by decide) (f:=0) rfl,gE⟩,⟨(h.pick 2).cell 1 rfl,gE⟩,⟨h.cL bq (f:=0) (bf oO) rfl,gE⟩,gE⟩) λw h hd =>qq r<|gg hd 8 [(0,24,.slice x4 r2.length x5),(1,25,vI g6)]<|λ_ r=>mJ hd 7 2 rfl (wn rfl) r (pA (bg x4) (g6.toNat*1)) (hrun:=λw=>sR (k:=.i64) (E:=28) rfl (by kernel_rfl) (by kernel_rfl) (by kernel_rfl) (by kernel_rfl) (h.pick 1) tQ)<|?_;refine gg hd 6 [(4,28,pA HN 1)]<|kx hd 0 5 3 rfl rfl<|kx hd 1 4 5 rfl rfl<|λ_ r=>mJ hd 3 6 rfl (wn rfl) r (pA (bg Ag) ((ag p1.Code g6.toNat).A.toNat*1)) (hrun:=λw=>kW (k:=.i64) (E:=3) rfl (by kernel_rfl) (by kernel_rfl) (by kernel_rfl) (by kernel_rfl) h oO)<|?_;refine kx hd 2 2 7 rfl rfl<|λ_ r=>mJ hd 1 8 rfl (wn rfl) r (vI (gO (ag (ag r2 g6.toNat) (ag p1.Code g6.toNat).A.toNat) (2:Int))) (hrun:=λw=>rand rfl (by kernel_rfl) (by kernel_rfl))<|?_;refine gg hd 0 [(9,33,vB ((gO (ag (ag r2 g6.toNat) (ag p1.Code g6.toNat).A.toNat) (2:Int)) != 0))]<|λ_ r=>ji<|qq r<|tn<|oA H (λDl H=>?_) λDl H=>?_
      ·refine wk<|bn<|tn<|?_;replace h:=gJ (x:=(ag r2 g6.toNat)) h;replace h:=(h.m1).gA;exact λ_ r=>⟨(),0,gH H,r.fj (h.se 2 [0])⟩
      refine wl<|ko [U]<|kl<|bn<|tn<|?_;replace h:=gJ (x:=(ag r2 g6.toNat)) h;replace h:=(h.m1).gA;exact λ_ r=>⟨(),54,gH H,r.fj (h.se 2 [0])⟩
     refine ks<|ko [vB ((ag p1.Code g6.toNat).aa6==7),vB ((ag p1.Code g6.toNat).aa6==7)]<|kn<|dR H (λvY H=>?_) λvY H=>?_
     ·refine wq<|qg H λwS H=>?_;obtain⟨Yt,h⟩:=h.m1.lU (bf wS);obtain⟨uQ,xA,Kx,h⟩:=kZ (h.m1);subst Kx;refine qg H λyK H=>λ_ r=>fy [(bg x4,g6.toNat*1,[.slice uQ (ag r2 g6.toNat).length xA]),(HN,2,[vI (ag p1.Code g6.toNat).B]),(bg uQ,(ag p1.Code g6.toNat).B.toNat*1,[vI (ag (ag r2 g6.toNat) (ag p1.Code g6.toNat).B.toNat)])] [2,4,6] 10 h (λh=>⟨⟨(h.pick 1).nI (by decide) (f:=0) rfl,gE⟩,⟨(h.pick 2).cell 2 rfl,gE⟩,⟨h.cL bq (f:=0) (bf yK) rfl,gE⟩,gE⟩) λw h hd =>qq r<|gg hd 8 [(0,36,.slice x4 r2.length x5),(1,37,vI g6)]<|λ_ r=>mJ hd 7 2 rfl (wn rfl) r (pA (bg x4) (g6.toNat*1)) (hrun:=λw=>sR (k:=.i64) (E:=28) rfl (by kernel_rfl) (by kernel_rfl) (by kernel_rfl) (by kernel_rfl) (h.pick 1) wS)<|?_;refine gg hd 6 [(4,40,pA HN 2)]<|kx hd 0 5 3 rfl rfl<|kx hd 1 4 5 rfl rfl<|λ_ r=>mJ hd 3 6 rfl (wn rfl) r (pA (bg uQ) ((ag p1.Code g6.toNat).B.toNat*1)) (hrun:=λw=>kW (k:=.i64) (E:=3) rfl (by kernel_rfl) (by kernel_rfl) (by kernel_rfl) (by kernel_rfl) h yK)<|?_;refine kx hd 2 2 7 rfl rfl<|λ_ r=>mJ hd 1 8 rfl (wn rfl) r (vI (gO (ag (ag r2 g6.toNat) (ag p1.Code g6.toNat).B.toNat) (3:Int))) (hrun:=λw=>rand rfl (by kernel_rfl) (by kernel_rfl))<|?_;refine gg hd 0 [(9,45,vB ((gO (ag (ag r2 g6.toNat) (ag p1.Code g6.toNat).B.toNat) (3:Int)) != 0))]<|λ_ r=>ji<|qq r<|tn<|oA H (λrS H=>?_) λrS H=>?_
      ·refine wk<|bn<|tn<|?_;replace h:=gJ (x:=(ag r2 g6.toNat)) h;replace h:=(h.m1).gA;exact λ_ r=>⟨(),0,gH H,r.fj (h.se 2 [0])⟩
      refine wl<|ko [U]<|kl<|bn<|tn<|?_;replace h:=gJ (x:=(ag r2 g6.toNat)) h;replace h:=(h.m1).gA;exact λ_ r=>⟨(),55,gH H,r.fj (h.se 2 [0])⟩
     refine ks<|ko [vB ((ag p1.Code g6.toNat).aa6==9),vB ((ag p1.Code g6.toNat).aa6==9)]<|kn<|dR H (λuR H=>?_) λuR H=>?_
     ·refine ks<|qg H λB9 H=>ko [U,U]<|kp (pA (bg x4) (g6.toNat*1)) (Bp (k:=.i64) (E:=28) rfl (by kernel_rfl) (by kernel_rfl) (by kernel_rfl) (by kernel_rfl) (h.pick 1) B9)<|?_;obtain⟨Yu,h⟩:=h.m1.lU (bf B9);obtain⟨EA,EB,Eu,h⟩:=kZ (h.m1);subst Eu;refine λ_ r=>ld (wn rfl) r (.slice EA (ag r2 g6.toNat).length EB) ((h.pick 1).nI (by decide) (f:=0) rfl)<|?_;refine ko [vI (((ag r2 g6.toNat).length:Nat):Int),U]<|kn<|wb<|λ_ r=>dP (β:=Nat) id (λm a w=>∃lH:Int,∃xF:Int,(iu K r2 g6 m lH xF)=some UU∧∃j,kP 70 (lk [(0,vI p0),(4,.slice x4 r2.length x5),(5,vI g6),(7,vI lH),(13,.slice cz p1.Code.length cE),(14,vI ((p1.Code.length:Nat):Int)),(15,vI g6),(51,.slice EA (ag r2 g6.toNat).length EB),(52,vI (((ag r2 g6.toNat).length:Nat):Int)),(53,vI xF)] j) a∧Fit z (an (wB 28 1 iL (.slice x4 r2.length x5) r2 g6.toNat [.slice EA (ag r2 g6.toNat).length EB]::Br EA EB (ag r2 g6.toNat)::L)) w) K ⟨0,0,H,r.fj (h.se 3 [1,0])⟩<|?_;clear h r H;rintro k2 a w ⟨lH,xF,H,j,r,h⟩;cases k2 with
      | zero=>exact absurd H (by simp[iu])
      | succ k2 =>
       rw[iu]at H;refine qq r<|ks<|ko [vB (decide (xF<(((ag r2 g6.toNat).length:Nat):Int)))]<|kn<|wq<|dR H (λFo H=>?_) λFo H=>?_
       ·refine wk<|tn<|wq<|wb<|ks<|qg H λRu H=>ki (h.pick 1) Ru<|λ_ r=>ld (wn rfl) r (vI (ag (ag r2 g6.toNat) xF.toNat)) ((h.pick 1).cL bq (f:=0) (bf Ru) rfl)<|?_;refine ko [U]<|kn<|ks<|ko [U]<|kp (vI (gO (ag (ag r2 g6.toNat) xF.toNat) (2:Int))) (rand rfl (by kernel_rfl) (by kernel_rfl))<|ko [vB ((gO (ag (ag r2 g6.toNat) xF.toNat) (2:Int)) != 0)]<|kn<|oA H (λFp H=>?_) λFp H=>?_
        ·refine wk<|bn<|tn<|wl<|ko [vI (wi (xF+1)),vI (wi (xF+1))]<|kn<|?_;exact λ_ r=>⟨_,⟨lH,(wi (xF+1)),H,r.fj h⟩,Nat.lt_succ_self _⟩
        refine wl<|ko [U]<|kl<|bn<|tn<|wl<|ko [vI (wi (xF+1)),vI (wi (xF+1))]<|kn<|?_;exact λ_ r=>⟨_,⟨56,(wi (xF+1)),H,r.fj h⟩,Nat.lt_succ_self _⟩
       refine wx<|te<|te<|bh<|bn<|tn<|qh h.m1 λh=>?_;replace h:=gJ (x:=(ag r2 g6.toNat)) h;replace h:=(h.m1).gA;exact λ_ r=>⟨(),lH,gH H,r.fj h⟩
     refine wk<|bn<|tn<|?_;exact λ_ r=>⟨(),0,gH H,r.fj (h.se 2 [1])⟩
    clear h r;rintro _ a w ⟨Jw,rfl,j,r,h⟩;replace H:=Eg Rt;refine qq r<|ks<|ko [U,vB (Jw != 0)]<|kn<|oA H (λGi H=>?_) λGi H=>?_
    ·refine wk<|bn<|tn<|?_;exact λ_ r=>⟨(),gH H,r.fj h⟩
    refine wl<|ko [U,U,U,U,U,U]<|λ_ r=>zZ (wn rfl) r rfl (T:=194) (u:=.agg #[vI Jw,vI p0,vI g6]) (by kernel_rfl)<|pH<|lF<|lF<|pH<|xl r<|?_;replace H:=sQ H OP;cases H
   clear h r;rintro _ a w ⟨rfl,j,r,h⟩;replace H:=AX OP;refine qq r<|wl<|ko [vI (wi (g6+1)),vI (wi (g6+1))]<|kn<|?_;exact λ_ r=>⟨_,⟨(wi (g6+1)),H,r.fj h⟩,Nat.lt_succ_self _⟩
  refine wx<|te<|te<|bh<|?_;cases H;exact Jm (h.se 1 [])
theorem Ch{K:Nat}{p0:Int}{p1:aG}{cz:Option Addr}{cE:Nat}{rP:kQ}(H:rj K p0 p1=some (.inr rP))(h:Fit z (an (L)) w)(dN:cu L 5 cA cz p1.Code)(sS:cu L 5 gh (some ⟨1,0,none⟩) tY) :
 Calls Tryz.prog 116 #[vI p0,.agg #[vI p1.aU,vI p1.cO,vI p1.bJ,.slice cz p1.Code.length cE]] w λe w=>e=.panicked [{v:=.iface 194 (vH rP),recovered:=false}]∧Fit z (an (L)) w:=by
 unfold rj at H;refine ke Tryz.func116 70 rfl λj=>ks<|kN h (#[vI p1.aU,vI p1.cO,vI p1.bJ,.slice cz p1.Code.length cE]) 99 λb1 w h=>kn<|ks<|kM h<|fO H λr2 e3 H=>Ri (wR (aW:=cz) (bz:=cE) (ct:=(cu.up 1 dN)) (sS:=cu.up 1 sS) (H:=e3) (h:=h) :) λx4 x5 w h=>ko [U]<|kn<|ks<|ko [U]<|kL (h.pick 1) 3<|ko [vI ((p1.Code.length:Nat):Int),U]<|kn<|wb<|λ_ r=>dP (β:=Nat) id (λm a w=>∃g6:Int,(jw K p0 p1 r2 m g6)=some (.inr rP)∧∃j,kP 70 (lk [(0,vI p0),(4,.slice x4 r2.length x5),(13,.slice cz p1.Code.length cE),(14,vI ((p1.Code.length:Nat):Int)),(15,vI g6)] j) a∧Fit z (an (En x4 x5 r2::L)) w) K ⟨0,H,r.fj (h.se 2 [0])⟩<|?_;clear h r H;rintro k1 a w ⟨g6,H,j,r,h⟩;cases k1 with
 | zero=>exact absurd H (by simp[jw])
 | succ k1 =>
  rw[jw]at H;refine qq r<|ks<|ko [vB (decide (g6<((p1.Code.length:Nat):Int)))]<|kn<|wq<|dR H (λc7 H=>?_) λc7 H=>?_
  ·refine wk<|tn<|?_;obtain⟨o9,H,OP⟩:=AW H;refine λ_ r=>dw (β:=Unit) (λ_ a w=>.inl ()=o9∧∃j,kP 70 (lk [(0,vI p0),(4,.slice x4 r2.length x5),(13,.slice cz p1.Code.length cE),(14,vI ((p1.Code.length:Nat):Int)),(15,vI g6)] j) a∧Fit z (an (En x4 x5 r2::L)) w) ?_ ?_
   ·refine qq r<|wb<|ks<|qg H λnV H=>ko [U]<|kj 146 cE dN nV<|λ_ r=>tK (wn rfl) r (gP (ag p1.Code g6.toNat)) (cs:=fY (ag p1.Code g6.toNat)) ⟨dN.cell nV (h.dn 1) 0 rfl,dN.cell nV (h.dn 1) 1 rfl,dN.cell nV (h.dn 1) 2 rfl,dN.cell nV (h.dn 1) 3 rfl,dN.cell nV (h.dn 1) 4 rfl,gE⟩<|?_;refine kN h (#[vI 0,vI 0,vI 0,vI 0,vI 0]) 146 λHN w h=>ko [U]<|kA h (tv HN (ag p1.Code g6.toNat)) λw h=>kn<|ks<|ko [U]<|kn<|El H λUU H Rt=>λ_ r=>dw (β:=Unit) (λ_ a w=>∃Jw:Int,Jw=UU∧∃j,kP 70 (lk [(0,vI p0),(4,.slice x4 r2.length x5),(5,vI g6),(7,vI Jw),(13,.slice cz p1.Code.length cE),(14,vI ((p1.Code.length:Nat):Int)),(15,vI g6)] j) a∧Fit z (an (En x4 x5 r2::L)) w) ?_ ?_
    ·refine qq r<|ks<|ko [U]<|kL h 0<|kn<|wb<|ks<|ko [vB ((ag p1.Code g6.toNat).aa6==5),vB ((ag p1.Code g6.toNat).aa6==5)]<|kn<|dR H (λnE H=>?_) λnE H=>?_
     ·refine wq<|qg H λtQ H=>?_;obtain⟨UW,h⟩:=h.m1.lU (bf tQ);obtain⟨Ag,H6,HM,h⟩:=kZ (h.m1);subst HM;refine qg H λoO H=>λ_ r=>fy [(bg x4,g6.toNat*1,[.slice Ag (ag r2 g6.toNat).length H6]),(HN,1,[vI (ag p1.Code g6.toNat).A]),(bg Ag,(ag p1.Code g6.toNat).A.toNat*1,[vI (ag (ag r2 g6.toNat) (ag p1.Code g6.toNat).A.toNat)])] [2,4,6] 10 h (λh=>⟨⟨(h.pick 1).nI (by decide) (f:=0) rfl,gE⟩,⟨(h.pick 2).cell 1 rfl,gE⟩,⟨h.cL bq (f:=0) (bf oO) rfl,gE⟩,gE⟩) λw h hd =>qq r<|gg hd 8 [(0,24,.slice x4 r2.length x5),(1,25,vI g6)]<|λ_ r=>mJ hd 7 2 rfl (wn rfl) r (pA (bg x4) (g6.toNat*1)) (hrun:=λw=>sR (k:=.i64) (E:=28) rfl (by kernel_rfl) (by kernel_rfl) (by kernel_rfl) (by kernel_rfl) (h.pick 1) tQ)<|?_;refine gg hd 6 [(4,28,pA HN 1)]<|kx hd 0 5 3 rfl rfl<|kx hd 1 4 5 rfl rfl<|λ_ r=>mJ hd 3 6 rfl (wn rfl) r (pA (bg Ag) ((ag p1.Code g6.toNat).A.toNat*1)) (hrun:=λw=>kW (k:=.i64) (E:=3) rfl (by kernel_rfl) (by kernel_rfl) (by kernel_rfl) (by kernel_rfl) h oO)<|?_;refine kx hd 2 2 7 rfl rfl<|λ_ r=>mJ hd 1 8 rfl (wn rfl) r (vI (gO (ag (ag r2 g6.toNat) (ag p1.Code g6.toNat).A.toNat) (2:Int))) (hrun:=λw=>rand rfl (by kernel_rfl) (by kernel_rfl))<|?_;refine gg hd 0 [(9,33,vB ((gO (ag (ag r2 g6.toNat) (ag p1.Code g6.toNat).A.toNat) (2:Int)) != 0))]<|λ_ r=>ji<|qq r<|tn<|oA H (λDl H=>?_) λDl H=>?_
      ·refine wk<|bn<|tn<|?_;replace h:=gJ (x:=(ag r2 g6.toNat)) h;replace h:=(h.m1).gA;exact λ_ r=>⟨(),0,gH H,r.fj (h.se 2 [0])⟩
      refine wl<|ko [U]<|kl<|bn<|tn<|?_;replace h:=gJ (x:=(ag r2 g6.toNat)) h;replace h:=(h.m1).gA;exact λ_ r=>⟨(),54,gH H,r.fj (h.se 2 [0])⟩
     refine ks<|ko [vB ((ag p1.Code g6.toNat).aa6==7),vB ((ag p1.Code g6.toNat).aa6==7)]<|kn<|dR H (λvY H=>?_) λvY H=>?_
     ·refine wq<|qg H λwS H=>?_;obtain⟨Yt,h⟩:=h.m1.lU (bf wS);obtain⟨uQ,xA,Kx,h⟩:=kZ (h.m1);subst Kx;refine qg H λyK H=>λ_ r=>fy [(bg x4,g6.toNat*1,[.slice uQ (ag r2 g6.toNat).length xA]),(HN,2,[vI (ag p1.Code g6.toNat).B]),(bg uQ,(ag p1.Code g6.toNat).B.toNat*1,[vI (ag (ag r2 g6.toNat) (ag p1.Code g6.toNat).B.toNat)])] [2,4,6] 10 h (λh=>⟨⟨(h.pick 1).nI (by decide) (f:=0) rfl,gE⟩,⟨(h.pick 2).cell 2 rfl,gE⟩,⟨h.cL bq (f:=0) (bf yK) rfl,gE⟩,gE⟩) λw h hd =>qq r<|gg hd 8 [(0,36,.slice x4 r2.length x5),(1,37,vI g6)]<|λ_ r=>mJ hd 7 2 rfl (wn rfl) r (pA (bg x4) (g6.toNat*1)) (hrun:=λw=>sR (k:=.i64) (E:=28) rfl (by kernel_rfl) (by kernel_rfl) (by kernel_rfl) (by kernel_rfl) (h.pick 1) wS)<|?_;refine gg hd 6 [(4,40,pA HN 2)]<|kx hd 0 5 3 rfl rfl<|kx hd 1 4 5 rfl rfl<|λ_ r=>mJ hd 3 6 rfl (wn rfl) r (pA (bg uQ) ((ag p1.Code g6.toNat).B.toNat*1)) (hrun:=λw=>kW (k:=.i64) (E:=3) rfl (by kernel_rfl) (by kernel_rfl) (by kernel_rfl) (by kernel_rfl) h yK)<|?_;refine kx hd 2 2 7 rfl rfl<|λ_ r=>mJ hd 1 8 rfl (wn rfl) r (vI (gO (ag (ag r2 g6.toNat) (ag p1.Code g6.toNat).B.toNat) (3:Int))) (hrun:=λw=>rand rfl (by kernel_rfl) (by kernel_rfl))<|?_;refine gg hd 0 [(9,45,vB ((gO (ag (ag r2 g6.toNat) (ag p1.Code g6.toNat).B.toNat) (3:Int)) != 0))]<|λ_ r=>ji<|qq r<|tn<|oA H (λrS H=>?_) λrS H=>?_
      ·refine wk<|bn<|tn<|?_;replace h:=gJ (x:=(ag r2 g6.toNat)) h;replace h:=(h.m1).gA;exact λ_ r=>⟨(),0,gH H,r.fj (h.se 2 [0])⟩
      refine wl<|ko [U]<|kl<|bn<|tn<|?_;replace h:=gJ (x:=(ag r2 g6.toNat)) h;replace h:=(h.m1).gA;exact λ_ r=>⟨(),55,gH H,r.fj (h.se 2 [0])⟩
     refine ks<|ko [vB ((ag p1.Code g6.toNat).aa6==9),vB ((ag p1.Code g6.toNat).aa6==9)]<|kn<|dR H (λuR H=>?_) λuR H=>?_
     ·refine ks<|qg H λB9 H=>ko [U,U]<|kp (pA (bg x4) (g6.toNat*1)) (Bp (k:=.i64) (E:=28) rfl (by kernel_rfl) (by kernel_rfl) (by kernel_rfl) (by kernel_rfl) (h.pick 1) B9)<|?_;obtain⟨Yu,h⟩:=h.m1.lU (bf B9);obtain⟨EA,EB,Eu,h⟩:=kZ (h.m1);subst Eu;refine λ_ r=>ld (wn rfl) r (.slice EA (ag r2 g6.toNat).length EB) ((h.pick 1).nI (by decide) (f:=0) rfl)<|?_;refine ko [vI (((ag r2 g6.toNat).length:Nat):Int),U]<|kn<|wb<|λ_ r=>dP (β:=Nat) id (λm a w=>∃lH:Int,∃xF:Int,(iu K r2 g6 m lH xF)=some UU∧∃j,kP 70 (lk [(0,vI p0),(4,.slice x4 r2.length x5),(5,vI g6),(7,vI lH),(13,.slice cz p1.Code.length cE),(14,vI ((p1.Code.length:Nat):Int)),(15,vI g6),(51,.slice EA (ag r2 g6.toNat).length EB),(52,vI (((ag r2 g6.toNat).length:Nat):Int)),(53,vI xF)] j) a∧Fit z (an (wB 28 1 iL (.slice x4 r2.length x5) r2 g6.toNat [.slice EA (ag r2 g6.toNat).length EB]::Br EA EB (ag r2 g6.toNat)::L)) w) K ⟨0,0,H,r.fj (h.se 3 [1,0])⟩<|?_;clear h r H;rintro k2 a w ⟨lH,xF,H,j,r,h⟩;cases k2 with
      | zero=>exact absurd H (by simp[iu])
      | succ k2 =>
       rw[iu]at H;refine qq r<|ks<|ko [vB (decide (xF<(((ag r2 g6.toNat).length:Nat):Int)))]<|kn<|wq<|dR H (λFo H=>?_) λFo H=>?_
       ·refine wk<|tn<|wq<|wb<|ks<|qg H λRu H=>ki (h.pick 1) Ru<|λ_ r=>ld (wn rfl) r (vI (ag (ag r2 g6.toNat) xF.toNat)) ((h.pick 1).cL bq (f:=0) (bf Ru) rfl)<|?_;refine ko [U]<|kn<|ks<|ko [U]<|kp (vI (gO (ag (ag r2 g6.toNat) xF.toNat) (2:Int))) (rand rfl (by kernel_rfl) (by kernel_rfl))<|ko [vB ((gO (ag (ag r2 g6.toNat) xF.toNat) (2:Int)) != 0)]<|kn<|oA H (λFp H=>?_) λFp H=>?_
        ·refine wk<|bn<|tn<|wl<|ko [vI (wi (xF+1)),vI (wi (xF+1))]<|kn<|?_;exact λ_ r=>⟨_,⟨lH,(wi (xF+1)),H,r.fj h⟩,Nat.lt_succ_self _⟩
        refine wl<|ko [U]<|kl<|bn<|tn<|wl<|ko [vI (wi (xF+1)),vI (wi (xF+1))]<|kn<|?_;exact λ_ r=>⟨_,⟨56,(wi (xF+1)),H,r.fj h⟩,Nat.lt_succ_self _⟩
       refine wx<|te<|te<|bh<|bn<|tn<|qh h.m1 λh=>?_;replace h:=gJ (x:=(ag r2 g6.toNat)) h;replace h:=(h.m1).gA;exact λ_ r=>⟨(),lH,gH H,r.fj h⟩
     refine wk<|bn<|tn<|?_;exact λ_ r=>⟨(),0,gH H,r.fj (h.se 2 [1])⟩
    clear h r;rintro _ a w ⟨Jw,rfl,j,r,h⟩;replace H:=Eg Rt;refine qq r<|ks<|ko [U,vB (Jw != 0)]<|kn<|oA H (λGi H=>?_) λGi H=>?_
    ·refine wk<|bn<|tn<|?_;exact λ_ r=>⟨(),gH H,r.fj h⟩
    refine wl<|ko [U,U,U,U,U,U]<|λ_ r=>zZ (wn rfl) r rfl (T:=194) (u:=.agg #[vI Jw,vI p0,vI g6]) (by kernel_rfl)<|pH<|lF<|lF<|pH<|xl r<|?_;replace H:=sQ H OP;replace H:=X4 H;subst H;exact⟨rfl,h.se 1 []⟩
   clear h r;rintro _ a w ⟨rfl,j,r,h⟩;replace H:=AX OP;refine qq r<|wl<|ko [vI (wi (g6+1)),vI (wi (g6+1))]<|kn<|?_;exact λ_ r=>⟨_,⟨(wi (g6+1)),H,r.fj h⟩,Nat.lt_succ_self _⟩
  refine wx<|te<|te<|bh<|λ_ r=>nH rfl r<|?_;cases H
def lR(K:Nat)(p0:aO):Nat→Int→Option ((Unit)⊕(dG))
 | 0,_=>none
 | k1+1,g9=>(if g9<((p0.aq.length:Nat):Int)then if bT g9 p0.aq.length then eL (qu (ag p0.aq g9.toNat)) (λpZ=>(if pZ=true then(lR K p0 k1 (wi (g9+1)))else some (.inr (⟨51,g9,0⟩:dG))))else none else some (.inl ()))
def lS(K:Nat)(p0:aO):Nat→Int→Option ((Unit)⊕(dG))
 | 0,_=>none
 | k2+1,n7=>(if n7<((p0.aq.length:Nat):Int)then if bT n7 p0.aq.length then eL (lq K n7 (ag p0.aq n7.toNat) p0.aq) (λH7=>(match H7 with | .inl q24=>(lS K p0 k2 (wi (n7+1))) | .inr WX=>some (.inr (⟨WX.z7,WX.yt,WX.B6⟩:dG))))else none else some (.inl ()))
def nv(K:Nat)(p0:aO):Nat→Int→Option (dG)
 | 0,_=>none
 | k3+1,rX=>(if rX<((p0.aq.length:Nat):Int)then if bT rX p0.aq.length then eL (rj K rX (ag p0.aq rX.toNat)) (λvj=>(match vj with | .inl q32=>(nv K p0 k3 (wi (rX+1))) | .inr WY=>some (⟨WY.z7,WY.yt,WY.B6⟩:dG)))else none else some (⟨0,0,0⟩:dG))
def tB(K:Nat)(p0:aO):Option (dG):=
 vg ((if((p0.aq.length:Nat):Int)<1 then some (.inr (⟨50,0,0⟩:dG))else(if((p0.aq.length:Nat):Int)>32 then some (.inr (⟨50,0,0⟩:dG))else some (.inl ())))) (vg ((lR K p0 K 0)) (vg ((lS K p0 K 0)) ((nv K p0 K 0))))
theorem Dq{K:Nat}{p0:aO}{bG:Option Addr}{cr:Nat}{aM:Nat→Option Addr×Nat}{r0:dG}(H:tB K p0=some r0)(h:Fit z (an (L)) w)(aZ:B5 L bG aM p0.aq)(sS:cu L 5 gh (some ⟨1,0,none⟩) tY) :
 Calls Tryz.prog 74 #[.agg #[.slice bG p0.aq.length cr]] w λe w=>e=.returned (wF r0)∧Fit z (an (L)) w:=by
 unfold tB at H;refine Rg Tryz.func74 rfl 62 rfl rfl [(0,.agg #[.slice bG p0.aq.length cr])] ⟨rfl,gE⟩ λj _ r=>qq r<|ks<|kN h (#[.slice bG p0.aq.length cr]) 24 λb1 w h=>kN h (#[vI 0,vI 0,vI 0]) 95 λb2 w h=>kn<|ks<|ko [U]<|λ_ r=>Ms (wn rfl) rfl r (q:={target:=.fn (.func 113) #[pA b2 0],args:=#[]}) (by kernel_rfl)<|?_;refine kn<|?_;obtain⟨o4,H,HR⟩:=AW H;refine λ_ r=>dw (β:=Unit) (λ_ a w=>.inl ()=o4∧∃j,cy [F5 b2] 62 (lk [(1,pA b1 0),(2,pA b2 0)] j) a∧Fit z (an (pts b1 (.cells #[.slice bG p0.aq.length cr] 24)::pts b2 (.cells #[vI 0,vI 0,vI 0] 95)::L)) w) ?_ ?_
 ·refine qq r<|ks<|ko [U]<|kL (h.pick 1) 0<|ko [vI ((p0.aq.length:Nat):Int),vB (decide (((p0.aq.length:Nat):Int)<1)),vB (decide (((p0.aq.length:Nat):Int)<1))]<|qI H (λc5 H=>?_) λc5 H=>?_
  ·refine bZ (dT c5) [15,16,17,18]<|mH (dT c5) (vB true)<|kn<|λ_ r=>gb r (b:=true) rfl<|qq r<|ks<|ko [U]<|kA h (pts b2 (.cells #[vI 50,vI 0,vI 0] 95)) λw h=>kn<|wr<|tr<|λ_ r=>vi r rfl (by kernel_rfl) h<|?_;replace H:=sQ H HR;cases H;exact⟨rfl,h.se 2 []⟩
  refine cS (dF c5) [15] [pA b1 0]<|q9 (dF c5) (h.pick 1) 0<|cS (dF c5) [17,18] [vI ((p0.aq.length:Nat):Int),vB (decide (((p0.aq.length:Nat):Int)>32))]<|mF (dF c5) (vB (decide (((p0.aq.length:Nat):Int)>32)))<|kn<|dR H (λc6 H=>?_) λc6 H=>?_
  ·refine ks<|ko [U]<|kA h (pts b2 (.cells #[vI 50,vI 0,vI 0] 95)) λw h=>kn<|wr<|tr<|λ_ r=>vi r rfl (by kernel_rfl) h<|?_;replace H:=sQ H HR;cases H;exact⟨rfl,h.se 2 []⟩
  refine wk<|tn<|?_;exact λ_ r=>⟨(),gH H,r.fj (h.se 2 [1,0])⟩
 clear h r;rintro _ a w ⟨rfl,j,r,h⟩;replace H:=AX HR;obtain⟨o8,H,HS⟩:=AW H;refine dw (β:=Unit) (λ_ a w=>.inl ()=o8∧∃j,cy [F5 b2] 62 (lk [(1,pA b1 0),(2,pA b2 0)] j) a∧Fit z (an (pts b1 (.cells #[.slice bG p0.aq.length cr] 24)::pts b2 (.cells #[vI 0,vI 0,vI 0] 95)::L)) w) ?_ ?_
 ·refine qq r<|ks<|ko [U]<|kL h 0<|ko [vI ((p0.aq.length:Nat):Int),U]<|kn<|wb<|λ_ r=>dP (β:=Nat) id (λm a w=>∃g9:Int,(lR K p0 m g9)=some o8∧∃j,cy [F5 b2] 62 (lk [(1,pA b1 0),(2,pA b2 0),(22,.slice bG p0.aq.length cr),(23,vI ((p0.aq.length:Nat):Int)),(24,vI g9)] j) a∧Fit z (an (pts b1 (.cells #[.slice bG p0.aq.length cr] 24)::pts b2 (.cells #[vI 0,vI 0,vI 0] 95)::L)) w) K ⟨0,H,r.fj h⟩<|?_;clear h r H;rintro k1 a w ⟨g9,H,j,r,h⟩;cases k1 with
  | zero=>exact absurd H (by simp[lR])
  | succ k1 =>
   rw[lR]at H;refine qq r<|ks<|ko [vB (decide (g9<((p0.aq.length:Nat):Int)))]<|kn<|wq<|dR H (λnV H=>?_) λnV H=>?_
   ·refine wk<|tn<|wq<|wb<|ks<|qg H λsH H=>ko [U]<|kp (pA (bg bG) (jY bG+g9.toNat*4)) (vG (k:=.i64) (E:=99) (cc:=cr) rfl (by kernel_rfl) (by kernel_rfl) rfl (by kernel_rfl) (by kernel_rfl) aZ sH)<|λ_ r=>tK (wn rfl) r (.agg #[vI (ag p0.aq g9.toNat).aU,vI (ag p0.aq g9.toNat).cO,vI (ag p0.aq g9.toNat).bJ,.slice ((aM g9.toNat).1) (ag p0.aq g9.toNat).Code.length ((aM g9.toNat).2)]) (cs:=[vI (ag p0.aq g9.toNat).aU,vI (ag p0.aq g9.toNat).cO,vI (ag p0.aq g9.toNat).bJ,.slice ((aM g9.toNat).1) (ag p0.aq g9.toNat).Code.length ((aM g9.toNat).2)]) ⟨aZ.cell sH (h.dn 2) 0 rfl,aZ.cell sH (h.dn 2) 1 rfl,aZ.cell sH (h.dn 2) 2 rfl,aZ.cell sH (h.dn 2) 3 rfl,gE⟩<|?_;refine kN h (#[vI 0,vI 0,vI 0,.slice none 0 0]) 99 λoG w h=>ko [U]<|kA h (n5 oG (ag p0.aq g9.toNat) ((aM g9.toNat).1) ((aM g9.toNat).2)) λw h=>kn<|ks<|kM h<|fO H λpZ Ci H=>eU (Bd (aW:=((aM g9.toNat).1)) (bz:=((aM g9.toNat).2)) (ct:=(cu.up 3 (aZ.tj sH))) (H:=Ci) (h:=h) :) λw h=>ko [vB (!pZ)]<|kn<|C3 H (λnE H=>?_) λnE H=>?_
    ·refine wk<|bn<|tn<|wl<|ko [vI (wi (g9+1)),vI (wi (g9+1))]<|kn<|?_;exact λ_ r=>⟨_,⟨(wi (g9+1)),H,r.fj (h.se 3 [1,2])⟩,Nat.lt_succ_self _⟩
    refine ks<|ko [U,U]<|qh h.m2 λh=>kA h (pts b2 (.cells #[vI 51,vI g9,vI 0] 95)) λw h=>kn<|wr<|br<|tr<|tr<|br<|tr<|λ_ r=>vi r rfl (by kernel_rfl) h<|?_;replace H:=sQ H HS;cases H;exact⟨rfl,h.se 3 []⟩
   refine wx<|te<|te<|bh<|tn<|?_;exact λ_ r=>⟨(),gH H,r.fj h⟩
 clear h r;rintro _ a w ⟨rfl,j,r,h⟩;replace H:=AX HS;obtain⟨N5,H,Dr⟩:=AW H;refine dw (β:=Unit) (λ_ a w=>.inl ()=N5∧∃j,cy [F5 b2] 62 (lk [(1,pA b1 0),(2,pA b2 0)] j) a∧Fit z (an (pts b1 (.cells #[.slice bG p0.aq.length cr] 24)::pts b2 (.cells #[vI 0,vI 0,vI 0] 95)::L)) w) ?_ ?_
 ·refine qq r<|ks<|ko [U]<|kL h 0<|ko [vI ((p0.aq.length:Nat):Int),U]<|kn<|wb<|λ_ r=>dP (β:=Nat) id (λm a w=>∃n7:Int,(lS K p0 m n7)=some N5∧∃j,cy [F5 b2] 62 (lk [(1,pA b1 0),(2,pA b2 0),(36,.slice bG p0.aq.length cr),(37,vI ((p0.aq.length:Nat):Int)),(38,vI n7)] j) a∧Fit z (an (pts b1 (.cells #[.slice bG p0.aq.length cr] 24)::pts b2 (.cells #[vI 0,vI 0,vI 0] 95)::L)) w) K ⟨0,H,r.fj h⟩<|?_;clear h r H;rintro k2 a w ⟨n7,H,j,r,h⟩;cases k2 with
  | zero=>exact absurd H (by simp[lS])
  | succ k2 =>
   rw[lS]at H;refine qq r<|ks<|ko [vB (decide (n7<((p0.aq.length:Nat):Int)))]<|kn<|wq<|dR H (λsy H=>?_) λsy H=>?_
   ·refine wk<|tn<|wq<|wb<|ks<|qg H λkE H=>ko [U]<|kp (pA (bg bG) (jY bG+n7.toNat*4)) (vG (k:=.i64) (E:=99) (cc:=cr) rfl (by kernel_rfl) (by kernel_rfl) rfl (by kernel_rfl) (by kernel_rfl) aZ kE)<|λ_ r=>tK (wn rfl) r (.agg #[vI (ag p0.aq n7.toNat).aU,vI (ag p0.aq n7.toNat).cO,vI (ag p0.aq n7.toNat).bJ,.slice ((aM n7.toNat).1) (ag p0.aq n7.toNat).Code.length ((aM n7.toNat).2)]) (cs:=[vI (ag p0.aq n7.toNat).aU,vI (ag p0.aq n7.toNat).cO,vI (ag p0.aq n7.toNat).bJ,.slice ((aM n7.toNat).1) (ag p0.aq n7.toNat).Code.length ((aM n7.toNat).2)]) ⟨aZ.cell kE (h.dn 2) 0 rfl,aZ.cell kE (h.dn 2) 1 rfl,aZ.cell kE (h.dn 2) 2 rfl,aZ.cell kE (h.dn 2) 3 rfl,gE⟩<|?_;refine kN h (#[vI 0,vI 0,vI 0,.slice none 0 0]) 99 λb21 w h=>ko [U]<|kA h (n5 b21 (ag p0.aq n7.toNat) ((aM n7.toNat).1) ((aM n7.toNat).2)) λw h=>kn<|wl<|ko [U]<|kM h<|ko [U]<|kL (h.pick 1) 0<|fO H λH7 wT H=>?_;cases H7 with
    | inl q24 =>
     refine eU (vW (tT:=bG) (uq:=cr) (Be:=(xw.up 3 aZ)) (cz:=((aM n7.toNat).1)) (cE:=((aM n7.toNat).2)) (dN:=(cu.up 3 (aZ.tj kE))) (sS:=cu.up 3 sS) (MI:=aM) (H:=wT) (h:=h) :) λw h=>kl<|bn<|tn<|wl<|ko [vI (wi (n7+1)),vI (wi (n7+1))]<|kn<|?_;exact λ_ r=>⟨_,⟨(wi (n7+1)),H,r.fj (h.se 3 [1,2])⟩,Nat.lt_succ_self _⟩
    | inr WX =>
     have hc:=vX (tT:=bG) (uq:=cr) (Be:=(xw.up 3 aZ)) (cz:=((aM n7.toNat).1)) (cE:=((aM n7.toNat).2)) (dN:=(cu.up 3 (aZ.tj kE))) (sS:=cu.up 3 sS) (MI:=aM) (H:=wT) (h:=h);intro _ r;refine FY (wn rfl) r (f:=115) (args:=#[vI n7,.agg #[vI (ag p0.aq n7.toNat).aU,vI (ag p0.aq n7.toNat).cO,vI (ag p0.aq n7.toNat).bJ,.slice ((aM n7.toNat).1) (ag p0.aq n7.toNat).Code.length ((aM n7.toNat).2)],.slice bG p0.aq.length cr]) (by kernel_rfl) hc ?_;clear hc h;rintro _ w ⟨rfl,h⟩;refine⟨_,rfl,?_⟩;refine pH<|lF<|lF<|pH<|lF<|qh h.m2 λh=>BZ r rfl (by kernel_rfl) h λw h=>?_;replace H:=sQ H Dr;cases H;exact⟨rfl,h.se 3 []⟩
   refine wx<|te<|te<|bh<|tn<|?_;exact λ_ r=>⟨(),gH H,r.fj h⟩
 clear h r;rintro _ a w ⟨rfl,j,r,h⟩;replace H:=AX Dr;refine qq r<|wq<|ks<|ko [U]<|kL h 0<|ko [vI ((p0.aq.length:Nat):Int),U]<|kn<|wb<|λ_ r=>dP (β:=Nat) id (λm a w=>∃rX:Int,(nv K p0 m rX)=some r0∧∃j,cy [F5 b2] 62 (lk [(2,pA b2 0),(50,.slice bG p0.aq.length cr),(51,vI ((p0.aq.length:Nat):Int)),(52,vI rX)] j) a∧Fit z (an (pts b2 (.cells #[vI 0,vI 0,vI 0] 95)::L)) w) K ⟨0,H,r.fj (h.se 2 [1])⟩<|?_;clear h r H;rintro k3 a w ⟨rX,H,j,r,h⟩;cases k3 with
 | zero=>exact absurd H (by simp[nv])
 | succ k3 =>
  rw[nv]at H;refine qq r<|ks<|ko [vB (decide (rX<((p0.aq.length:Nat):Int)))]<|kn<|wq<|dR H (λoD H=>?_) λoD H=>?_
  ·refine wk<|tn<|wq<|wb<|ks<|qg H λzh H=>ko [U]<|kp (pA (bg bG) (jY bG+rX.toNat*4)) (vG (k:=.i64) (E:=99) (cc:=cr) rfl (by kernel_rfl) (by kernel_rfl) rfl (by kernel_rfl) (by kernel_rfl) aZ zh)<|λ_ r=>tK (wn rfl) r (.agg #[vI (ag p0.aq rX.toNat).aU,vI (ag p0.aq rX.toNat).cO,vI (ag p0.aq rX.toNat).bJ,.slice ((aM rX.toNat).1) (ag p0.aq rX.toNat).Code.length ((aM rX.toNat).2)]) (cs:=[vI (ag p0.aq rX.toNat).aU,vI (ag p0.aq rX.toNat).cO,vI (ag p0.aq rX.toNat).bJ,.slice ((aM rX.toNat).1) (ag p0.aq rX.toNat).Code.length ((aM rX.toNat).2)]) ⟨aZ.cell zh (h.dn 1) 0 rfl,aZ.cell zh (h.dn 1) 1 rfl,aZ.cell zh (h.dn 1) 2 rfl,aZ.cell zh (h.dn 1) 3 rfl,gE⟩<|?_;refine kN h (#[vI 0,vI 0,vI 0,.slice none 0 0]) 99 λb29 w h=>ko [U]<|kA h (n5 b29 (ag p0.aq rX.toNat) ((aM rX.toNat).1) ((aM rX.toNat).2)) λw h=>kn<|wl<|ko [U]<|kM h<|fO H λvj N2 H=>?_;cases vj with
   | inl q32 =>
    refine eU (Cg (cz:=((aM rX.toNat).1)) (cE:=((aM rX.toNat).2)) (dN:=(cu.up 2 (aZ.tj zh))) (sS:=cu.up 2 sS) (H:=N2) (h:=h) :) λw h=>kl<|bn<|tn<|wl<|ko [vI (wi (rX+1)),vI (wi (rX+1))]<|kn<|?_;exact λ_ r=>⟨_,⟨(wi (rX+1)),H,r.fj (h.se 2 [1])⟩,Nat.lt_succ_self _⟩
   | inr WY =>
    have hc:=Ch (cz:=((aM rX.toNat).1)) (cE:=((aM rX.toNat).2)) (dN:=(cu.up 2 (aZ.tj zh))) (sS:=cu.up 2 sS) (H:=N2) (h:=h);intro _ r;refine FY (wn rfl) r (f:=116) (args:=#[vI rX,.agg #[vI (ag p0.aq rX.toNat).aU,vI (ag p0.aq rX.toNat).cO,vI (ag p0.aq rX.toNat).bJ,.slice ((aM rX.toNat).1) (ag p0.aq rX.toNat).Code.length ((aM rX.toNat).2)]]) (by kernel_rfl) hc ?_;clear hc h;rintro _ w ⟨rfl,h⟩;refine⟨_,rfl,?_⟩;refine pH<|lF<|lF<|pH<|lF<|qh h.m1 λh=>BZ r rfl (by kernel_rfl) h λw h=>?_;cases H;exact⟨rfl,h.se 2 []⟩
  refine wx<|te<|te<|bh<|tn<|ks<|ko [U]<|kA h (pts b2 (.cells #[vI 0,vI 0,vI 0] 95)) λw h=>kn<|wr<|λ_ r=>vi r rfl (by kernel_rfl) h<|?_;cases H;exact⟨rfl,h.se 1 []⟩
def qw(p0:Int):Option (Bool):=
 (if p0≥1 then some (decide (p0≤64))else some false)
theorem zi{p0:Int}{r0:Bool}(H:qw p0=some r0)(h:Fit z (an (L)) w) :
 Calls Tryz.prog 75 #[vI p0] w λe w=>e=.returned (vB r0)∧Fit z (an (L)) w:=by
 unfold qw at H;refine ke Tryz.func75 9 rfl λj=>ks<|ko [U]<|kn<|ks<|ko [U,vB (decide (p0≥1)),vB (decide (p0≥1))]<|qI H (λc1 H=>?_) λc1 H=>?_
 ·refine cS (dT c1) [6,7] [vI p0,vB (decide (p0≤64))]<|mH (dT c1) (vB (decide (p0≤64)))<|ko [vB (decide (p0≤64))]<|kn<|wr<|?_;cases H;exact gu h
 refine bZ (dF c1) [6,7]<|mF (dF c1) (vB false)<|ko [U]<|kn<|wr<|?_;cases H;exact gu h
def qx(p0:cY):Option (Bool):=
 (if p0.bO≥1 then(if p0.bO≤4096 then(if(1:Int)≤p0.dk then(if p0.dk≤p0.iU then some (decide (p0.iU≤4096))else some false)else some false)else some false)else some false)
theorem zj{p0:cY}{r0:Bool}(H:qx p0=some r0)(h:Fit z (an (L)) w) :
 Calls Tryz.prog 76 #[jA p0] w λe w=>e=.returned (vB r0)∧Fit z (an (L)) w:=by
 unfold qx at H;refine ke Tryz.func76 28 rfl λj=>ks<|kN h (kg p0) 27 λb1 w h=>ko [U]<|kn<|ks<|ko [U]<|kL h 0<|ko [vB (decide (p0.bO≥1)),vB (decide (p0.bO≥1))]<|qI H (λc2 H=>?_) λc2 H=>?_
 ·refine cS (dT c2) [7] [pA b1 0]<|q9 (dT c2) h 0<|cS (dT c2) [9] [vB (decide (p0.bO≤4096))]<|mH (dT c2) (vB (decide (p0.bO≤4096)))<|ko [vB (decide (p0.bO≤4096))]<|qI H (λc3 H=>?_) λc3 H=>?_
  ·refine cS (dT c3) [12] [pA b1 1]<|q9 (dT c3) h 1<|cS (dT c3) [14] [vB (decide ((1:Int)≤p0.dk))]<|mH (dT c3) (vB (decide ((1:Int)≤p0.dk)))<|ko [vB (decide ((1:Int)≤p0.dk))]<|qI H (λc4 H=>?_) λc4 H=>?_
   ·refine cS (dT c4) [17] [pA b1 1]<|q9 (dT c4) h 1<|cS (dT c4) [19] [pA b1 2]<|q9 (dT c4) h 2<|cS (dT c4) [21] [vB (decide (p0.dk≤p0.iU))]<|mH (dT c4) (vB (decide (p0.dk≤p0.iU)))<|ko [vB (decide (p0.dk≤p0.iU))]<|qI H (λc5 H=>?_) λc5 H=>?_
    ·refine cS (dT c5) [24] [pA b1 2]<|q9 (dT c5) h 2<|cS (dT c5) [26] [vB (decide (p0.iU≤4096))]<|mH (dT c5) (vB (decide (p0.iU≤4096)))<|ko [vB (decide (p0.iU≤4096))]<|kn<|wr<|?_;cases H;exact gu (h.se 1 [])
    refine bZ (dF c5) [24,25,26]<|mF (dF c5) (vB false)<|ko [U]<|kn<|wr<|?_;cases H;exact gu (h.se 1 [])
   refine bZ (dF c4) [17,18,19,20,21]<|mF (dF c4) (vB false)<|ko [U]<|bZ (rfl:false=false) [24,25,26]<|ko [U,U]<|kn<|wr<|?_;cases H;exact gu (h.se 1 [])
  refine bZ (dF c3) [12,13,14]<|mF (dF c3) (vB false)<|ko [U]<|bZ (rfl:false=false) [17,18,19,20,21]<|ko [U,U]<|bZ (rfl:false=false) [24,25,26]<|ko [U,U]<|kn<|wr<|?_;cases H;exact gu (h.se 1 [])
 refine bZ (dF c2) [7,8,9]<|mF (dF c2) (vB false)<|ko [U]<|bZ (rfl:false=false) [12,13,14]<|ko [U,U]<|bZ (rfl:false=false) [17,18,19,20,21]<|ko [U,U]<|bZ (rfl:false=false) [24,25,26]<|ko [U,U]<|kn<|wr<|?_;cases H;exact gu (h.se 1 [])
def ny(K:Nat)(p0:aO)(p1:List Int)(p2:Int)(p3:cY):Option (Int):=
 eL (tB K p0) (λr3=>(if r3.Kp=0 then if bT (0:Int) p0.aq.length then(if((p1.length:Nat):Int)=(ag p0.aq 0).aU then eL (qw p2) (λr8=>(if r8=true then eL (qx p3) (λsx=>(if sx=true then some 0 else some 111))else some 110))else some 61)else none else some 60))
theorem uT{K:Nat}{p0:aO}{p1:List Int}{p2 r0:Int}{p3:cY}{bG Jt:Option Addr}{cr Ju:Nat}{aM:Nat→Option Addr×Nat}(H:ny K p0 p1 p2 p3=some r0)(h:Fit z (an (L)) w)(aZ:B5 L bG aM p0.aq)(Ky:cu L 1 dK Jt p1)(sS:cu L 5 gh (some ⟨1,0,none⟩) tY) :
 Calls Tryz.prog 50 #[.agg #[.slice bG p0.aq.length cr],.slice Jt p1.length Ju,vI p2,jA p3] w λe w=>e=.returned (vI r0)∧Fit z (an (L)) w:=by
 unfold ny at H;refine ke Tryz.func50 31 rfl λj=>ks<|kN h (#[.slice bG p0.aq.length cr]) 24 λb1 w h=>kN h (kg p3) 27 λb2 w h=>ko [U]<|kn<|wq<|wb<|ks<|λ_ r=>tK (wn rfl) r (.agg #[.slice bG p0.aq.length cr]) (cs:=[.slice bG p0.aq.length cr]) ⟨(h.pick 1).cell 0 rfl,gE⟩<|?_;refine fO H λr3 e4 H=>eU (Dq (bG:=bG) (cr:=cr) (aZ:=(xw.up 2 aZ)) (sS:=cu.up 2 sS) (aM:=aM) (H:=e4) (h:=h) :) λw h=>ko [U,vB (r3.Kp != 0),vB (r3.Kp != 0)]<|kn<|oA H (λc5 H=>?_) λc5 H=>?_
 ·refine ks<|ko [U,vI ((p1.length:Nat):Int),U]<|kL (h.pick 1) 0<|qg H λc6 H=>kp (pA (bg bG) (jY bG+0*4)) (vG (k:=.i64) (E:=99) (cc:=cr) rfl (by kernel_rfl) (by kernel_rfl) rfl (by kernel_rfl) (by kernel_rfl) aZ c6)<|ko [U]<|λ_ r=>ld (wn rfl) r (vI (ag p0.aq 0).aU) (aZ.cell c6 (h.dn 2) 0 rfl)<|?_;refine ko [vB (((p1.length:Nat):Int) != (ag p0.aq 0).aU),vB (((p1.length:Nat):Int) != (ag p0.aq 0).aU)]<|kn<|oA H (λc7 H=>?_) λc7 H=>?_
  ·refine ks<|fO H λr8 e9 H=>ko [U]<|eU (zi (H:=e9) (h:=h) :) λw h=>ko [vB (!r8),vB (!r8)]<|kn<|C3 H (λnV H=>?_) λnV H=>?_
   ·refine ks<|kM h<|fO H λsx Aa H=>eU (zj (H:=Aa) (h:=h) :) λw h=>ko [vB (!sx),vB (!sx)]<|kn<|C3 H (λvk H=>?_) λvk H=>?_
    ·refine wk<|bn<|tn<|ks<|ko [U]<|kn<|wr<|?_;cases H;exact gu (h.se 2 [])
    refine ks<|ko [U]<|kn<|wr<|br<|tr<|?_;cases H;exact gu (h.se 2 [])
   refine ks<|ko [U]<|kn<|wr<|br<|tr<|?_;cases H;exact gu (h.se 2 [])
  refine ks<|ko [U]<|kn<|wr<|br<|tr<|?_;cases H;exact gu (h.se 2 [])
 refine ks<|ko [U]<|kn<|wr<|br<|tr<|?_;cases H;exact gu (h.se 2 [])
def j8(p0:ah)(p1:Int):Option (Int):=
 (if p1<1 then some 21 else(if p1>(wi (p0.jI-p0.dZ))then some 22 else some 0))
theorem vm{p0:ah}{p1 r0:Int}{B0 er eN:Nat}{eu dU:Option Addr}(H:j8 p0 p1=some r0)(h:Fit z (an (dx B0 p0 eu er dU eN::iC eu er p0.cell::bY dU eN p0.log::L)) w) :
 Calls Tryz.prog 261 #[pA B0 0,vI p1] w λe w=>e=.returned (vI r0)∧Fit z (an (dx B0 p0 eu er dU eN::iC eu er p0.cell::bY dU eN p0.log::L)) w:=by
 unfold j8 at H;refine ke Tryz.func261 22 rfl λj=>ks<|ko [U]<|kn<|wq<|ks<|ko [U,vB (decide (p1<1))]<|kn<|dR H (λc5 H=>?_) λc5 H=>?_
 ·refine ks<|ko [U]<|kn<|wr<|tr<|?_;cases H;exact gu h
 refine wk<|tn<|wq<|wq<|λ_ r=>fy [(B0,0,[vI p0.jI]),(B0,1,[vI p0.dZ])] [1,5,6,9,10] 15 h (λh=>⟨⟨h.cell 0 rfl,gE⟩,⟨h.cell 1 rfl,gE⟩,gE⟩) λw h hd =>qq r<|gg hd 12 [(0,7,pA B0 0),(1,8,vB false),(2,9,vB false)]<|λ_ r=>mJ hd 11 3 rfl (pX r (c:=false) rfl) r (vI p1)<|?_;refine λ_ r=>mJ hd 10 4 rfl (pX r (c:=false) rfl) r (pA B0 0)<|?_;refine λ_ r=>mJ hd 9 5 rfl (pX r (c:=false) rfl) r (pA B0 0)<|?_;refine λ_ r=>mJ hd 8 6 rfl (pX r (c:=false) rfl) r (pA B0 0)<|?_;refine λ_ r=>mJ hd 7 8 rfl (pX r (c:=false) rfl) r (pA B0 0)<|?_;refine λ_ r=>mJ hd 6 9 rfl (pX r (c:=false) rfl) r (pA B0 0)<|?_;refine λ_ r=>mJ hd 5 10 rfl (pX r (c:=false) rfl) r (pA B0 1)<|?_;refine λ_ r=>WL hd 0 4 7 r (pX r (c:=false) rfl) rfl rfl<|?_;refine λ_ r=>WL hd 1 3 11 r (pX r (c:=false) rfl) rfl rfl<|?_;refine λ_ r=>mJ hd 2 12 rfl (pX r (c:=false) rfl) r (vI (wi (p0.jI-p0.dZ)))<|?_;refine λ_ r=>mJ hd 1 13 rfl (pX r (c:=false) rfl) r (vB (decide (p1>(wi (p0.jI-p0.dZ)))))<|?_;refine gg hd 0 [(14,21,vB (decide (p1>(wi (p0.jI-p0.dZ)))))]<|λ_ r=>ji<|qq r<|tn<|dR H (λc6 H=>?_) λc6 H=>?_
 ·refine ks<|ko [U]<|kn<|wr<|tr<|?_;cases H;exact gu h
 refine wk<|tn<|ks<|ko [U]<|kn<|wr<|?_;cases H;exact gu h
def mW(p0:ah)(p1:Int):Option (Int×ah):=
 some (p0.dZ,{p0 with dZ:=wi (p0.dZ+p1)})
theorem wU{p0 q0:ah}{p1 r0:Int}{B0 er eN:Nat}{eu dU:Option Addr}(H:mW p0 p1=some (r0,q0))(h:Fit z (an (dx B0 p0 eu er dU eN::iC eu er p0.cell::bY dU eN p0.log::L)) w) :
 Calls Tryz.prog 262 #[pA B0 0,vI p1] w λe w=>∃x1 x2 x3 x4,e=.returned (vI r0)∧Fit z (an (dx B0 q0 x1 x2 x3 x4::iC x1 x2 q0.cell::bY x3 x4 q0.log::L)) w:=by
 unfold mW at H;refine ke Tryz.func262 19 rfl λj=>ks<|ko [U]<|kn<|ks<|ko [U,U,U]<|kL h 1<|ko [U]<|kn<|ks<|ko [U,U,U]<|kL h 1<|ko [U,vI (wi (p0.dZ+p1)),U,U]<|kS h 1 (pts B0 (.cells #[vI p0.jI,vI (wi (p0.dZ+p1)),.slice eu p0.cell.length er,.slice dU p0.log.length eN,vI p0.oT,vB p0.watched] 92)) λw h=>kn<|ks<|ko [U,U]<|kn<|wr<|?_;cases H;exact C4 eu er dU eN h
def fl(p0:ah)(p1:Int)(p2:Int)(p3:Int)(p4:Int)(p5:Bool):Option (ah):=
 (if p0.watched=true then if(p0.log.length+1)*48≤140737488355328 then some ({p0 with log:=p0.log++[(⟨p0.oT,p1,p2,p3,p4,p5⟩:be)]})else none else some p0)
theorem j9{p0 q0:ah}{p1 p2 p3 p4:Int}{p5:Bool}{B0 er eN:Nat}{eu dU:Option Addr}(H:fl p0 p1 p2 p3 p4 p5=some q0)(h:Fit z (an (dx B0 p0 eu er dU eN::iC eu er p0.cell::bY dU eN p0.log::L)) w) :
 Calls Tryz.prog 260 #[pA B0 0,vI p1,vI p2,vI p3,vI p4,vB p5] w λe w=>∃x1 x2 x3 x4,e=.returned (.tuple #[])∧Fit z (an (dx B0 q0 x1 x2 x3 x4::iC x1 x2 q0.cell::bY x3 x4 q0.log::L)) w:=by
 unfold fl at H;refine ke Tryz.func260 35 rfl λj=>ks<|ko [U,U,U]<|kL h 5<|kn<|De H (λc5 H=>?_) λc5 H=>?_
 ·refine qg H λc9 H=>λ_ r=>fy [(B0,3,[.slice dU p0.log.length eN]),(B0,4,[vI p0.oT])] [2,3,6,7,14] 20 h (λh=>⟨⟨h.cell 3 rfl,gE⟩,⟨h.cell 4 rfl,gE⟩,gE⟩) λw h hd =>qq r<|gg hd 8 [(0,16,pA B0 0),(1,17,pA B0 0),(2,18,pA B0 0),(3,19,pA B0 3),(5,21,pA B0 0),(6,22,pA B0 0),(7,23,pA B0 4),(9,25,vI p1),(10,26,vI p2),(11,27,vI p3),(12,28,vI p4),(13,29,vB p5)]<|kx hd 0 7 4 rfl rfl<|kx hd 1 6 8 rfl rfl<|gg hd 5 [(14,30,.agg #[vI p0.oT,vI p1,vI p2,vI p3,vI p4,vB p5])]<|λ_ r=>eZ 15 rfl<|qq r<|kV h (#[vI p0.oT,vI p1,vI p2,vI p3,vI p4,vB p5]) 159 λb6 w h=>kn<|λ_ r=>xE<|eZ 16 rfl<|qh h.m3 λh=>mO (n0:=p0.log.length) (c:=1) (bytes:=48) (wn rfl) rfl rfl r rfl (by kernel_rfl) (by kernel_rfl) xy (E:=159) (xs:=p0.log) (by kernel_rfl) (by kernel_rfl) h (news:=[(⟨p0.oT,p1,p2,p3,p4,p5⟩:be)]) (m:=1) rfl ((h.pick 1).news rfl) c9 rfl λei eD w _ h r=>qq r<|kn<|λ_ r=>xE<|gU 2 17 rfl (wn rfl) r (pA B0 0)<|?_;refine λ_ r=>gU 1 18 rfl (wn rfl) r (pA B0 3)<|?_;refine λ_ r=>eZ 19 rfl<|qh h.m2 λh=>qq r<|kS h 3 (pts B0 (.cells #[vI p0.jI,vI p0.dZ,.slice eu p0.cell.length er,.slice ei (p0.log++[(⟨p0.oT,p1,p2,p3,p4,p5⟩:be)]).length eD,vI p0.oT,vB p0.watched] 92)) λw h=>kn<|λ_ r=>xE<|ji<|qq r<|?_;cases H;exact xv4 eu er ei eD (h.se 4 [0,3,1])
 refine wk<|?_;cases H;exact xv4 eu er dU eN h
def eV(p0:ah)(p1:Int):Option (Int×Int×ah):=
 Hz (some ()) (eL (j8 p0 p1) (λr7=>(if r7=0 then pL (mW p0 p1) (λzR vn=>if 0≤p1∧(vn.cell.length+p1.toNat)*8≤140737488355328 then eL (fl ({vn with cell:=vn.cell++List.replicate p1.toNat (0:Int)}) 4 zR p1 0 true) (λdQ=>some (zR,0,dQ))else none)else some (0,r7,p0))))
theorem j3{p0 q0:ah}{p1 r0 r1:Int}{B0 er eN:Nat}{eu dU:Option Addr}(H:eV p0 p1=some (r0,r1,q0))(h:Fit z (an (dx B0 p0 eu er dU eN::iC eu er p0.cell::bY dU eN p0.log::L)) w) :
 Calls Tryz.prog 257 #[pA B0 0,vI p1] w λe w=>∃x1 x2 x3 x4,e=.returned (.tuple #[vI r0,vI r1])∧Fit z (an (dx B0 q0 x1 x2 x3 x4::iC x1 x2 q0.cell::bY x3 x4 q0.log::L)) w:=by
 unfold eV at H;refine ke Tryz.func257 37 rfl λj=>ks<|ko [U,U]<|kn<|ks<|ko [U]<|kn<|qd0 H λo6 H Yr=>λ_ r=>dw (β:=Unit) (λ_ a w=>()=o6∧∃j,kP 37 (lk [(0,pA B0 0),(1,vI p1),(6,pA B0 0)] j) a∧Fit z (an (dx B0 p0 eu er dU eN::iC eu er p0.cell::bY dU eN p0.log::L)) w) ?_ ?_
 ·refine qq r<|ks<|ko [U,U]<|kn<|λ_ r=>gb r (b:=true) rfl<|qq r<|wl<|ko [U,U,U,U]<|kn<|?_;exact λ_ r=>⟨(),gH H,r.fj h⟩
 clear h r;rintro _ a w ⟨rfl,j,r,h⟩;replace H:=kk0 Yr;refine qq r<|wq<|ks<|fO H λr7 e8 H=>ko [U,U]<|eU (vm (H:=e8) (h:=h) :) λw h=>ko [U]<|kn<|ks<|ko [U,vB (r7 != 0)]<|kn<|oA H (λc9 H=>?_) λc9 H=>?_
 ·refine wk<|tn<|ks<|ta H λzR vn Aa H=>ko [U,U]<|jz (wU (H:=Aa) (h:=h) :) λsU vo zk xG w h=>ko [U]<|kn<|ks<|ko [U,U,U,U]<|kL h 2<|ko [U]<|qh h.m1 λh=>qg H λsy H=>λ_ r=>Kf (kx:=.i64) (n0:=vn.cell.length) (i:=p1) (m:=p1.toNat) (bytes:=8) (zc:=#[vI 0]) (0:Int) (wn rfl) rfl rfl r rfl (by kernel_rfl) (by kernel_rfl) (Int.toNat_of_nonneg sy.1).symm bq (E:=2) (xs:=vn.cell) (by kernel_rfl) (by kernel_rfl) (by kernel_rfl) rfl h sy.2 rfl λAg H6 w _ h r=>qq r<|ko [U,U]<|qh h.m1 λh=>kS h 2 (pts B0 (.cells #[vI vn.jI,vI vn.dZ,.slice Ag (vn.cell++List.replicate p1.toNat (0:Int)).length H6,.slice zk vn.log.length xG,vI vn.oT,vB vn.watched] 92)) λw h=>kn<|ks<|fO H λdQ HW H=>ko [U,U,U]<|jz (j9 (H:=HW) (h:=h) :) λow ur vM xn w h=>kn<|ks<|ko [U,U,U]<|kn<|wr<|?_;cases H;exact we ow ur vM xn h
 refine ks<|ko [U,U,U]<|kn<|wr<|tr<|?_;cases H;exact we eu er dU eN h
def qy(p0:Int):Option (Int):=
 (if p0<1 then some 0 else(if p0>4096 then some 0 else some (wi ((1:Int)+(wi (p0*10))))))
theorem vN{p0 r0:Int}(H:qy p0=some r0)(h:Fit z (an (L)) w) :
 Calls Tryz.prog 107 #[vI p0] w λe w=>e=.returned (vI r0)∧Fit z (an (L)) w:=by
 unfold qy at H;refine ke Tryz.func107 12 rfl λj=>ks<|ko [U]<|kn<|wq<|ks<|ko [U,vB (decide (p0<1)),vB (decide (p0<1))]<|qI H (λc1 H=>?_) λc1 H=>?_
 ·refine bZ (dT c1) [6,7]<|mH (dT c1) (vB true)<|kn<|λ_ r=>gb r (b:=true) rfl<|qq r<|ks<|ko [U]<|kn<|wr<|tr<|?_;cases H;exact gu h
 refine cS (dF c1) [6,7] [vI p0,vB (decide (p0>4096))]<|mF (dF c1) (vB (decide (p0>4096)))<|kn<|dR H (λc2 H=>?_) λc2 H=>?_
 ·refine ks<|ko [U]<|kn<|wr<|tr<|?_;cases H;exact gu h
 refine wk<|tn<|ks<|ko [U,vI (wi (p0*10)),vI (wi ((1:Int)+(wi (p0*10)))),vI (wi ((1:Int)+(wi (p0*10))))]<|kn<|wr<|?_;cases H;exact gu h
def fI(p0:aN)(p1:Int):Option (Int):=
 some (wi ((wi (p0.jg+1))+(wi (p1*10))))
theorem js{p0:aN}{p1 r0:Int}(H:fI p0 p1=some r0)(h:Fit z (an (L)) w) :
 Calls Tryz.prog 117 #[eT p0,vI p1] w λe w=>e=.returned (vI r0)∧Fit z (an (L)) w:=by
 unfold fI at H;refine ke Tryz.func117 11 rfl λj=>ks<|kN h (fX p0) 104 λb1 w h=>ko [U]<|kn<|ks<|ko [U]<|kL h 0<|ko [vI (wi (p0.jg+1)),U,vI (wi (p1*10)),vI (wi ((wi (p0.jg+1))+(wi (p1*10)))),vI (wi ((wi (p0.jg+1))+(wi (p1*10))))]<|kn<|wr<|?_;cases H;exact gu (h.se 1 [])
def nN(p0:ah)(p1:Int):Option (Bool):=
 (if p1≥0 then some (decide (p1<p0.dZ))else some false)
theorem xH{p0:ah}{p1:Int}{B0 er eN:Nat}{eu dU:Option Addr}{r0:Bool}(H:nN p0 p1=some r0)(h:Fit z (an (dx B0 p0 eu er dU eN::iC eu er p0.cell::bY dU eN p0.log::L)) w) :
 Calls Tryz.prog 263 #[pA B0 0,vI p1] w λe w=>e=.returned (vB r0)∧Fit z (an (dx B0 p0 eu er dU eN::iC eu er p0.cell::bY dU eN p0.log::L)) w:=by
 unfold nN at H;refine ke Tryz.func263 15 rfl λj=>ks<|ko [U]<|kn<|ks<|ko [U,vB (decide (p1≥0)),vB (decide (p1≥0))]<|qI H (λc5 H=>?_) λc5 H=>?_
 ·refine cS (dT c5) [8,9,10,11] [vI p1,pA B0 0,pA B0 0,pA B0 1]<|q9 (dT c5) h 1<|cS (dT c5) [13] [vB (decide (p1<p0.dZ))]<|mH (dT c5) (vB (decide (p1<p0.dZ)))<|ko [vB (decide (p1<p0.dZ))]<|kn<|wr<|?_;cases H;exact gu h
 refine bZ (dF c5) [8,9,10,11,12,13]<|mF (dF c5) (vB false)<|ko [U]<|kn<|wr<|?_;cases H;exact gu h
def gi(p0:ah)(p1:Int):Option (Bool):=
 eL (nN p0 p1) (λr5=>some (!r5))
theorem lN{p0:ah}{p1:Int}{B0 er eN:Nat}{eu dU:Option Addr}{r0:Bool}(H:gi p0 p1=some r0)(h:Fit z (an (dx B0 p0 eu er dU eN::iC eu er p0.cell::bY dU eN p0.log::L)) w) :
 Calls Tryz.prog 259 #[pA B0 0,vI p1] w λe w=>e=.returned (vB r0)∧Fit z (an (dx B0 p0 eu er dU eN::iC eu er p0.cell::bY dU eN p0.log::L)) w:=by
 unfold gi at H;refine ke Tryz.func259 15 rfl λj=>ks<|ko [U]<|kn<|ks<|fO H λr5 e6 H=>ko [U,U,U]<|cS (rfl:false=false) [8,9,10,11] [pA B0 0,pA B0 0,pA B0 0,vI p1]<|Tf (rfl:false=false) (xH (H:=e6) (h:=h) :) λw h=>cS (rfl:false=false) [13] [vB (!r5)]<|ko [vB (!r5),vB (!r5)]<|kn<|wr<|?_;cases H;exact gu h
def di(p0:ah)(p1:Int)(p2:Int):Option (Int×ah):=
 eL (gi p0 p1) (λr5=>(if r5=true then some (20,p0)else if bT p1 p0.cell.length then eL (fl ({p0 with cell:=p0.cell.set p1.toNat p2}) 1 p1 p2 0 true) (λHj=>some (0,Hj))else none))
theorem eF{p0 q0:ah}{p1 p2 r0:Int}{B0 er eN:Nat}{eu dU:Option Addr}(H:di p0 p1 p2=some (r0,q0))(h:Fit z (an (dx B0 p0 eu er dU eN::iC eu er p0.cell::bY dU eN p0.log::L)) w) :
 Calls Tryz.prog 258 #[pA B0 0,vI p1,vI p2] w λe w=>∃x1 x2 x3 x4,e=.returned (vI r0)∧Fit z (an (dx B0 q0 x1 x2 x3 x4::iC x1 x2 q0.cell::bY x3 x4 q0.log::L)) w:=by
 unfold di at H;refine ke Tryz.func258 21 rfl λj=>ks<|ko [U]<|kn<|wq<|ks<|fO H λr5 e6 H=>ko [U,U]<|eU (lN (H:=e6) (h:=h) :) λw h=>kn<|De H (λc7 H=>?_) λc7 H=>?_
 ·refine ks<|ko [U]<|kn<|wr<|tr<|?_;cases H;exact C4 eu er dU eN h
 refine wk<|tn<|ks<|ko [U,U,U]<|kL h 2<|qg H λc8 H=>ko [U,U]<|ki (h.pick 1) c8<|qh h.m1 λh=>λ_ r=>HC (wn rfl) r bq h p1.toNat 0 (vI p2) (ag p0.cell p1.toNat) p2 (bf c8) λw h=>qq r<|kn<|ks<|ko [U,U,U]<|?_;have WW:p0.cell.length=(p0.cell.set p1.toNat p2).length:=h.eY;replace h:=Fit.jZ WW (λq_=>rowOf 2 1 dK (.slice eu q_ er) (p0.cell.set p1.toNat p2)) (λq_=>pts B0 (.cells #[vI p0.jI,vI p0.dZ,.slice eu q_ er,.slice dU p0.log.length eN,vI p0.oT,vB p0.watched] 92)) h;refine fO H λHj Ro H=>qh h.m2.m1.m2 λh=>jz (j9 (H:=Ro) (h:=h) :) λvZ sU vo zk w h=>kn<|ks<|ko [U]<|kn<|wr<|?_;cases H;exact C4 vZ sU vo zk h
def iE(K:Nat)(p1:Int)(sx:Int):Nat→ah→Int→Option (aN×Int×ah)
 | 0,_,_=>none
 | k1+1,xI,rX=>(if rX<p1 then eL (fI (⟨sx,p1⟩:aN) rX) (λyM=>pL (di xI yM 1) (λvj N6=>(if vj=0 then(iE K p1 sx k1 N6 (wi (rX+1)))else some ((⟨0,0⟩:aN),vj,N6))))else some ((⟨sx,p1⟩:aN),0,xI))
def lX(K:Nat)(p0:ah)(p1:Int):Option (aN×Int×ah):=
 eL (qy p1) (λr6=>(if r6=0 then some ((⟨0,0⟩:aN),3,p0)else eL (qy p1) (λr9=>nC (eV p0 r9) (λsx xm C6=>(if xm=0 then(iE K p1 sx K C6 0)else some ((⟨0,0⟩:aN),xm,C6))))))
theorem xJ{K:Nat}{p0 q0:ah}{p1 r1:Int}{B0 er eN:Nat}{eu dU:Option Addr}{r0:aN}(H:lX K p0 p1=some (r0,r1,q0))(h:Fit z (an (dx B0 p0 eu er dU eN::iC eu er p0.cell::bY dU eN p0.log::L)) w) :
 Calls Tryz.prog 77 #[.iface 33 (pA B0 0),vI p1] w λe w=>∃x1 x2 x3 x4,e=.returned (.tuple #[eT r0,vI r1])∧Fit z (an (dx B0 q0 x1 x2 x3 x4::iC x1 x2 q0.cell::bY x3 x4 q0.log::L)) w:=by
 unfold lX at H;refine ke Tryz.func77 53 rfl λj=>ks<|kN h (#[vI 0,vI 0]) 104 λb5 w h=>ko [U]<|kn<|wq<|ks<|ko [U,U]<|kn<|λ_ r=>ik r (b:=false) rfl<|qq r<|wk<|tn<|wq<|ks<|fO H λr6 e7 H=>ko [U]<|eU (vN (H:=e7) (h:=h) :) λw h=>ko [vB (r6==0)]<|kn<|dR H (λc8 H=>?_) λc8 H=>?_
 ·refine ks<|ko [U]<|kA h (pts b5 (.cells #[vI 0,vI 0] 104)) λw h=>ko [U]<|kn<|wr<|tr<|λ_ r=>dA (cs:=[vI 0,vI 0]) (v:=vI 3) rfl r (by kernel_rfl) (by kernel_rfl) (by kernel_rfl) (by kernel_rfl) (h.held 0 rfl)<|?_;cases H;exact⟨eu,er,dU,eN,rfl,h.se 4 [1,2,3]⟩
 refine wk<|tn<|wq<|fO H λr9 B8 H=>ql H λsx xm C6 Ci H=>λ_ r=>fy [] [] 12 h (λ_=>trivial) λw h hd =>qq r<|gg hd 7 [(0,19,.iface 33 (pA B0 0)),(1,20,vI p1),(3,22,.func (.method "Reserve") #[.iface 33 (pA B0 0)] #[]),(4,23,.func (.method "Reserve") #[.iface 33 (pA B0 0)] #[]),(5,24,.iface 33 (pA B0 0))]<|λ_ r=>eZ 2 rfl<|qq r<|eU (vN (H:=B8) (h:=h) :) λw h=>kn<|λ_ r=>xE<|eZ 6 rfl<|qh h.m3.m3.m3 λh=>qq r<|jz (j3 (H:=Ci) (h:=h) :) λzk xG EC Cj w h=>kn<|λ_ r=>xE<|gU 4 7 rfl (wn rfl) r (.tuple #[vI sx,vI xm])<|?_;refine λ_ r=>gU 3 8 rfl (wn rfl) r (vI sx)<|?_;refine λ_ r=>gU 2 9 rfl (wn rfl) r (vI xm)<|?_;refine λ_ r=>gU 1 10 rfl (wn rfl) r (vI sx)<|?_;refine λ_ r=>gU 0 11 rfl (wn rfl) r (vI xm)<|?_;refine λ_ r=>ji<|qq r<|tn<|wq<|ks<|ko [U,vB (xm != 0)]<|kn<|oA H (λsy H=>?_) λsy H=>?_
 ·refine wk<|tn<|ks<|ko [U,U,U]<|kN h (#[vI 0,vI 0]) 104 λWZ w h=>kA h (pts WZ (.cells #[vI sx,vI p1] 104)) λw h=>kn<|wq<|ks<|ko [U,U]<|kn<|wb<|λ_ r=>dP (β:=Nat) id (λm a w=>∃Es:Option Addr,∃Et:Nat,∃O0:Option Addr,∃O1:Nat,∃xI:ah,∃rX:Int,(iE K p1 sx m xI rX)=some (r0,r1,q0)∧∃j,kP 53 (lk [(0,.iface 33 (pA B0 0)),(4,pA b5 0),(8,pA WZ 0),(35,vI p1),(36,vI rX)] j) a∧Fit z (an (dx B0 xI Es Et O0 O1::iC Es Et xI.cell::bY O0 O1 xI.log::pts b5 (.cells #[vI 0,vI 0] 104)::pts WZ (.cells #[vI sx,vI p1] 104)::L)) w) K ⟨zk,xG,EC,Cj,C6,0,H,r.fj (h.se 5 [1,2,3,4,0])⟩<|?_;clear h r H;rintro k1 a w ⟨Es,Et,O0,O1,xI,rX,H,j,r,h⟩;cases k1 with
  | zero=>exact absurd H (by simp[iE])
  | succ k1 =>
   rw[iE]at H;refine qq r<|ks<|ko [vB (decide (rX<p1))]<|kn<|wq<|dR H (λoD H=>?_) λoD H=>?_
   ·refine wk<|tn<|wq<|wb<|ks<|ko [U,U]<|kn<|wq<|fO H λyM N3 H=>ta H λvj N6 HV H=>λ_ r=>fy [(WZ,0,[vI sx,vI p1])] [3,4,5] 9 h (λh=>⟨((h.pick 4).held 0 rfl),gE⟩) λw h hd =>qq r<|gg hd 4 [(0,39,.iface 33 (pA B0 0)),(2,41,vI rX),(4,43,.func (.method "Store") #[.iface 33 (pA B0 0)] #[]),(5,44,.func (.method "Store") #[.iface 33 (pA B0 0)] #[]),(6,45,.iface 33 (pA B0 0))]<|tL hd 0 3 1 rfl rfl<|λ_ r=>eZ 3 rfl<|qq r<|eU (js (H:=N3) (h:=h) :) λw h=>kn<|λ_ r=>eE ⟨((h.pick 4).held 0 rfl),gE⟩ λhd =>qq r<|λ_ r=>eZ 7 rfl<|qq r<|jz (eF (H:=HV) (h:=h) :) λW0 W1 x35 C7 w h=>kn<|λ_ r=>xE<|gU 0 8 rfl (wn rfl) r (vI vj)<|?_;refine λ_ r=>ji<|qq r<|tn<|ks<|ko [U,vB (vj != 0)]<|kn<|oA H (λMJ H=>?_) λMJ H=>?_
    ·refine wk<|bn<|tn<|wl<|ko [vI (wi (rX+1)),vI (wi (rX+1))]<|kn<|?_;exact λ_ r=>⟨_,⟨W0,W1,x35,C7,N6,(wi (rX+1)),H,r.fj h⟩,Nat.lt_succ_self _⟩
    refine ks<|ko [U,U]<|qh h.m3 λh=>kA h (pts b5 (.cells #[vI 0,vI 0] 104)) λw h=>ko [U]<|kn<|wr<|br<|tr<|tr<|br<|tr<|λ_ r=>dA (cs:=[vI 0,vI 0]) (v:=vI vj) rfl r (by kernel_rfl) (by kernel_rfl) (by kernel_rfl) (by kernel_rfl) (h.held 0 rfl)<|?_;cases H;exact⟨W0,W1,x35,C7,rfl,h.se 5 [1,2,3]⟩
   refine wx<|te<|te<|bh<|tn<|ks<|kM (h.pick 4)<|qh h.m3 λh=>kA h (pts b5 (.cells #[vI sx,vI p1] 104)) λw h=>ko [U]<|kn<|wr<|λ_ r=>dA (cs:=[vI sx,vI p1]) (v:=vI 0) rfl r (by kernel_rfl) (by kernel_rfl) (by kernel_rfl) (by kernel_rfl) (h.held 0 rfl)<|?_;cases H;exact⟨Es,Et,O0,O1,rfl,h.se 5 [1,2,3]⟩
 refine ks<|ko [U,U]<|qh h.m3 λh=>kA h (pts b5 (.cells #[vI 0,vI 0] 104)) λw h=>ko [U]<|kn<|wr<|tr<|λ_ r=>dA (cs:=[vI 0,vI 0]) (v:=vI xm) rfl r (by kernel_rfl) (by kernel_rfl) (by kernel_rfl) (by kernel_rfl) (h.held 0 rfl)<|?_;cases H;exact⟨zk,xG,EC,Cj,rfl,h.se 4 [1,2,3]⟩
def mu(p0:Int):Option (Int):=
 (if p0<1 then some 0 else(if p0>64 then some 0 else some (wi ((2:Int)+p0))))
theorem rF{p0 r0:Int}(H:mu p0=some r0)(h:Fit z (an (L)) w) :
 Calls Tryz.prog 108 #[vI p0] w λe w=>e=.returned (vI r0)∧Fit z (an (L)) w:=by
 unfold mu at H;refine ke Tryz.func108 11 rfl λj=>ks<|ko [U]<|kn<|wq<|ks<|ko [U,vB (decide (p0<1)),vB (decide (p0<1))]<|qI H (λc1 H=>?_) λc1 H=>?_
 ·refine bZ (dT c1) [6,7]<|mH (dT c1) (vB true)<|kn<|λ_ r=>gb r (b:=true) rfl<|qq r<|ks<|ko [U]<|kn<|wr<|tr<|?_;cases H;exact gu h
 refine cS (dF c1) [6,7] [vI p0,vB (decide (p0>64))]<|mF (dF c1) (vB (decide (p0>64)))<|kn<|dR H (λc2 H=>?_) λc2 H=>?_
 ·refine ks<|ko [U]<|kn<|wr<|tr<|?_;cases H;exact gu h
 refine wk<|tn<|ks<|ko [U,vI (wi ((2:Int)+p0)),vI (wi ((2:Int)+p0))]<|kn<|wr<|?_;cases H;exact gu h
def nO(p0:ah)(p1:Int):Option (dm×Int×ah):=
 eL (mu p1) (λr6=>(if r6=0 then some ((⟨0,0⟩:dm),3,p0)else eL (mu p1) (λr9=>nC (eV p0 r9) (λsx xm C6=>(if xm=0 then some ((⟨sx,p1⟩:dm),0,C6)else some ((⟨0,0⟩:dm),xm,C6))))))
theorem zm{p0 q0:ah}{p1 r1:Int}{B0 er eN:Nat}{eu dU:Option Addr}{r0:dm}(H:nO p0 p1=some (r0,r1,q0))(h:Fit z (an (dx B0 p0 eu er dU eN::iC eu er p0.cell::bY dU eN p0.log::L)) w) :
 Calls Tryz.prog 78 #[.iface 33 (pA B0 0),vI p1] w λe w=>∃x1 x2 x3 x4,e=.returned (.tuple #[nu r0,vI r1])∧Fit z (an (dx B0 q0 x1 x2 x3 x4::iC x1 x2 q0.cell::bY x3 x4 q0.log::L)) w:=by
 unfold nO at H;refine ke Tryz.func78 32 rfl λj=>ks<|kN h (#[vI 0,vI 0]) 106 λb5 w h=>ko [U]<|kn<|wq<|ks<|ko [U,U]<|kn<|λ_ r=>ik r (b:=false) rfl<|qq r<|wk<|tn<|wq<|ks<|fO H λr6 e7 H=>ko [U]<|eU (rF (H:=e7) (h:=h) :) λw h=>ko [vB (r6==0)]<|kn<|dR H (λc8 H=>?_) λc8 H=>?_
 ·refine ks<|ko [U]<|kA h (pts b5 (.cells #[vI 0,vI 0] 106)) λw h=>ko [U]<|kn<|wr<|tr<|λ_ r=>dA (cs:=[vI 0,vI 0]) (v:=vI 3) rfl r (by kernel_rfl) (by kernel_rfl) (by kernel_rfl) (by kernel_rfl) (h.held 0 rfl)<|?_;cases H;exact⟨eu,er,dU,eN,rfl,h.se 4 [1,2,3]⟩
 refine wk<|tn<|wq<|fO H λr9 B8 H=>ql H λsx xm C6 Ci H=>λ_ r=>fy [] [] 12 h (λ_=>trivial) λw h hd =>qq r<|gg hd 7 [(0,16,.iface 33 (pA B0 0)),(1,17,vI p1),(3,19,.func (.method "Reserve") #[.iface 33 (pA B0 0)] #[]),(4,20,.func (.method "Reserve") #[.iface 33 (pA B0 0)] #[]),(5,21,.iface 33 (pA B0 0))]<|λ_ r=>eZ 2 rfl<|qq r<|eU (rF (H:=B8) (h:=h) :) λw h=>kn<|λ_ r=>xE<|eZ 6 rfl<|qh h.m3.m3.m3 λh=>qq r<|jz (j3 (H:=Ci) (h:=h) :) λzk xG EC Cj w h=>kn<|λ_ r=>xE<|gU 4 7 rfl (wn rfl) r (.tuple #[vI sx,vI xm])<|?_;refine λ_ r=>gU 3 8 rfl (wn rfl) r (vI sx)<|?_;refine λ_ r=>gU 2 9 rfl (wn rfl) r (vI xm)<|?_;refine λ_ r=>gU 1 10 rfl (wn rfl) r (vI sx)<|?_;refine λ_ r=>gU 0 11 rfl (wn rfl) r (vI xm)<|?_;refine λ_ r=>ji<|qq r<|tn<|wq<|ks<|ko [U,vB (xm != 0)]<|kn<|oA H (λsy H=>?_) λsy H=>?_
 ·refine wk<|tn<|ks<|ko [U,U,U]<|qh h.m3 λh=>kA h (pts b5 (.cells #[vI sx,vI p1] 106)) λw h=>ko [U]<|kn<|wr<|λ_ r=>dA (cs:=[vI sx,vI p1]) (v:=vI 0) rfl r (by kernel_rfl) (by kernel_rfl) (by kernel_rfl) (by kernel_rfl) (h.held 0 rfl)<|?_;cases H;exact⟨zk,xG,EC,Cj,rfl,h.se 4 [1,2,3]⟩
 refine ks<|ko [U,U]<|qh h.m3 λh=>kA h (pts b5 (.cells #[vI 0,vI 0] 106)) λw h=>ko [U]<|kn<|wr<|tr<|λ_ r=>dA (cs:=[vI 0,vI 0]) (v:=vI xm) rfl r (by kernel_rfl) (by kernel_rfl) (by kernel_rfl) (by kernel_rfl) (h.held 0 rfl)<|?_;cases H;exact⟨zk,xG,EC,Cj,rfl,h.se 4 [1,2,3]⟩
def sV(p0:Int)(p1:Int):Option (Bool):=
 (if(1:Int)≤p0 then(if p0≤p1 then some (decide (p1≤4096))else some false)else some false)
theorem Bf{p0 p1:Int}{r0:Bool}(H:sV p0 p1=some r0)(h:Fit z (an (L)) w) :
 Calls Tryz.prog 118 #[vI p0,vI p1] w λe w=>e=.returned (vB r0)∧Fit z (an (L)) w:=by
 unfold sV at H;refine ke Tryz.func118 16 rfl λj=>ks<|ko [U]<|kn<|ks<|ko [U,vB (decide ((1:Int)≤p0)),vB (decide ((1:Int)≤p0))]<|qI H (λc1 H=>?_) λc1 H=>?_
 ·refine cS (dT c1) [8,9,10] [vI p0,vI p1,vB (decide (p0≤p1))]<|mH (dT c1) (vB (decide (p0≤p1)))<|ko [vB (decide (p0≤p1))]<|qI H (λc2 H=>?_) λc2 H=>?_
  ·refine cS (dT c2) [13,14] [vI p1,vB (decide (p1≤4096))]<|mH (dT c2) (vB (decide (p1≤4096)))<|ko [vB (decide (p1≤4096))]<|kn<|wr<|?_;cases H;exact gu h
  refine bZ (dF c2) [13,14]<|mF (dF c2) (vB false)<|ko [U]<|kn<|wr<|?_;cases H;exact gu h
 refine bZ (dF c1) [8,9,10]<|mF (dF c1) (vB false)<|ko [U]<|bZ (rfl:false=false) [13,14]<|ko [U,U]<|kn<|wr<|?_;cases H;exact gu h
def mP(p0:ah)(p1:Int)(p2:Int):Option (aI×Int×ah):=
 eL (sV p1 p2) (λr6=>(if r6=true then nC (eV p0 (wi ((4:Int)+p1))) (λr9 zR vn=>(if zR=0 then pL (di vn (wi (r9+2)) (wi (r9+3))) (λvU lY=>(if vU=0 then pL (di lY (wi (r9+3)) p1) (λxB Hl=>(if xB=0 then some ((⟨r9,p2⟩:aI),0,Hl)else some ((⟨0,0⟩:aI),xB,Hl)))else some ((⟨0,0⟩:aI),vU,lY)))else some ((⟨0,0⟩:aI),zR,vn)))else some ((⟨0,0⟩:aI),30,p0)))
end
end Mo
end
section
namespace Mo
open Go SL GX
section
variable {K:Nat}
theorem Ds{i:Nat}(h:i<4611686018427387904):wi ((i:Int)+1)=((i+1:Nat):Int):=by rw[eM (by omega)];omega
theorem zn{α:Type}[Inhabited α]{n i:Nat}{x:α}(h:i<n):ag (List.replicate n x) i=x:=by
 unfold ag;rw[List.getD_eq_getElem?_getD,List.getElem?_replicate,fQ h];rfl
theorem rG{α:Type}[Inhabited α]{l:List α}{i:Nat}(h:i<l.length):ag l i∈l:=by
 unfold ag;rw[List.getD_eq_getElem?_getD,List.getElem?_eq_getElem h];exact List.getElem_mem h
theorem ED{α β:Type}[Inhabited α][Inhabited β](f:α→β){l:List α}{i:Nat}(h:i<l.length):ag (l.map f) i=f (ag l i):=by
 unfold ag;rw[List.getD_eq_getElem?_getD,List.getD_eq_getElem?_getD,List.getElem?_map,List.getElem?_eq_getElem h];rfl
abbrev Pt:=Int×Int
def nx(f:aG)(a:Int):List Int:=
 if (ag f.Code a.toNat).aa6=3 then [(ag f.Code a.toNat).A]else if(ag f.Code a.toNat).aa6=9 then []else if(ag f.Code a.toNat).aa6=4 then [a+1,(ag f.Code a.toNat).B]else [a+1]
def KB(f:aG)(sl a st:Int):Int:=
 if (ag f.Code a.toNat).aa6=5∧(ag f.Code a.toNat).A=sl then 2 else if(ag f.Code a.toNat).aa6=6∧st=2 then 4 else st
def nw(V:List Pt)(s:Int):List Int→List Pt
 | []=>[]
 | n::ns=>if(n,s)∈V then nw V s ns else(n,s)::nw (V++[(n,s)]) s ns
def Jx(f:aG)(sl:Int):Nat→List Pt→Nat→List Pt
 | 0,V,_=>V
 | d+1,V,k=>if k<V.length then Jx f sl d (V++nw V (KB f sl (ag V k).1 (ag V k).2) (nx f (ag V k).1)) (k+1)else V
structure H8(f:aG):Prop where
 lo:1≤f.Code.length
 hi:f.Code.length≤512
 nx:∀a:Int,0≤a→a<f.Code.length→∀n∈nx f a,0≤n∧n<f.Code.length
 kind:∀a:Int,0≤a→a<f.Code.length→0≤(ag f.Code a.toNat).aa6∧(ag f.Code a.toNat).aa6<10
def KC(s:Int):Prop:=s=1∨s=2∨s=4
structure Gj(f:aG)(V:List Pt):Prop where
 N7:∀x∈V,0≤x.1∧x.1<f.Code.length∧KC x.2
 nd:V.Nodup
theorem Ck:∀(n:Nat) (l:List Nat),l.Nodup→(∀x∈l,x<n)→l.length≤n
 | 0,l,_,h=>by cases l with | nil=>simp | cons a l=>exact absurd (h a (by simp)) (by omega)
 | n+1,l,hd,h=>by
  by_cases e:n∈l
  ·have:=Ck n (l.erase n) (hd.erase n) (λx hx=>by
    have h1:=h x (List.mem_of_mem_erase hx)
    have:x≠n:=λe=>by subst e;exact(List.Nodup.not_mem_erase hd) hx
    omega)
   rw[List.length_erase_of_mem e]at this;omega
  ·have:=Ck n l hd (λx hx=>by
    have h1:=h x hx
    have:x≠n:=λe'=>by subst e';exact e hx
    omega)
   omega
def cd(x:Pt):Nat:=x.1.toNat*3+(if x.2=1 then 0 else if x.2=2 then 1 else 2)
theorem Gj.len{f:aG}{V:List Pt}(h:Gj f V):V.length≤3*f.Code.length:=by
 have:=Ck (3*f.Code.length) (V.map cd) (by
  refine List.pairwise_map.2 (h.nd.imp_of_mem λ{x y} hx hy hxy e=>hxy ?_)
  obtain⟨a1,a2,a3⟩:=h.N7 x hx
  obtain⟨b1,b2,b3⟩:=h.N7 y hy
  obtain⟨x1,x2⟩:=x
  obtain⟨y1,y2⟩:=y
  unfold cd at e
  simp only at *
  rcases a3 with rfl | rfl | rfl<;>rcases b3 with rfl | rfl | rfl<;>simp at e<;>first | omega | (obtain rfl:x1=y1:=(by omega));rfl) (λn hn=>by
  obtain⟨x,hx,rfl⟩:=List.mem_map.1 hn
  obtain⟨a1,a2,a3⟩:=h.N7 x hx
  unfold cd
  rcases a3 with h | h | h<;>simp only[h]<;>simp<;>omega)
 simpa using this
theorem EE{f:aG}{s:Int}(hs:KC s):∀(ns:List Int) (V:List Pt),Gj f V→(∀n∈ns,0≤n∧n<f.Code.length)→Gj f (V++nw V s ns)∧∀n∈ns,(n,s)∈V++nw V s ns
 | [],V,h,_=>by simp[nw];exact h
 | n::ns,V,h,hn=>by
  unfold nw
  split
  ·rename_i e
   obtain⟨a,b⟩:=EE hs ns V h (λm hm=>hn m (List.mem_cons_of_mem _ hm))
   refine⟨a,λm hm => ?_⟩
   rcases List.mem_cons.1 hm with rfl | hm
   ·exact List.mem_append_left _ e
   ·exact b m hm
  ·rename_i e
   have h':Gj f (V++[(n,s)]):=⟨λx hx=>by
    rcases List.mem_append.1 hx with hx | hx
    ·exact h.N7 x hx
    ·rw[List.mem_singleton.1 hx];exact⟨(hn n (by simp)).1,(hn n (by simp)).2,hs⟩,List.nodup_append.2 ⟨h.nd,by simp,λx hx y hy e'=>by rw[List.mem_singleton.1 hy]at e';subst e';exact e hx⟩⟩
   obtain⟨a,b⟩:=EE hs ns (V++[(n,s)]) h' (λm hm=>hn m (List.mem_cons_of_mem _ hm))
   rw[List.append_assoc,List.singleton_append]at a b
   refine⟨a,λm hm => ?_⟩
   rcases List.mem_cons.1 hm with rfl | hm
   ·simp
   ·exact b m hm
def yw(f:aG)(sl:Int)(V:List Pt)(k:Nat):Prop:=∀j,j<k→j<V.length→∀n∈nx f (ag V j).1,(n,KB f sl (ag V j).1 (ag V j).2)∈V
theorem Rv{f:aG}{sl a s:Int}(h:KC s):KC (KB f sl a s):=by
 unfold KB;split
 ·exact .inr (.inl rfl)
 ·split
  ·exact .inr (.inr rfl)
  ·exact h
theorem Ah{f:aG}(hf:H8 f){sl:Int}{V:List Pt}{k:Nat}(h:Gj f V)(hk:k<V.length)(hc:yw f sl V k) :
 Gj f (V++nw V (KB f sl (ag V k).1 (ag V k).2) (nx f (ag V k).1))∧yw f sl (V++nw V (KB f sl (ag V k).1 (ag V k).2) (nx f (ag V k).1)) (k+1):=by
 obtain⟨a1,a2,a3⟩:=h.N7 _ (rG hk)
 obtain⟨a,b⟩:=EE (Rv (f:=f) (sl:=sl) (a:=(ag V k).1) a3) (nx f (ag V k).1) V h (hf.nx _ a1 a2)
 refine⟨a,λj hj hl n hn => ?_⟩
 have hjV:j<V.length:=by omega
 rw[oE hjV]at hn⊢
 by_cases e:j=k
 ·subst e;exact b n hn
 ·exact List.mem_append_left _ (hc j (by omega) hjV n hn)
theorem MK{f:aG}(hf:H8 f){sl:Int}:∀(d k:Nat) (V:List Pt),k+d=3*f.Code.length→Gj f V→yw f sl V k→k≤V.length→
 Gj f (Jx f sl d V k)∧yw f sl (Jx f sl d V k) (Jx f sl d V k).length∧(∀x∈V,x∈Jx f sl d V k)
 | 0,k,V,hd,h,hc,hk=>by
  unfold Jx
  have:=h.len
  obtain rfl:k=V.length:=by omega
  exact⟨h,hc,λ_ h=>h⟩
 | d+1,k,V,hd,h,hc,hk=>by
  unfold Jx
  split
  ·rename_i e
   obtain⟨a,b⟩:=Ah hf h e hc
   obtain⟨r1,r2,r3⟩:=MK hf d (k+1) _ (by omega) a b (by rw[List.length_append];omega)
   exact⟨r1,r2,λx hx=>r3 x (List.mem_append_left _ hx)⟩
  ·rename_i e
   obtain rfl:k=V.length:=by omega
   exact⟨h,hc,λ_ h=>h⟩
def wt(V:List Pt)(a:Int):Int:=(if(a,1)∈V then 1 else 0)+(if(a,2)∈V then 2 else 0)+(if(a,4)∈V then 4 else 0)
structure Qt(f:aG)(V:List Pt)(met:List Int):Prop where
 len:met.length=f.Code.length
 val:∀a,a<f.Code.length→ag met a=wt V a
theorem UX:∀(a b c:Bool) (s:Int),KC s→((gO ((if a then 1 else 0)+(if b then 2 else 0)+(if c then 4 else 0)) s=0)↔(s=1∧a=false)∨(s=2∧b=false)∨(s=4∧c=false)):=by
 intro a b c s hs
 rcases hs with rfl | rfl | rfl<;>cases a<;>cases b<;>cases c<;>decide
theorem Bu{V:List Pt}{a s:Int}(hs:KC s):gO (wt V a) s=0↔(a,s)∉V:=by
 have:=UX (decide ((a,1)∈V)) (decide ((a,2)∈V)) (decide ((a,4)∈V)) s hs
 simp only[decide_eq_true_eq,decide_eq_false_iff_not]at this
 unfold wt;rw[this]
 rcases hs with rfl | rfl | rfl<;>simp
theorem Rw{V:List Pt}{a:Int}:0≤wt V a∧wt V a≤7:=by
 unfold wt;split<;>split<;>split<;>omega
theorem Rx{V:List Pt}{n s:Int}(hs:KC s)(hn:(n,s)∉V)(a:Int):wt (V++[(n,s)]) a=if a=n then wt V a+s else wt V a:=by
 unfold wt
 by_cases e:a=n
 ·subst e;rw[fQ rfl]
  rcases hs with rfl | rfl | rfl<;>simp[hn]<;>omega
 ·rw[fh e];simp[e]
theorem Qt.add{f:aG}{V:List Pt}{met:List Int}{n s:Int}(h:Qt f V met)(hs:KC s)(hn:(n,s)∉V)(h0:0≤n)(h1:n<f.Code.length) :
 Qt f (V++[(n,s)]) (met.set n.toNat (wi (ag met n.toNat+s))):=by
 refine⟨by rw[List.length_set];exact h.len,λa ha => ?_⟩
 rw[Rx hs hn]
 by_cases e:n.toNat=a
 ·subst e
  rw[pV (by rw[h.len];omega),fQ (by omega),h.val _ ha]
  have:=Rw (V:=V) (a:=((n.toNat:Nat):Int))
  rw[eM];rcases hs with rfl | rfl | rfl<;>omega
 ·rw[uG e,fh (by omega),h.val a ha]
theorem H9{f:aG}{s:Int}(hs:KC s){ns:List Int}(Ki:∀n∈ns,0≤n∧n<f.Code.length)(hlen:f.Code.length≤512)(UY:ns.length≤2):∀(d k i:Nat) (V:List Pt) (met:List Int),i+d=ns.length→d<k→Gj f V→Qt f V met→
 ∃met',fJ K s ns k met (V.map (·.1)) (V.map (·.2)) (i:Int)=some (met',(V++nw V s (ns.drop i)).map (·.1),(V++nw V s (ns.drop i)).map (·.2))∧Qt f (V++nw V s (ns.drop i)) met'
 | d,k,i,V,met,hd,hk,hV,hm=>by
  obtain⟨k,rfl⟩ :∃m,k=m+1:=⟨k-1,by omega⟩
  rw[fJ]
  have hL:=hV.len
  by_cases hi:i<ns.length
  ·obtain⟨d,rfl⟩ :∃m,d=m+1:=⟨d-1,by omega⟩
   have Yv:ns.drop i=ag ns i::ns.drop (i+1):=by
    rw[List.drop_eq_getElem_cons hi];unfold ag;rw[List.getD_eq_getElem?_getD,List.getElem?_eq_getElem hi];rfl
   obtain⟨n0,n1⟩:=Ki _ (rG hi)
   rw[fQ (by omega),fQ ⟨by omega,by omega⟩,Int.toNat_natCast,fQ ⟨n0,by rw[hm.len];exact n1⟩,hm.val _ (by omega),show(((ag ns i).toNat:Nat):Int)=ag ns i by omega,Ds (by omega),Yv]
   rw[nw]
   by_cases e:(ag ns i,s)∈V
   ·rw[fh (λh=>(Bu hs).1 h e),fQ e]
    exact H9 hs Ki hlen UY d k (i+1) V met (by omega) (by omega) hV hm
   ·rw[fQ ((Bu hs).2 e),fh e,fQ (by rw[List.length_map];omega),fQ (by rw[List.length_map];omega)]
    have Yw:Gj f (V++[(ag ns i,s)]):=⟨λx hx=>by
     rcases List.mem_append.1 hx with hx | hx
     ·exact hV.N7 x hx
     ·rw[List.mem_singleton.1 hx];exact⟨n0,n1,hs⟩,List.nodup_append.2 ⟨hV.nd,by simp,λx hx y hy e'=>by rw[List.mem_singleton.1 hy]at e';subst e';exact e hx⟩⟩
    have hm':=hm.add hs e n0 n1
    rw[hm.val _ (by omega),show(((ag ns i).toNat:Nat):Int)=ag ns i by omega]at hm'
    obtain⟨met',r1,r2⟩:=H9 hs Ki hlen UY d k (i+1) _ _ (by omega) (by omega) Yw hm'
    refine⟨met',?_,?_⟩
    ·rw[List.map_append,List.map_append,List.append_assoc,List.singleton_append]at r1
     exact r1
    ·rw[List.append_assoc,List.singleton_append]at r2;exact r2
  ·rw[fh (by omega),List.drop_of_length_le (by omega)]
   simp only[nw,List.append_nil]
   exact⟨met,rfl,hm⟩
theorem Gk{f:aG}{sl a s:Int}:mT (ag f.Code a.toNat) sl s=some (KB f sl a s)∧rU (ag f.Code a.toNat) sl s=some (KB f sl a s):=by
 unfold mT rU KB
 by_cases h1:(ag f.Code a.toNat).aa6=5
 ·by_cases h2:(ag f.Code a.toNat).A=sl
  ·simp[h1,h2]
  ·simp[h1,h2]
 ·by_cases h2:(ag f.Code a.toNat).aa6=6
  ·by_cases h3:s=2<;>simp[h1,h2,h3]
  ·simp[h1,h2]
theorem ML{f:aG}(hlen:f.Code.length≤512){a:Int}(h0:0≤a)(h1:a<f.Code.length):mU f a=some (nx f a):=by
 unfold mU nx
 rw[fQ ⟨h0,h1⟩,eM (x:=a+1) (by omega)]
 split
 ·rfl
 ·split
  ·rfl
  ·split<;>rfl
theorem EF{f:aG}{a:Int}:(nx f a).length≤2:=by
 unfold nx
 split
 ·simp
 split
 ·simp
 split<;>simp
theorem MM{f:aG}(hf:H8 f){sl:Int}(hK:3000<K):∀(d j k:Nat) (V:List Pt) (met:List Int),j+d=3*f.Code.length→d<k→j≤V.length→Gj f V→yw f sl V j→Qt f V met→
 ∃met',gy K f sl k met (V.map (·.1)) (V.map (·.2)) (j:Int)=some met'∧Qt f (Jx f sl d V j) met'
 | d,j,k,V,met,hd,hk,hj,hV,hc,hm=>by
  obtain⟨k,rfl⟩ :∃m,k=m+1:=⟨k-1,by omega⟩
  rw[gy]
  have hL:=hV.len
  have EG:=hf.hi
  by_cases hi:j<V.length
  ·obtain⟨d,rfl⟩ :∃m,d=m+1:=⟨d-1,by omega⟩
   obtain⟨a1,a2,a3⟩:=hV.N7 _ (rG hi)
   rw[fQ (by rw[List.length_map];omega),fQ ⟨by omega,by rw[List.length_map];omega⟩,Int.toNat_natCast,ED _ hi,ED _ hi,fQ ⟨a1,a2⟩,fQ ⟨by omega,by rw[List.length_map];omega⟩,Gk.1,aE,ML EG a1 a2,aE,Ds (by omega)]
   obtain⟨met',r1,r2⟩:=H9 (K:=K) (f:=f) (s:=KB f sl (ag V j).1 (ag V j).2) (Rv a3) (ns:=nx f (ag V j).1) (hf.nx _ a1 a2) EG EF (nx f (ag V j).1).length K 0 V met (by omega) (by have:=EF (f:=f) (a:=(ag V j).1);omega) hV hm
   rw[Int.ofNat_zero]at r1;rw[r1,cW,Jx,fQ hi]
   obtain⟨b1,b2⟩:=Ah hf hV hi hc
   exact MM hf hK d (j+1) k _ _ (by omega) (by omega) (by rw[List.length_append];omega) b1 b2 r2
  ·rw[fh (by rw[List.length_map];omega)]
   refine⟨met,rfl,?_⟩
   cases d with
   | zero=>exact hm
   | succ d=>rw[Jx,fh hi];exact hm
def reach(f:aG)(sl:Int):List Pt:=Jx f sl (3*f.Code.length) [(0,1)] 0
theorem Ry{f:aG}(hf:H8 f):Gj f [(0,1)]:=⟨λx hx=>by rw[List.mem_singleton.1 hx];exact⟨by decide,by have:=hf.lo;omega,.inl rfl⟩,by simp⟩
theorem MN{f:aG}(hf:H8 f)(sl:Int):Gj f (reach f sl)∧yw f sl (reach f sl) (reach f sl).length∧(0,1)∈reach f sl:=by
 obtain⟨a,b,c⟩:=MK hf (sl:=sl) (3*f.Code.length) 0 [(0,1)] (by omega) (Ry hf) (λj hj=>by omega) (by simp)
 exact⟨a,b,c _ (by simp)⟩
theorem Ia{f:aG}(hf:H8 f)(sl:Int)(hK:3000<K) :∃met,j2 K f sl=some met∧Qt f (reach f sl) met:=by
 unfold j2
 have h1:=hf.lo
 have h2:=hf.hi
 rw[fQ ⟨by omega,by omega⟩,fQ ⟨by decide,by rw[List.length_replicate];omega⟩]
 exact MM hf hK (3*f.Code.length) 0 K [(0,1)] _ (by omega) (by omega) (by simp) (Ry hf) (λj hj=>by omega) ⟨by simp,λa ha=>by
  by_cases e:a=0
  ·subst e;rw[pV (by simpa using ha)];simp[wt]
  ·rw[uG (by omega),zn ha];unfold wt;rw[fh (by simp;omega),fh (by simp),fh (by simp)];rfl⟩
end
end Mo
end
section
namespace Mo
open Go SL GX
section
variable {K:Nat}
abbrev pt(x:Pt):aL:=⟨x.1,x.2⟩
theorem Rz{x y:Pt}(h:pt x=pt y):x=y:=by
 obtain⟨a,b⟩:=x;obtain⟨c,d⟩:=y
 simp only[pt,aL.mk.injEq]at h
 rw[h.1,h.2]
theorem Gl{β:Type}:∀(l:List (aL×β)) (k:aL),(tP l k).isSome=true↔k∈l.map (·.1)
 | [],k=>by simp[tP]
 | (a,b)::l,k=>by
  unfold tP
  by_cases e:k=a
  ·simp[e]
  ·rw[fh e,Gl l k];simp[e]
theorem mem_keys{V:List Pt}{m:List (aL×aL)}(h:m.map (·.1)=V.map pt)(x:Pt):(tP m (pt x)).isSome=true↔x∈V:=by
 rw[Gl,h,List.mem_map]
 exact⟨λ⟨y,hy,e⟩=>Rz e▸ hy,λhx=>⟨x,hx,rfl⟩⟩
theorem EH{f:aG}{s:Int}(hs:KC s){ns:List Int}(l8:List aL)(Ki:∀n∈ns,0≤n∧n<f.Code.length)(hlen:f.Code.length≤512)(UY:ns.length≤2):∀(d k i:Nat) (V:List Pt) (m:List (aL×aL)) (W:List aL),i+d=ns.length→d<k→Gj f V→m.map (·.1)=V.map pt→W.length≤V.length→
 ∃m',iD K l8 s ns k m W (i:Int)=some (m',W++(nw V s (ns.drop i)).map pt)∧m'.map (·.1)=(V++nw V s (ns.drop i)).map pt
 | d,k,i,V,m,W,hd,hk,hV,hm,hW=>by
  obtain⟨k,rfl⟩ :∃m,k=m+1:=⟨k-1,by omega⟩
  rw[iD]
  have hL:=hV.len
  by_cases hi:i<ns.length
  ·obtain⟨d,rfl⟩ :∃m,d=m+1:=⟨d-1,by omega⟩
   have Yv:ns.drop i=ag ns i::ns.drop (i+1):=by
    rw[List.drop_eq_getElem_cons hi];unfold ag;rw[List.getD_eq_getElem?_getD,List.getElem?_eq_getElem hi];rfl
   obtain⟨n0,n1⟩:=Ki _ (rG hi)
   rw[fQ (by omega),fQ ⟨by omega,by omega⟩,Int.toNat_natCast,Ds (by omega),Yv,nw]
   by_cases e:(ag ns i,s)∈V
   ·rw[fQ ((mem_keys hm (ag ns i,s)).2 e),fQ e]
    exact EH hs l8 Ki hlen UY d k (i+1) V m W (by omega) (by omega) hV hm hW
   ·have e0:¬(tP m (⟨ag ns i,s⟩:aL)).isSome=true:=λh=>e ((mem_keys hm (ag ns i,s)).1 h)
    have e1:tP m (⟨ag ns i,s⟩:aL)=none:=by
     cases h:tP m (⟨ag ns i,s⟩:aL)with
     | none=>rfl
     | some x=>rw[h]at e0;exact absurd rfl e0
    rw[fh e0,fh e,fQ e1,fQ (by omega)]
    have Yw:Gj f (V++[(ag ns i,s)]):=⟨λx hx=>by
     rcases List.mem_append.1 hx with hx | hx
     ·exact hV.N7 x hx
     ·rw[List.mem_singleton.1 hx];exact⟨n0,n1,hs⟩,List.nodup_append.2 ⟨hV.nd,by simp,λx hx y hy e'=>by rw[List.mem_singleton.1 hy]at e';subst e';exact e hx⟩⟩
    obtain⟨m',r1,r2⟩:=EH hs l8 Ki hlen UY d k (i+1) (V++[(ag ns i,s)]) (m++[((⟨ag ns i,s⟩:aL),ag l8 0)]) (W++[(⟨ag ns i,s⟩:aL)]) (by omega) (by omega) Yw (by rw[List.map_append,List.map_append,hm];rfl) (by simp;omega)
    refine⟨m',?_,?_⟩
    ·rw[List.append_assoc,List.singleton_append]at r1;exact r1
    ·rw[List.append_assoc,List.singleton_append]at r2;exact r2
  ·rw[fh (by omega),List.drop_of_length_le (by omega)]
   simp only[nw,List.append_nil,List.map_nil]
   exact⟨m,rfl,hm⟩
theorem Yx{k:Int}(h0:0≤k)(h1:k<10):(ag tY k.toNat).next = !(decide (k=3)||decide (k=9)):=by
 rcases(by omega:k=0∨k=1∨k=2∨k=3∨k=4∨k=5∨k=6∨k=7∨k=8∨k=9)with rfl | rfl | rfl | rfl | rfl | rfl | rfl | rfl | rfl | rfl<;>rfl
theorem KD{f:aG}(hf:H8 f){a:Int}(h0:0≤a)(h1:a<f.Code.length):rV f a=some (nx f a):=by
 have EG:=hf.hi
 obtain⟨k0,k1⟩:=hf.kind a h0 h1
 have hn:=hf.nx a h0 h1
 unfold rV
 rw[fQ ⟨h0,h1⟩,fQ ⟨k0,by exact k1⟩,Yx k0 k1,eM (x:=a+1) (by omega)]
 unfold nx at hn⊢
 by_cases e3:(ag f.Code a.toNat).aa6=3
 ·simp[e3]
 ·by_cases e9:(ag f.Code a.toNat).aa6=9
  ·simp[e9]
  ·by_cases e4:(ag f.Code a.toNat).aa6=4
   ·have:a+1<f.Code.length:=by rw[fh e3,fh e9,fQ e4]at hn;exact(hn (a+1) (by simp)).2
    simp[e4,this]
   ·have:a+1<f.Code.length:=by rw[fh e3,fh e9,fh e4]at hn;exact(hn (a+1) (by simp)).2
    simp[e3,e4,e9,this]
theorem Jy{f:aG}(hf:H8 f){sl:Int}(hK:3000<K):∀(d j k:Nat) (V:List Pt) (m:List (aL×aL)),j+d=3*f.Code.length→d<k→j≤V.length→Gj f V→yw f sl V j→m.map (·.1)=V.map pt→
 ∃m',jo K f sl k m ((V.drop j).map pt)=some m'∧m'.map (·.1)=(Jx f sl d V j).map pt
 | d,j,k,V,m,hd,hk,hj,hV,hc,hm=>by
  obtain⟨k,rfl⟩ :∃m,k=m+1:=⟨k-1,by omega⟩
  rw[jo]
  have hL:=hV.len
  have EG:=hf.hi
  by_cases hi:j<V.length
  ·obtain⟨d,rfl⟩ :∃m,d=m+1:=⟨d-1,by omega⟩
   obtain⟨a1,a2,a3⟩:=hV.N7 _ (rG hi)
   have hl:((V.drop j).map pt).length=V.length-j:=by simp
   have h0:ag ((V.drop j).map pt) 0=pt (ag V j):=by
    rw[ED _ (by simp;omega)];congr 1;unfold ag;simp[List.getD_eq_getElem?_getD]
   have h1:((V.drop j).map pt).drop 1=(V.drop (j+1)).map pt:=by rw[←List.map_drop,List.drop_drop]
   rw[fQ (by rw[hl];omega),fQ ⟨by decide,by rw[hl];omega⟩,fQ ⟨by decide,by rw[hl];omega⟩,fQ (by rw[hl];omega),h0,h1,rE,aE,fh (by decide),fQ ⟨a1,a2⟩,Gk.2,aE,KD hf a1 a2,aE]
   obtain⟨m',r1,r2⟩:=EH (K:=K) (f:=f) (s:=KB f sl (ag V j).1 (ag V j).2) (Rv a3) (ns:=nx f (ag V j).1) ((V.drop j).map pt) (hf.nx _ a1 a2) EG EF (nx f (ag V j).1).length K 0 V m ((V.drop (j+1)).map pt) (by omega) (by have:=EF (f:=f) (a:=(ag V j).1);omega) hV hm (by simp)
   rw[Int.ofNat_zero]at r1
   rw[r1,ej,Jx,fQ hi,List.drop_zero]
   rw[List.drop_zero]at r2
   obtain⟨b1,b2⟩:=Ah hf hV hi hc
   rw[show(V.drop (j+1)).map pt++(nw V (KB f sl (ag V j).1 (ag V j).2) (nx f (ag V j).1)).map pt=((V++nw V (KB f sl (ag V j).1 (ag V j).2) (nx f (ag V j).1)).drop (j+1)).map pt by rw[List.drop_append_of_le_length (by omega),List.map_append]]
   exact Jy hf hK d (j+1) k _ m' (by omega) (by omega) (by rw[List.length_append];omega) b1 b2 r2
  ·have:(V.drop j).map pt=[]:=by rw[List.drop_of_length_le (by omega)];rfl
   rw[this,fh (by simp)]
   refine⟨m,rfl,?_⟩
   cases d with
   | zero=>exact hm
   | succ d=>rw[Jx,fh hi];exact hm
theorem O2{f:aG}(hf:H8 f)(sl:Int)(hK:3000<K) :∃m,nM K f sl=some m∧m.map (·.1)=(reach f sl).map pt:=by
 unfold nM
 have h2:=hf.hi
 exact Jy hf hK (3*f.Code.length) 0 K [(0,1)] _ (by omega) (by omega) (by simp) (Ry hf) (λj hj=>by omega) rfl
structure Jz(f:aG)(R:List (List Int))(n:Nat):Prop where
 len:R.length=f.Code.length
 wid:∀a,a<f.Code.length→(ag R a).length=f.bJ.toNat
 val:∀a,a<f.Code.length→∀c,c<n→c<f.bJ.toNat→ag (ag R a) c=wt (reach f c) a
 zero:∀a,a<f.Code.length→∀c,n≤c→c<f.bJ.toNat→ag (ag R a) c=0
theorem MO{f:aG}{R Q:List (List Int)}{n:Nat}(h:Jz f R n)(k:Jz f Q n):R=Q:=by
 have ext:∀{α:Type} [Inhabited α] (x y:List α),x.length=y.length→(∀i,i<x.length→ag x i=ag y i)→x=y:=by
  intro α _ x y hl he
  refine List.ext_getElem hl λi h1 h2 => ?_
  have:=he i h1
  unfold ag at this
  rw[List.getD_eq_getElem?_getD,List.getD_eq_getElem?_getD,List.getElem?_eq_getElem h1,List.getElem?_eq_getElem h2]at this
  exact this
 refine ext R Q (by rw[h.len,k.len]) λi hi => ?_
 rw[h.len]at hi
 exact ext _ _ (by rw[h.wid i hi,k.wid i hi]) λc hc=>by
  rw[h.wid i hi]at hc
  by_cases e:c<n
  ·rw[h.val i hi c e hc,k.val i hi c e hc]
  ·rw[h.zero i hi c (by omega) hc,k.zero i hi c (by omega) hc]
end
end Mo
end
section
namespace Mo
open Go SL GX
section
variable {K:Nat}
theorem oe{α:Type}[Inhabited α]{l:List α}{i k:Nat}{x:α}(h:i<l.length):ag (l.set i x) k=if k=i then x else ag l k:=by
 by_cases e:k=i
 ·subst e;rw[pV h,fQ rfl]
 ·rw[uG (λe'=>e e'.symm),fh e]
def Zero(f:aG)(R:List (List Int))(i:Nat):Prop:=R.length=f.Code.length∧∀a,a<i→ag R a=List.replicate f.bJ.toNat 0
theorem JA{f:aG}(hf:H8 f)(h0:0≤f.bJ)(h8:f.bJ≤8):∀(d k i:Nat) (R:List (List Int)),i+d=f.Code.length→d<k→Zero f R i→
 ∃R',jk K f k R (i:Int)=some R'∧mm K f k R (i:Int)=some R'∧Zero f R' f.Code.length
 | d,k,i,R,hd,hk,hz=>by
  obtain⟨k,rfl⟩ :∃m,k=m+1:=⟨k-1,by omega⟩
  rw[jk,mm]
  have h2:=hf.hi
  by_cases hi:i<f.Code.length
  ·obtain⟨d,rfl⟩ :∃m,d=m+1:=⟨d-1,by omega⟩
   rw[fQ (by rw[List.length_replicate];omega),fQ ⟨h0,by omega⟩,fQ ⟨by omega,by rw[hz.1];omega⟩,fQ (by rw[List.length_replicate];omega),fQ ⟨h0,by omega⟩,fQ ⟨by omega,by rw[hz.1];omega⟩,Int.toNat_natCast,Ds (by omega)]
   exact JA hf h0 h8 d k (i+1) _ (by omega) (by omega) ⟨by rw[List.length_set];exact hz.1,λa ha=>by
    rw[oe (by rw[hz.1];exact hi)]
    split
    ·rfl
    ·exact hz.2 a (by omega)⟩
  ·rw[fh (by rw[List.length_replicate];omega),fh (by rw[List.length_replicate];omega)]
   obtain rfl:i=f.Code.length:=by omega
   exact⟨R,rfl,rfl,hz⟩
structure MP(f:aG)(R R':List (List Int))(c:Nat)(i:Nat)(v:Nat→Int):Prop where
 len:R'.length=f.Code.length
 wid:∀a,a<f.Code.length→(ag R' a).length=f.bJ.toNat
 lo:∀a,a<i→a<f.Code.length→ag (ag R' a) c=v a
 hi:∀a,i≤a→a<f.Code.length→ag (ag R' a) c=ag (ag R a) c
 Qu:∀a,a<f.Code.length→∀b,b≠c→ag (ag R' a) b=ag (ag R a) b
theorem MP.tab{f:aG}{R R':List (List Int)}{c:Nat}(h:Jz f R c)(k:MP f R R' c f.Code.length (λa=>wt (reach f c) a)):Jz f R' (c+1):=by
 refine⟨k.len,k.wid,λa ha b hb hs => ?_,λa ha b hb hs => ?_⟩
 ·by_cases e:b=c
  ·subst e;exact k.lo a ha ha
  ·rw[k.Qu a ha b e];exact h.val a ha b (by omega) hs
 ·rw[k.Qu a ha b (by omega)];exact h.zero a ha b (by omega) hs
theorem JB{f:aG}(hf:H8 f){c:Nat}(hc:c<f.bJ.toNat){met:List Int}(hm:met.length=f.Code.length){R:List (List Int)}:∀(d k i:Nat) (Q:List (List Int)),i+d=f.Code.length→d<k→MP f R Q c i (λa=>ag met a)→
 ∃R',jl K f (c:Int) met k Q (i:Int)=some R'∧MP f R R' c f.Code.length (λa=>ag met a)
 | d,k,i,Q,hd,hk,hz=>by
  obtain⟨k,rfl⟩ :∃m,k=m+1:=⟨k-1,by omega⟩
  rw[jl]
  have h2:=hf.hi
  by_cases hi:i<f.Code.length
  ·obtain⟨d,rfl⟩ :∃m,d=m+1:=⟨d-1,by omega⟩
   have hl:=hz.len
   have hw:=hz.wid i hi
   rw[fQ (by rw[List.length_replicate];omega),fQ ⟨by omega,by omega⟩,fQ ⟨by omega,by omega⟩,Int.toNat_natCast,fQ ⟨by omega,by rw[hw];omega⟩,Int.toNat_natCast,Ds (by omega)]
   refine JB hf hc hm d k (i+1) _ (by omega) (by omega) ⟨by rw[List.length_set];exact hl,λa ha => ?_,λa ha hb => ?_,λa ha hb => ?_,λa ha b hb => ?_⟩
   ·rw[oe (by omega)];split
    ·rw[List.length_set];exact hw
    ·exact hz.wid a ha
   ·rw[oe (by omega)];split
    ·rename_i e;subst e;rw[pV (by omega)]
    ·exact hz.lo a (by omega) hb
   ·rw[oe (by omega),fh (by omega)];exact hz.hi a (by omega) hb
   ·rw[oe (by omega)];split
    ·rename_i e;subst e;rw[uG (λe=>hb e.symm)];exact hz.Qu a ha b hb
    ·exact hz.Qu a ha b hb
  ·rw[fh (by rw[List.length_replicate];omega)]
   obtain rfl:i=f.Code.length:=by omega
   exact⟨Q,rfl,hz⟩
theorem MP.zero{f:aG}{R:List (List Int)}{c n:Nat}(h:Jz f R n)(v:Nat→Int):MP f R R c 0 v:=⟨h.len,h.wid,λa ha=>by omega,λ_ _ _=>rfl,λ_ _ _ _=>rfl⟩
theorem JC{f:aG}(hf:H8 f)(h0:0≤f.bJ)(h8:f.bJ≤8)(hK:3000<K):∀(d k i:Nat) (R:List (List Int)),i+d=f.bJ.toNat→d<k→Jz f R i→
 ∃R',jm K f k R (i:Int)=some R'∧Jz f R' f.bJ.toNat
 | d,k,i,R,hd,hk,hz=>by
  obtain⟨k,rfl⟩ :∃m,k=m+1:=⟨k-1,by omega⟩
  rw[jm]
  have h2:=hf.hi
  by_cases hi:i<f.bJ.toNat
  ·obtain⟨d,rfl⟩ :∃m,d=m+1:=⟨d-1,by omega⟩
   obtain⟨met,e1,e2⟩:=Ia (K:=K) hf (i:Int) hK
   obtain⟨R',r1,r2⟩:=JB (K:=K) hf hi e2.len f.Code.length K 0 R (by omega) (by omega) (MP.zero hz _)
   rw[fQ (by omega),e1,aE,Int.ofNat_zero]at *
   rw[r1,aE,Ds (by omega)]
   refine JC hf h0 h8 hK d k (i+1) R' (by omega) (by omega) (MP.tab hz ⟨r2.len,r2.wid,λa ha hb => ?_,r2.hi,r2.Qu⟩)
   rw[r2.lo a ha hb];exact e2.val a hb
  ·rw[fh (by omega)]
   obtain rfl:i=f.bJ.toNat:=by omega
   exact⟨R,rfl,hz⟩
theorem RA:∀(a b c:Bool) (s:Int),KC s→(Je ((if a then 1 else 0)+(if b then 2 else 0)+(if c then 4 else 0)) s)=(if a||decide (s=1)then 1 else 0)+(if b||decide (s=2)then 2 else 0)+(if c||decide (s=4)then 4 else 0):=by
 intro a b c s hs
 rcases hs with rfl | rfl | rfl<;>cases a<;>cases b<;>cases c<;>decide
theorem UZ{V:List Pt}{a s:Int}(hs:KC s):Je (wt V a) s=wt (V++[(a,s)]) a:=by
 have:=RA (decide ((a,1)∈V)) (decide ((a,2)∈V)) (decide ((a,4)∈V)) s hs
 simp only[decide_eq_true_eq]at this
 unfold wt;rw[this]
 simp only[List.mem_append,List.mem_singleton,Prod.mk.injEq,true_and]
 rcases hs with rfl | rfl | rfl<;>simp
theorem U0{V:List Pt}{a b s:Int}(h:a≠b):wt (V++[(b,s)]) a=wt V a:=by unfold wt;simp[h]
theorem RB{V W:List Pt}(h:∀x,x∈V↔x∈W)(a:Int):wt V a=wt W a:=by unfold wt;simp only[h]
theorem JD{f:aG}(hf:H8 f){c:Nat}(hc:c<f.bJ.toNat){R:List (List Int)}:∀(l:List (aL×aL)) (U:List Pt) (Q:List (List Int)),(∀x∈l,0≤x.1.ag∧x.1.ag<f.Code.length∧KC x.1.state)→MP f R Q c f.Code.length (λa=>wt U a)→
 ∃R',l.foldlM (λs x=>mo K (c:Int) x s) Q=some R'∧MP f R R' c f.Code.length (λa=>wt (U++l.map (λx=>(x.1.ag,x.1.state))) a)
 | [],U,Q,_,hz=>⟨Q,rfl,by simpa using hz⟩
 | x::l,U,Q,hl,hz=>by
  obtain⟨a1,a2,a3⟩:=hl x (by simp)
  have hL:=hz.len
  have hw:=hz.wid x.1.ag.toNat (by omega)
  rw[List.foldlM_cons,mo,fQ ⟨a1,by omega⟩,fQ ⟨by omega,by rw[hw];omega⟩,Int.toNat_natCast]
  have hv:ag (ag Q x.1.ag.toNat) c=wt U ((x.1.ag.toNat:Nat):Int):=hz.lo x.1.ag.toNat (by omega) (by omega)
  rw[hv,UZ a3,show((x.1.ag.toNat:Nat):Int)=x.1.ag by omega]
  obtain⟨R',r1,r2⟩:=JD hf hc (R:=R) l (U++[(x.1.ag,x.1.state)]) (Q.set x.1.ag.toNat ((ag Q x.1.ag.toNat).set c (wt (U++[(x.1.ag,x.1.state)]) x.1.ag))) (λy hy=>hl y (List.mem_cons_of_mem _ hy)) (by
   refine⟨by rw[List.length_set];exact hL,λa ha => ?_,λa ha hb => ?_,λa ha hb=>by omega,λa ha b hb => ?_⟩
   ·rw[oe (by omega)];split
    ·rw[List.length_set];exact hw
    ·exact hz.wid a ha
   ·rw[oe (by omega)];split
    ·rename_i e;subst e;rw[pV (by omega),show((x.1.ag.toNat:Nat):Int)=x.1.ag by omega]
    ·rename_i e;rw[hz.lo a ha hb,U0 (by omega)]
   ·rw[oe (by omega)];split
    ·rename_i e;subst e;rw[uG (λe=>hb e.symm)];exact hz.Qu _ ha b hb
    ·exact hz.Qu a ha b hb)
  refine⟨R',r1,?_⟩
  rw[List.append_assoc,List.singleton_append]at r2
  exact r2
theorem DY{f:aG}(hf:H8 f)(h0:0≤f.bJ)(h8:f.bJ≤8)(hK:3000<K):∀(d k i:Nat) (R:List (List Int)),i+d=f.bJ.toNat→d<k→Jz f R i→
 ∃R',mq K f k R (i:Int)=some R'∧Jz f R' f.bJ.toNat
 | d,k,i,R,hd,hk,hz=>by
  obtain⟨k,rfl⟩ :∃m,k=m+1:=⟨k-1,by omega⟩
  rw[mq]
  by_cases hi:i<f.bJ.toNat
  ·obtain⟨d,rfl⟩ :∃m,d=m+1:=⟨d-1,by omega⟩
   obtain⟨m,e1,e2⟩:=O2 (K:=K) hf (i:Int) hK
   obtain⟨v1,v2,v3⟩:=MN hf (i:Int)
   have key:∀l':List (aL×aL),l'.Perm m→∃R',l'.foldlM (λs x=>mo K (i:Int) x s) R=some R'∧Jz f R' (i+1):=by
    intro l' hp
    have hr:∀x∈l',(x.1.ag,x.1.state)∈reach f (i:Int):=λx hx=>by
     have:x.1∈m.map (·.1):=List.mem_map.2 ⟨x,hp.mem_iff.1 hx,rfl⟩
     rw[e2]at this
     obtain⟨y,hy,e⟩:=List.mem_map.1 this
     rw[←e];exact hy
    obtain⟨R',r1,r2⟩:=JD (K:=K) hf hi (R:=R) l' [] R (λx hx=>v1.N7 _ (hr x hx)) ⟨hz.len,hz.wid,λa _ ha=>by rw[hz.zero a ha i (Nat.le_refl _) hi];rfl,λa _ _=>rfl,λ_ _ _ _=>rfl⟩
    refine⟨R',r1,MP.tab hz ⟨r2.len,r2.wid,λa ha hb => ?_,r2.hi,r2.Qu⟩⟩
    rw[r2.lo a ha hb]
    refine RB (λx => ?_) a
    rw[List.nil_append,List.mem_map]
    refine⟨λ⟨y,hy,e⟩=>e▸ hr y hy,λhx => ?_⟩
    have:pt x∈m.map (·.1):=by rw[e2];exact List.mem_map.2 ⟨x,hx,rfl⟩
    obtain⟨y,hy,e⟩:=List.mem_map.1 this
    exact⟨y,hp.mem_iff.2 hy,by rw[e]⟩
   obtain⟨R',r1,r2⟩:=key m (List.Perm.refl _)
   have U1:rR (mo K (i:Int)) R m=some R':=F2 λl' hp=>by
    obtain⟨R2,q1,q2⟩:=key l' hp
    rw[q1,MO q2 r2]
   rw[fQ (by omega),e1,aE,U1,aE,aE,Ds (by omega)]
   exact DY hf h0 h8 hK d k (i+1) R' (by omega) (by omega) r2
  ·rw[fh (by omega)]
   obtain rfl:i=f.bJ.toNat:=by omega
   exact⟨R,rfl,hz⟩
end
end Mo
end
section
namespace Mo
open Go SL GX
section
variable {K:Nat}
def Ib(x:Int):Prop:=-9223372036854775808≤x∧x≤9223372036854775807
structure P64(p:aO):Prop where
 f:∀f∈p.aq,Ib f.aU∧Ib f.cO∧Ib f.bJ
 c:∀f∈p.aq,∀c∈f.Code,Ib c.A∧Ib c.B∧Ib c.C∧Ib c.K
def rH(x n:Int):Bool:=decide (0≤x)&&decide (x<n)
theorem sW{x n:Int}:rH x n=true↔0≤x∧x<n:=by simp[rH]
structure Fq(f:aG):Prop where
 p0:0≤f.aU
 p8:f.aU≤8
 r1:1≤f.cO
 rp:f.aU≤f.cO
 r16:f.cO≤16
 s0:0≤f.bJ
 s8:f.bJ≤8
 c1:1≤f.Code.length
 EI:f.Code.length≤512
theorem Gm(f:aG) :∃b,iZ f=some b∧qu f=some b∧(b=true→Fq f):=by
 have e:qu f=iZ f:=rfl
 rw[e]
 unfold iZ
 by_cases h1:f.aU<0
 ·rw[fQ h1];exact⟨false,rfl,rfl,λh=>Bool.noConfusion h⟩
 rw[fh h1]
 by_cases h2:f.aU>8
 ·rw[fQ h2];exact⟨false,rfl,rfl,λh=>Bool.noConfusion h⟩
 rw[fh h2]
 by_cases h3:f.cO<1
 ·rw[fQ h3];exact⟨false,rfl,rfl,λh=>Bool.noConfusion h⟩
 rw[fh h3]
 by_cases h4:f.cO<f.aU
 ·rw[fQ h4];exact⟨false,rfl,rfl,λh=>Bool.noConfusion h⟩
 rw[fh h4]
 by_cases h5:f.cO>16
 ·rw[fQ h5];exact⟨false,rfl,rfl,λh=>Bool.noConfusion h⟩
 rw[fh h5,eP]
 by_cases h6:f.bJ≥0
 ·rw[fQ h6]
  by_cases h7:f.bJ≤8
  ·rw[fQ h7]
   by_cases h8:((f.Code.length:Nat):Int)≥1
   ·rw[fQ h8]
    exact⟨_,rfl,rfl,λh=>⟨by omega,by omega,by omega,by omega,by omega,h6,h7,by omega,by have:=of_decide_eq_true h;omega⟩⟩
   ·rw[fh h8];exact⟨false,rfl,rfl,λh=>Bool.noConfusion h⟩
  ·rw[fh h7];exact⟨false,rfl,rfl,λh=>Bool.noConfusion h⟩
 ·rw[fh h6];exact⟨false,rfl,rfl,λh=>Bool.noConfusion h⟩
def n8(f:aG)(c:bW):Bool:=
 if c.aa6=0∨c.aa6=8∨c.aa6=9 then rH c.A f.cO
 else if c.aa6=1 then rH c.A f.cO&&rH c.B f.cO
 else if c.aa6=2 then rH c.A f.cO&&rH c.B f.cO&&rH c.C f.cO&&rH c.K 16
 else if c.aa6=3 then rH c.A f.Code.length
 else if c.aa6=4 then rH c.A f.cO&&rH c.B f.Code.length
 else if c.aa6=5 then rH c.A f.bJ
 else if c.aa6=6 then true
 else if c.aa6=7 then rH c.A f.cO&&rH c.B f.bJ
 else false
def ud(p:aO)(f:aG)(c:bW):Bool:=
 if c.aa6=5 then rH c.B p.aq.length&&(decide ((ag p.aq c.B.toNat).aU=0)||(decide (0≤c.C)&&decide (c.C≤f.cO-(ag p.aq c.B.toNat).aU)))else true
theorem Cl(x n:Int):fG x n=some (rH x n):=by
 unfold fG rH
 by_cases h:0≤x
 ·rw[fQ h];simp[h]
 ·rw[fh h];simp[h]
theorem rI(x n:Int):(if x≥0 then some (decide (x<n))else some false)=some (rH x n):=by
 unfold rH
 by_cases h:0≤x
 ·rw[fQ h];simp[h]
 ·rw[fh h];simp[h]
theorem Gn(f:aG)(c:bW):lp f c=some (n8 f c):=by
 unfold lp n8
 simp only[Cl,aE]
 by_cases h0:c.aa6=0
 ·simp[h0]
 by_cases h8:c.aa6=8
 ·simp[h8]
 by_cases h9:c.aa6=9
 ·simp[h9]
 simp only[h0,h8,h9,if_false,aE,false_or]
 have:((c.aa6==9)=true)=False:=by simp[h9]
 simp only[this,if_false]
 by_cases h1:c.aa6=1
 ·simp only[h1,if_true];cases rH c.A f.cO<;>simp
 by_cases h2:c.aa6=2
 ·simp only[h2,if_true,fh (show ¬(2:Int)=1 by decide)];cases rH c.A f.cO<;>cases rH c.B f.cO<;>cases rH c.C f.cO<;>simp[rH]
  by_cases h:0≤c.K<;>simp[h]
 by_cases h3:c.aa6=3
 ·simp[h3]
 by_cases h4:c.aa6=4
 ·simp only[h4,if_true,fh (show ¬(4:Int)=1 by decide),fh (show ¬(4:Int)=2 by decide),fh (show ¬(4:Int)=3 by decide)];cases rH c.A f.cO<;>simp
 by_cases h5:c.aa6=5
 ·simp[h5]
 by_cases h6:c.aa6=6
 ·simp[h6]
 by_cases h7:c.aa6=7
 ·simp only[h7,if_true,fh (show ¬(7:Int)=1 by decide),fh (show ¬(7:Int)=2 by decide),fh (show ¬(7:Int)=3 by decide),fh (show ¬(7:Int)=4 by decide),fh (show ¬(7:Int)=5 by decide),fh (show ¬(7:Int)=6 by decide)];cases rH c.A f.cO<;>simp
 simp[h1,h2,h3,h4,h5,h6,h7]
theorem KE{p:aO}{f:aG}{c:bW}(hs:∀g∈p.aq,Fq g)(hf:Fq f):mj p f c=some (ud p f c):=by
 unfold mj ud
 by_cases h5:c.aa6=5
 ·rw[fQ h5,fQ h5,Cl,aE]
  cases hb:rH c.B p.aq.length
  ·simp
  ·have hb':=sW.1 hb
   have hg:=hs _ (rG (l:=p.aq) (i:=c.B.toNat) (by omega))
   rw[fQ rfl,fQ hb']
   by_cases hn:(ag p.aq c.B.toNat).aU=0
   ·rw[fQ hn];simp[hn]
   ·rw[fh hn,Cl,aE]
    have:=hg.p0
    have:=hg.p8
    have:=hf.r16
    cases hc:rH c.C f.cO
    ·have:¬(0≤c.C∧c.C≤f.cO-(ag p.aq c.B.toNat).aU):=λh=>by
      have:rH c.C f.cO=true:=sW.2 ⟨h.1,by omega⟩
      rw[hc]at this;exact Bool.noConfusion this
     simp[hn];intro h;omega
    ·have hc':=sW.1 hc
     rw[fQ rfl,eM (x:=f.cO-c.C) (by omega)]
     simp[hn,hc'.1];omega
 ·rw[fh h5,fh h5]
theorem MQ{p:aO}{f:aG}{c:bW}(hs:∀g∈p.aq,Fq g)(hf:Fq f)(hp:0<p.aq.length):qv c f p.aq=some (n8 f c&&ud p f c):=by
 unfold qv n8 ud
 by_cases RC:c.aa6<0
 ·rw[fQ RC];simp only[sP];rw[fh (by omega),fh (by omega),fh (by omega),fh (by omega),fh (by omega),fh (by omega),fh (by omega),fh (by omega)];rfl
 by_cases hk1:c.aa6≥10
 ·rw[fh RC,fQ hk1];simp only[sP];rw[fh (by omega),fh (by omega),fh (by omega),fh (by omega),fh (by omega),fh (by omega),fh (by omega),fh (by omega)];rfl
 rw[fh RC,fh hk1,eP,fQ ⟨by omega,show c.aa6<10 by omega⟩,fQ hp,ia]
 have hl:¬((p.aq.length:Nat):Int)<0:=by omega
 have hK:(if c.K<0 then(some (.inr false):Option (Unit⊕Bool))else(if c.K≥16 then some (.inr false)else some (.inl ())))=if rH c.K 16=true then some (.inl ())else some (.inr false):=by
  unfold rH
  by_cases h:c.K<0
  ·rw[fQ h];simp;omega
  ·rw[fh h]
   by_cases h':c.K≥16
   ·rw[fQ h'];simp;omega
   ·rw[fh h'];simp;omega
 unfold tc
 rcases(by omega:c.aa6=0∨c.aa6=1∨c.aa6=2∨c.aa6=3∨c.aa6=4∨c.aa6=5∨c.aa6=6∨c.aa6=7∨c.aa6=8∨c.aa6=9)with h | h | h | h | h | h | h | h | h | h
 ·simp only[h,show(ag tY (0:Int).toNat)=⟨1,0,0,0,true⟩from rfl];simp[rI];cases rH c.A f.cO<;>simp[eL,vg]
 ·simp only[h,show(ag tY (1:Int).toNat)=⟨1,1,0,0,true⟩from rfl];simp[rI];cases rH c.A f.cO<;>cases rH c.B f.cO<;>simp[eL,vg]
 ·simp only[h,show(ag tY (2:Int).toNat)=⟨1,1,1,5,true⟩from rfl];simp[rI];cases rH c.A f.cO<;>cases rH c.B f.cO<;>cases rH c.C f.cO<;>simp[eL,vg,hK];cases rH c.K 16<;>simp
 ·simp only[h,show(ag tY (3:Int).toNat)=⟨3,0,0,0,false⟩from rfl];simp[rI];cases rH c.A f.Code.length<;>simp[eL,vg]
 ·simp only[h,show(ag tY (4:Int).toNat)=⟨1,3,0,0,true⟩from rfl];simp[rI];cases rH c.A f.cO<;>cases rH c.B f.Code.length<;>simp[eL,vg]
 ·simp only[h,show(ag tY (5:Int).toNat)=⟨2,4,0,0,true⟩from rfl];simp[rI,hl,hp]
  cases hA:rH c.A f.bJ
  ·simp[eL,vg]
  ·cases hB:rH c.B p.aq.length
   ·simp[eL,vg]
   ·have hb':=sW.1 hB
    have hg:=hs _ (rG (l:=p.aq) (i:=c.B.toNat) (by omega))
    have:=hg.p0
    have:=hg.p8
    have:=hf.r16
    have:=hf.r1
    rw[eM (x:=f.cO-(ag p.aq c.B.toNat).aU) (by omega)]
    have hir:bT c.B p.aq.length:=⟨hb'.1,hb'.2⟩
    simp[eL,vg]
    by_cases hn:(ag p.aq c.B.toNat).aU=0
    ·simp[hn];exact hir
    ·simp[hn];by_cases hc:0≤c.C<;>simp[hc]<;>exact hir
 ·simp only[h,show(ag tY (6:Int).toNat)=⟨0,0,0,0,true⟩from rfl];simp[rI,eL,vg]
 ·simp only[h,show(ag tY (7:Int).toNat)=⟨1,2,0,0,true⟩from rfl];simp[rI];cases rH c.A f.cO<;>cases rH c.B f.bJ<;>simp[eL,vg]
 ·simp only[h,show(ag tY (8:Int).toNat)=⟨1,0,0,0,true⟩from rfl];simp[rI];cases rH c.A f.cO<;>simp[eL,vg]
 ·simp only[h,show(ag tY (9:Int).toNat)=⟨1,0,0,0,false⟩from rfl];simp[rI];cases rH c.A f.cO<;>simp[eL,vg]
end
end Mo
end
end Go.Proofs.YtpikpffbcjpmcaaGreatDoor

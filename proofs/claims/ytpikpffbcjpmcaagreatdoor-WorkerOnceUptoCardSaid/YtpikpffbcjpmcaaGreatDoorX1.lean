/- plunderlaw11.WorkerOnce answers true for every input of the bulk that the statement names, and leaves its input alone. Conditions: none. -/
import Derived.Test.YtpikpffbcjpmcaaGreatDoorX0
set_option linter.unusedVariables false
set_option linter.unusedSimpArgs false
set_option linter.unusedSectionVars false
set_option maxRecDepth 100000
set_option maxHeartbeats 4000000
namespace Go.Proofs.YtpikpffbcjpmcaaGreatDoor
section
namespace SL
open Go Go.RowKit
def Ut{α:Type}(e:TypeId)(sz:Nat)(enc:α->List Value)(v:Value)(l:List α):M5:=λh =>
 (v= .slice none 0 0/\l=[]/\h=Hp.none)∨
 ∃g off cap k cur,v= .slice (some ⟨g,off,none⟩) l.length cap/\l.length<=cap/\(0<cap->off=k*sz)/\k+cap<=maxLen/\cur.size=(k+cap)*sz/\(cur.toList.drop (k*sz)).take (l.length*sz)=l.flatMap enc/\pts g (.cells cur e) h
section
variable {w0 w:World}{L:List M5}{α:Type}{e:TypeId}{sz:Nat}{enc:α->List Value}{v:Value}{l:List α}{ca:Option Addr}{n cc:Nat}
theorem Fit.YB(h:Fit w0 (cQ (Ut e sz enc v l::L)) w):(v= .slice none 0 0/\l=[]/\Fit w0 (cQ L) w)∨
 ∃g off cap k cur,v= .slice (some ⟨g,off,none⟩) l.length cap/\l.length<=cap/\(0<cap->off=k*sz)/\k+cap<=maxLen/\cur.size=(k+cap)*sz/\(cur.toList.drop (k*sz)).take (l.length*sz)=l.flatMap enc/\Fit w0 (cQ (pts g (.cells cur e)::L)) w:=by
 obtain⟨x,hx,a,c,hd,ee,hp,q⟩:=h.sat
 rcases hp with ⟨h1,h2,h3⟩ | ⟨g,off,cap,k,cur,h1,h2,h3,h4,h5,h6,h7⟩
 ·left
  exact⟨h1,h2,h.drop⟩
 ·right
  exact⟨g,off,cap,k,cur,h1,h2,h3,h4,h5,h6,⟨x,hx,a,c,hd,ee,h7,q⟩,h.os,h.tape,h.output,h.size⟩
theorem Fit.ZS(h:Fit w0 (cQ (rowOf e sz enc v l::L)) w):Fit w0 (cQ (Ut e sz enc v l::L)) w:=
 h.head λ_ hx=>by
  rcases hx with h | ⟨g,cap,cur,h1,h2,h3,h4,h5,h6⟩
  ·exact .inl h
  ·exact .inr ⟨g,0,cap,0,cur,h1,h2,λ_=>by simp,by omega,by simpa using h4,by simpa using h5,h6⟩
theorem Fit.aaT(h:Fit w0 (cQ (Ut e sz enc (.slice ca n cc) l::L)) w):n=l.length:=by
 rcases h.YB with ⟨h1,h2,_⟩ | ⟨g,off,cap,k,cur,h1,_⟩
 ·simp only[Value.slice.injEq]at h1;rw[h2];exact h1.2.1
 ·simp only[Value.slice.injEq]at h1;exact h1.2.1
theorem Fit.aad(h:Fit w0 (cQ (Ut e sz enc (.slice ca n cc) l::L)) w)(hl:0<l.length):ca=some ⟨GX.Cp ca,GX.sJ ca,none⟩:=by
 rcases h.YB with ⟨h1,h2,_⟩ | ⟨g,off,cap,k,cur,h1,_⟩
 ·rw[h2]at hl;simp at hl
 ·simp only[Value.slice.injEq]at h1;rw[h1.1];rfl
theorem Fit.YC(he:QB enc sz)(h:Fit w0 (cQ (Ut e sz enc (.slice ca n cc) l::L)) w){i:Nat}{f:Nat}{x:α}{u:Value}(hi:l[i]? = some x)(hf:(enc x)[f]? = some u):w.cell? ⟨GX.Cp ca,GX.sJ ca+i*sz+f,none⟩=some u:=by
 have J7:i<l.length:=(List.getElem?_eq_some_iff.1 hi).1
 rcases h.YB with ⟨h1,h2,_⟩ | ⟨g,off,cap,k,cur,h1,h2,h3,h4,h5,h6,h7⟩
 ·rw[h2]at J7;simp at J7
 ·simp only[Value.slice.injEq]at h1
  obtain⟨rfl,_,rfl⟩:=h1
  have hfs:f<sz:=by rw[<-he.len x];exact(List.getElem?_eq_some_iff.1 hf).1
  have h8:=he.get l i f x hi hfs
  rw[<-h6,List.getElem?_take]at h8
  have hlt:i*sz+f<l.length*sz:=by
   have:(i+1)*sz<=l.length*sz:=afm _ J7
   rw[afz]at this
   omega
  rw[au hlt,hf,List.getElem?_drop]at h8
  have ho:=h3 (by omega)
  show w.cell? ⟨g,off+i*sz+f,none⟩=some u
  rw[ho,show k*sz+i*sz+f=k*sz+(i*sz+f) by omega]
  refine h7.cell _ ?_
  simpa using h8
theorem XN(vs:List Value):∀(o:Nat) (cs:Array Value),o+vs.length<=cs.size->∃cs':Array Value,cs'.toList=cs.toList.take o++vs++cs.toList.drop (o+vs.length)/\∀{w0 w:World} {L:List M5} {b:Nat} {t:TypeId},Fit w0 (cQ (pts b (.cells cs t)::L)) w->Fit w0 (cQ (pts b (.cells cs' t)::L)) (w.setCells b o vs):=by
 induction vs with
 | nil=>intro o cs h;exact⟨cs,by simp,λh=>h⟩
 | cons v vs ih =>
  intro o cs h
  simp only[af2]at h
  obtain⟨cs',h1,h2⟩:=ih (o+1) (cs.setIfInBounds o v) (by simp;omega)
  refine⟨cs',?_,λhF=>h2 (hF.set o v)⟩
  rw[h1]
  have ho:o<cs.toList.length:=by simp;omega
  simp only[Array.toList_setIfInBounds,af2]
  rw[List.take_succ_eq_append_getElem (by simpa using ho),List.getElem_set_self,List.take_set_of_le (aea o),List.drop_set,iQ_]
  rw[show o+1+vs.length=o+(vs.length+1) by omega]
  simp
end
end SL
namespace GX
open Go Go.RowKit SL
section
variable {P:Program}{w w0 w1 z:World}{ops:Array Oper}{Q:Exit->Act->World->Prop}{a:Act}{rest:List Oper}{o:Oper}{n d:Nat}{l:List (Nat×Value)}{j e:Nat->Value}{Df:List Deferred}{L:List M5}{t E:TypeId}
variable {α:Type}{sz n0 cc:Nat}{enc:α->List Value}{xs:List α}{ca:Option Addr}
theorem adU{x y:Operand}{k:IntKind}{i:Int}{w':World}(ho:o.op= .indexAddr t x y)(hx:po e x= .slice ca n0 cc)(hy:po e y= .int k i)
 (ht:P.underlying t=some (.slice E)) (hs:(P.info? E).map (·.size)=some sz) (hF:Fit w0 (cQ (Ut E sz enc (.slice ca n0 cc) xs::L)) w) (hi:aZ i xs.length):(execOp (po e) o).run P w'= .ok (.value (.pointer (some ⟨Cp ca,sJ ca+i.toNat*sz,none⟩))) w':=by
 have hn:=hF.aaT
 have h0:=hi.1;have h1:=hi.2
 exact rie (hF.aad (by omega)) ho hx hy ht hs h0 (by omega)
theorem abL{x y:Operand}{k:IntKind}{i:Int}(hw:Region.wanted o (yielded ops a.tmps)=true)(hd:o.dst=some d)(hn:Nat.blt d n=true)(hr:fy Df n (lk l j) a)(ho:o.op= .slice t x (some y) none none)(hx:po (lk l j) x= .slice ca n0 cc)(hy:po (lk l j) y= .int k i)
 (ht:P.underlying t=some (.slice E)) (hs:(P.info? E).map (·.size)=some sz) (he:QB enc sz) (hF:Fit z (cQ (Ut E sz enc (.slice ca n0 cc) xs::L)) w) (hi:0<=i/\i<=((xs.length:Nat):Int)) (hne:0<xs.length)
 (k:∀ca cc a,Fit z (cQ (Ut E sz enc (.slice ca (xs.drop i.toNat).length cc) (xs.drop i.toNat)::L)) w->fy Df n (lk ((d,.slice ca (xs.drop i.toNat).length cc)::l) j) a->wpList P ops Q rest a w):wpList P ops Q (o::rest) a w:=by
 obtain⟨h0,h1⟩:=hi
 rcases hF.YB with ⟨h2,h3,_⟩ | ⟨g,off,cap,q,cur,e1,e2,e3,e4,e5,e6,e7⟩
 ·rw[h3]at hne;simp at hne
 ·simp only[Value.slice.injEq]at e1
  obtain⟨rfl,rfl,rfl⟩:=e1
  obtain⟨m,rfl⟩ :∃m:Nat,i=m:=⟨i.toNat,by omega⟩
  simp only[Zi]at k⊢
  have hm:m<=xs.length:=by omega
  have hlen:(xs.drop m).length=xs.length-m:=by simp
  have hrun:(execOp (po (lk l j)) o).run P w= .ok (.value (.slice (some (if cc=m then⟨g,off,none⟩else(⟨g,off,none⟩:Addr).add (m*sz))) (xs.length-m) (cc-m))) w:=by
   unfold execOp
   cases hq:P.info? E with
   | none=>simp[hq]at hs
   | some q =>
    simp[hq]at hs
    have c:cc=m∨¬cc=m:=Classical.em _
    rcases c with c | c<;>simp[ho,hx,hy,Instr.sliceAt,Instr.slice,Instr.sliceBounds,Instr.sliceBound,run_underlying ht,asIntOf,sizeOf,typeInfo,hq,hs,h1,hm,c]
  refine Qg hw hd hn hr (w1:=w) hrun λa Xq => ?_
  rw[<-hlen]at Xq
  refine k _ _ a ?_ Xq
  refine e7.head λy hy=>.inr ⟨g,if cc=m then off else off+m*sz,cc-m,q+m,cur,?_,by rw[hlen];omega,?_,by omega,by rw[e5];congr 1;omega,?_,hy⟩
  ·congr 1
   by_cases c:cc=m
   ·simp[au c]
   ·simp[aj c,afL]
  ·intro hc
   rw[iO_,e3 (by omega)]
   simp[afz]
  ·rw[hlen]
   have h8:((cur.toList.drop (q*sz)).take (xs.length*sz)).drop (m*sz)=(xs.drop m).flatMap enc:=by
    rw[e6]
    have h9:(xs.take m).flatMap enc++(xs.drop m).flatMap enc=xs.flatMap enc:=by rw[<-age,agt]
    rw[<-h9,agy (by rw[he.flat,afA,afX hm];exact aea _)]
    rw[agN (by rw[he.flat,afA,afX hm];exact aea _)]
    rfl
   rw[<-h8,agB,List.drop_drop,afz,<-Nat.sub_mul]
theorem YE{bytes:Nat}{s x:Operand}{ad:Addr}{m c:Nat}(hw:Region.wanted o (yielded ops a.tmps)=true)(hd:o.dst=some d)(hn:Nat.blt d n=true)(hr:fy Df n (lk l j) a)
 (ho:o.op= .call {callee:=.builtin .append,args:=#[s,x],argTypes:=#[t,t]}) (hs:po (lk l j) s= .slice ca n0 cc) (hx:po (lk l j) x= .slice (some ad) m c)
 (he:QB enc sz) (hty:P.underlying t=some (.slice E)) (Qe:(P.info? E).map (λi=>(i.size,i.bytes,i.zero.map (·.cells.size)))=some (sz,bytes,some sz))
 (hF:Fit w0 (cQ (Ut E sz enc (.slice ca n0 cc) xs::L)) w) {news:List α} (hm:news.length=m) (hnews:∀j u,(news.flatMap enc)[j]? = some u->w.cell? (ad.add j)=some u)
 (hb:(xs.length+m)*bytes<=140737488355328) (YZ:Nat.blt 0 bytes=true)
 (k:∀ca cc w1 a,Fit w0 (cQ (Ut E sz enc (.slice ca (xs++news).length cc) (xs++news)::L)) w1->fy Df n (lk ((d,.slice ca (xs++news).length cc)::l) j) a->wpList P ops Q rest a w1):wpList P ops Q (o::rest) a w:=by
 rcases hF.YB with ⟨h2,h3,h4⟩ | ⟨g,off,cap,q,cur,e1,e2,e3,e4,e5,e6,e7⟩
 ·simp only[Value.slice.injEq]at h2
  obtain⟨rfl,rfl,rfl⟩:=h2
  subst h3
  exact O9 hw hd hn hr ho hs hx he hty Qe (h4.ua (e:=E) (sz:=sz) (enc:=enc)) hm hnews hb YZ λca cc w1 a h Xq=>k ca cc w1 a h.ZS Xq
 ·simp only[Value.slice.injEq]at e1
  obtain⟨rfl,rfl,rfl⟩:=e1
  cases hi:P.info? E with
  | none=>simp[hi]at Qe
  | some i =>
   simp only[hi,afG,Option.some.injEq,Prod.mk.injEq]at Qe
   obtain⟨i1,i2,i3⟩:=Qe
   cases hz:i.zero with
   | none=>simp[hz]at i3
   | some zv =>
    simp only[hz,afG,Option.some.injEq]at i3
    subst i1;subst i2
    have Yo:0<i.bytes:=aei YZ
    have h63:xs.length+m<=maxLen:=by
     have:xs.length+m<=(xs.length+m)*i.bytes:=agG _ Yo
     simp only[maxLen];omega
    have abv:((xs.length+m:Nat):Int)<=9223372036854775807:=by simp only[maxLen]at h63;omega
    have hlen:(news.flatMap enc).length=m*i.size:=by rw[he.flat,hm]
    have fin:∀v' w',(Builtin.append_ #[t,t] o.type #[.slice (some ⟨g,off,none⟩) xs.length cc,.slice (some ad) m c]).run P w= .ok v' w'->(∃ca cc,v'= .slice ca (xs++news).length cc/\Fit w0 (cQ (Ut E i.size enc v' (xs++news)::L)) w')->wpList P ops Q (o::rest) a w:=by
     rintro v' w' hrun ⟨ca,cc,rfl,Ui⟩
     refine Qg hw hd hn hr ?_ (λa hr=>k ca cc w' a Ui hr)
     unfold execOp
     simp only[ho,resolve,invoke,builtin,aee,afu,aef,agk,afZ,af5,hs,hx,hrun]
    by_cases hroom:xs.length+m<=cc
    ·by_cases hm0:m=0
     ·subst hm0
      have JD:news=[]:=agr hm
      subst JD
      have LZ:=run_append_room_cells (P:=P) (w:=w) t o.type E i hty hi g off xs.length cc ad 0 c [] (by simp) (by simp) (by simp) hroom (by simp) (by simp)
      refine fin _ _ LZ ⟨some ⟨g,off,none⟩,cc,by simp,?_⟩
      simpa [World.setCells]using hF
     ·have adV:=e3 (by omega)
      subst adV
      have hfit:(q+xs.length)*i.size+(news.flatMap enc).length<=cur.size:=by rw[hlen,e5,<-afz];exact afm _ (by omega)
      have hpos:q*i.size+xs.length*i.size=(q+xs.length)*i.size:=(afz _ _ _).symm
      have LZ:=run_append_room_cells (P:=P) (w:=w) t o.type E i hty hi g (q*i.size) xs.length cc ad m c (news.flatMap enc) hlen hnews (he.Sv news) hroom
       (λk hk=>by rw[hpos];rw[e7.cell ((q+xs.length)*i.size+k) (v:=cur[(q+xs.length)*i.size+k]'(by omega)) (by rw[Array.getElem?_eq_getElem])];rfl) (λk hk=>e7.free _)
      rw[hpos]at LZ
      obtain⟨cs',c1,c2⟩:=XN (news.flatMap enc) ((q+xs.length)*i.size) cur hfit
      have hsz:cs'.size=cur.size:=by
       have:=afr List.length c1
       simp only[ad9,afA,af4,afB]at this
       omega
      refine fin _ _ LZ ⟨_,_,by rw[ad9,hm],(c2 e7).head λy hy=>.inr ⟨g,_,cc,q,cs',by rw[ad9,hm],by rw[ad9,hm];exact hroom,λ_=>rfl,e4,by rw[hsz];exact e5,?_,hy⟩⟩
      rw[c1,age,<-e6,ad9,hm]
      have hA:(cur.toList.take ((q+xs.length)*i.size)).length=(q+xs.length)*i.size:=by rw[afA,afB];exact afX (agq (Nat.le_add_right _ _) hfit)
      rw[aeA,agy (by rw[hA,afz];omega)]
      have hB:(cur.toList.take ((q+xs.length)*i.size)).drop (q*i.size)=(cur.toList.drop (q*i.size)).take (xs.length*i.size):=by
       rw[agB,afz,Nat.add_sub_cancel_left]
      rw[hB,<-aeA]
      have hC:(((cur.toList.drop (q*i.size)).take (xs.length*i.size))++news.flatMap enc).length=(xs.length+m)*i.size:=by
       rw[e6,ad9,he.flat,hlen,afz]
      rw[<-hC]
      exact agi
    ·have holds:∀j u,(xs.flatMap enc)[j]? = some u->w.cell? ((⟨g,off,none⟩:Addr).add j)=some u:=by
      intro jj u hu
      have hj:jj<xs.length*i.size:=by rw[<-he.flat];exact(List.getElem?_eq_some_iff.1 hu).1
      have hx0:0<xs.length:=by
       rcases Nat.eq_zero_or_pos xs.length with h0 | h0
       ·rw[h0]at hj;simp at hj
       ·exact h0
      rw[afL,e3 (by omega)]
      refine e7.cell _ ?_
      rw[<-e6,List.getElem?_take,au hj,List.getElem?_drop]at hu
      simpa using hu
     have LZ:=run_append_grow (P:=P) w t o.type E i zv hty hi hz ⟨g,off,none⟩ xs.length cc (xs.flatMap enc) (he.flat xs) holds ad m c (news.flatMap enc) hlen hnews (by omega) abv (growslice_fits (by omega) hb)
     have hge:=grownCap_ge w (xs.length+m) cc E
     have hcm:grownCap w (xs.length+m) cc E<=maxLen:=grownCap_le_maxLen w (xs.length+m) cc E h63
     refine fin _ _ LZ ⟨_,_,by rw[ad9,hm],?_⟩
     refine(e7.drop.drew.alloc _).head λx hx=>.inr ⟨w.heap.size,0,grownCap w (xs.length+m) cc E,0,_,by rw[ad9,hm],by rw[ad9,hm];exact hge,λ_=>by simp,by omega,?_,?_,hx⟩
     ·simp only[Array.size_append,af9,size_zeroCells,i3,he.flat,hm,<-afz]
      congr 1
      omega
     ·rw[age,ad9,hm]
      simp only[Array.toList_append,Nat.zero_mul,afM]
      rw[show(xs.length+m)*i.size=((xs.flatMap enc)++(news.flatMap enc)).length by rw[ad9,hlen,he.flat,afz]]
      exact agi
end
end GX
end
section
namespace GX
open Go Go.RowKit SL
def Wj:Value->Value->Bool
 | .int k _,.int k' _=>k==k'
 | .bool _,.bool _=>true
 | _,_=>false
def Tw:List Value->List Value->Bool
 | [],[]=>true
 | u::us,v::vs=>Wj u v&&Tw us vs
 | _,_=>false
def aaU:List Value->List Value->Bool
 | .int a _::_,.int b _::_=>a==b
 | _,_=>false
def aaV:List Value->List Value->Bool
 | .bool _::_,.bool _::_=>true
 | _,_=>false
theorem YF{us vs:List Value}(h:aaU us vs=true) :∃k x y us' vs',us= .int k x::us'/\vs= .int k y::vs':=by
 unfold aaU at h
 split at h
 ·simp only[afT]at h;subst h;exact⟨_,_,_,_,_,rfl,rfl⟩
 ·cases h
theorem YG{us vs:List Value}(h:aaV us vs=true) :∃x y us' vs',us= .bool x::us'/\vs= .bool y::vs':=by
 unfold aaV at h
 split at h
 ·exact⟨_,_,_,_,rfl,rfl⟩
 ·cases h
theorem aae{u v:Value}(h:Wj u v=true):(∃k x y,u= .int k x/\v= .int k y)∨∃x y,u= .bool x/\v= .bool y:=by
 unfold Wj at h
 split at h
 ·simp only[afT]at h;subst h;exact .inl ⟨_,_,_,rfl,rfl⟩
 ·exact .inr ⟨_,_,rfl,rfl⟩
 ·cases h
def SB(P:Program):Nat->Nat->List Field->List Value->List Value->Bool
 | 0,_,_,_,_=>false
 | k+1,i,fs,us,vs=>match fs with
  | []=>us.isEmpty&&vs.isEmpty
  | f::fs=>(f.name != "_")&&f.offset==i&&(match P.underlying f.type with
   | some (.int _)=>aaU us vs&&SB P k (i+1) fs us.tail vs.tail
   | some .bool=>aaV us vs&&SB P k (i+1) fs us.tail vs.tail
   | some (.struct _)=>(P.info? f.type).isSome && !(P.stoodInHeld f.type)&&Nat.ble (P.cellsOf f.type) us.length&&Nat.ble (P.cellsOf f.type) vs.length
    && SB P k 0 (P.fieldsOf f.type).toList (us.take (P.cellsOf f.type)) (vs.take (P.cellsOf f.type))&&SB P k (i+P.cellsOf f.type) fs (us.drop (P.cellsOf f.type)) (vs.drop (P.cellsOf f.type))
   | _=>false)
theorem Xx:∀{a c b d:List Value},Tw a c=true->Tw b d=true->Tw (a++b) (c++d)=true
 | [],[],_,_,_,h=>h
 | u::a,v::c,_,_,h1,h=>by
  simp only[Tw,aec]at h1
  simp only[afy,Tw,aec]
  exact⟨h1.1,Xx h1.2 h⟩
theorem YH:∀{a c b d:List Value},Tw a c=true->AK (a++b) (c++d)=(AK a c&&AK b d)
 | [],[],_,_,_=>by simp[AK]
 | u::a,v::c,b,d,h=>by
  simp only[Tw,aec]at h
  have ih:=YH (b:=b) (d:=d) h.2
  rcases aae h.1 with ⟨k,x,y,rfl,rfl⟩ | ⟨x,y,rfl,rfl⟩
  ·simp[AK,ih,Bool.and_assoc]
  ·simp[AK,ih,Bool.and_assoc]
section
variable {P:Program}{w:World}{o:Oper}{e:Nat->Value}
theorem RL:∀(k i:Nat) (fs:List Field) (us vs:List Value),SB P k i fs us vs=true->Tw us vs=true
 | 0,_,_,_,_,h=>by simp[SB]at h
 | k+1,_,[],us,vs,h=>by
  simp only[SB,aec,List.isEmpty_iff]at h
  obtain⟨rfl,rfl⟩:=h
  rfl
 | k+1,i,f::fs,us,vs,h=>by
  simp only[SB,aec]at h
  obtain⟨_,h⟩:=h
  split at h
  ·simp only[aec]at h
   obtain⟨kk,x,y,us',vs',rfl,rfl⟩:=YF h.1
   simp only[Tw,Wj,beq_self_eq_true,Bool.true_and]
   exact RL k _ _ _ _ h.2
  ·simp only[aec]at h
   obtain⟨x,y,us',vs',rfl,rfl⟩:=YG h.1
   simp only[Tw,Wj,Bool.true_and]
   exact RL k _ _ _ _ h.2
  ·simp only[aec]at h
   have a:=RL k _ _ _ _ h.1.2
   have b:=RL k _ _ _ _ h.2
   have:=Xx a b
   rwa [agt,agt]at this
  ·cases h
theorem YI{t:TypeId}{gs:Array Field}(h:P.underlying t=some (.struct gs)):P.fieldsOf t=gs:=by
 unfold Program.fieldsOf
 rw[h]
theorem Xy{t:TypeId}{gs:Array Field}{cs:Array Value}{i:Nat}(h:P.underlying t=some (.struct gs))(hi:(P.info? t).isSome=true):(part t cs i).run P w= .ok (.agg (cs.extract i (i+P.cellsOf t))) w:=by
 obtain⟨q,hq⟩:=Option.isSome_iff_exists.1 hi
 unfold part isAgg
 simp only[aee,run_underlying h,aef,afu,if_true,run_sizeOf w hq]
theorem UL:∀(k D i:Nat) (fs:List Field) (us vs:List Value) (xs ys:Array Value),SB P k i fs us vs=true->k<=D->(∀j,us[j]? = xs[i+j]?∨us.length<=j)->(∀j,vs[j]? = ys[i+j]?∨vs.length<=j)->
 (Op.eqFields (D+1) xs ys fs).run P w= .ok (AK us vs) w
 | 0,_,_,_,_,_,_,_,h,_,_,_=>by simp[SB]at h
 | k+1,_,_,[],us,vs,_,_,h,_,_,_=>by
  simp only[SB,aec,List.isEmpty_iff]at h
  obtain⟨rfl,rfl⟩:=h
  simp[Op.eqFields,AK]
 | k+1,D,i,f::fs,us,vs,xs,ys,h,hD,hx,hy=>by
  simp only[SB,aec,bne_iff_ne,ne_eq,afT]at h
  obtain⟨⟨hn,ho⟩,h⟩:=h
  have step:∀(n:Nat) (zs:List Value) (cs:Array Value),(∀j,zs[j]? = cs[i+j]?∨zs.length<=j)->∀j,(zs.drop n)[j]? = cs[i+n+j]?∨(zs.drop n).length<=j:=λn zs cs hz j=>by
   rcases hz (n+j)with h | h
   ·left;rw[List.getElem?_drop,h,Nat.add_assoc]
   ·right;rw[af4];omega
  split at h
  ·rename_i kk hty
   simp only[aec]at h
   obtain⟨a,x,y,us',vs',rfl,rfl⟩:=YF h.1
   have hx0:xs[i]? = some (.int a x):=by rcases hx 0 with h | h;simpa using h.symm;simp at h
   have hy0:ys[i]? = some (.int a y):=by rcases hy 0 with h | h;simpa using h.symm;simp at h
   have ih:=UL k D (i+1) fs us' vs' xs ys h.2 (by omega) (by simpa using step 1 _ xs hx) (by simpa using step 1 _ ys hy)
   have pa:=Ql (P:=P) (w:=w) (t:=f.type) (cs:=xs) (i:=f.offset) (v:=.int a x) (by rw[hty]) (by rw[ho];exact hx0)
   have pb:=Ql (P:=P) (w:=w) (t:=f.type) (cs:=ys) (i:=f.offset) (v:=.int a y) (by rw[hty]) (by rw[ho];exact hy0)
   rw[Op.eqFields]
   simp only[au hn,aee,pa,pb,run_equalIn_int w D f.type a kk x y hty,aef]
   cases hab:(x==y)
   ·simp[AK,hab]
   ·simp[AK,hab,ih]
  ·rename_i hty
   simp only[aec]at h
   obtain⟨x,y,us',vs',rfl,rfl⟩:=YG h.1
   have hx0:xs[i]? = some (.bool x):=by rcases hx 0 with h | h;simpa using h.symm;simp at h
   have hy0:ys[i]? = some (.bool y):=by rcases hy 0 with h | h;simpa using h.symm;simp at h
   have ih:=UL k D (i+1) fs us' vs' xs ys h.2 (by omega) (by simpa using step 1 _ xs hx) (by simpa using step 1 _ ys hy)
   have pa:=Ql (P:=P) (w:=w) (t:=f.type) (cs:=xs) (i:=f.offset) (v:=.bool x) (by rw[hty]) (by rw[ho];exact hx0)
   have pb:=Ql (P:=P) (w:=w) (t:=f.type) (cs:=ys) (i:=f.offset) (v:=.bool y) (by rw[hty]) (by rw[ho];exact hy0)
   rw[Op.eqFields]
   simp only[au hn,aee,pa,pb,run_equalIn_bool' w D f.type x y hty,aef]
   cases hab:(x==y)
   ·simp[AK,hab]
   ·simp[AK,hab,ih]
  ·rename_i gs hty
   simp only[aec,Bool.not_eq_true',Nat.ble_eq]at h
   obtain⟨⟨⟨⟨⟨hi,hp⟩,hu⟩,hv⟩,h1⟩,h2⟩:=h
   obtain⟨D,rfl⟩ :∃m,D=m+1:=⟨D-1,by omega⟩
   have cut:∀(zs:List Value) (cs:Array Value),P.cellsOf f.type<=zs.length->(∀j,zs[j]? = cs[i+j]?∨zs.length<=j)->∀j,(zs.take (P.cellsOf f.type))[j]? = (cs.extract i (i+P.cellsOf f.type))[0+j]?∨(zs.take (P.cellsOf f.type)).length<=j:=λzs cs hl hz j=>by
    by_cases hj:j<P.cellsOf f.type
    ·left
     rcases hz j with h | h
     ·rw[List.getElem?_take,au hj,h,af3,Array.getElem?_extract]
      split
      ·rfl
      ·rename_i hc
       refine Array.getElem?_eq_none ?_
       omega
     ·omega
    ·right;rw[afA];omega
   have DD:=UL k D 0 _ _ _ _ _ h1 (by omega) (cut us xs hu hx) (cut vs ys hv hy)
   have DE:=UL k (D+1) (i+P.cellsOf f.type) fs _ _ xs ys h2 (by omega) (step _ _ xs hx) (step _ _ ys hy)
   have pa:=Xy (P:=P) (w:=w) (cs:=xs) (i:=f.offset) hty hi
   have pb:=Xy (P:=P) (w:=w) (cs:=ys) (i:=f.offset) hty hi
   have heq:=run_equalIn_struct (P:=P) w (D+1) f.type (xs.extract i (i+P.cellsOf f.type)) (ys.extract i (i+P.cellsOf f.type)) (by rw[YI hty];exact hty) hp
   rw[DD]at heq
   have hs:=YH (b:=us.drop (P.cellsOf f.type)) (d:=vs.drop (P.cellsOf f.type)) (RL _ _ _ _ _ h1)
   rw[agt,agt]at hs
   rw[Op.eqFields,hs]
   rw[ho]at pa pb
   simp only[au hn,aee,ho,pa,pb,heq,aef]
   cases hab:AK (us.take (P.cellsOf f.type)) (vs.take (P.cellsOf f.type))
   ·simp
   ·simp[DE]
  ·cases h
theorem acs{x y:Operand}{us vs:List Value}{T T':TypeId}(ho:o.op= .binOp .eql T x y T')(hx:po e x= .agg us.toArray)(hy:po e y= .agg vs.toArray)(hm:P.eqGuardType P.depth T=false)(hp:P.stoodInHeld T=false)
 (hu:P.underlying T=some (.struct (P.fieldsOf T))) (hf:SB P 64 0 (P.fieldsOf T).toList us vs=true):(execOp (po e) o).run P w= .ok (.value (.bool (AK us vs))) w:=by
 unfold execOp
 have h1:=run_equalIn_struct (P:=P) w 9999 T us.toArray vs.toArray hu hp
 rw[UL (P:=P) (w:=w) 64 9998 0 (P.fieldsOf T).toList us vs us.toArray vs.toArray hf (by decide) (λj=>by left;simp) (λj=>by left;simp)]at h1
 simp[ho,hx,hy,run_eqGuard_agg (P:=P) w .eql T x y us.toArray vs.toArray hm,run_eql_struct,h1]
end
end GX
end
section
namespace Md
open Go Go.RowKit SL GX
noncomputable section
variable {z w:World}{L:List M5}
abbrev R8(a:Option Addr)(c:Nat)(l:List Int):M5:=rowOf 3 1 oE (.slice a l.length c) l
end
noncomputable section
variable {z w:World}{L:List M5}
def QY(p0:Int)(p1:List Int)(p2:Bool):Option (Int×Int):=
 bH ((if p0=((p1.length:Nat):Int)then(if p2=true then some 0 else some p0)else some p0)) (λg3=>(if g3=((p1.length:Nat):Int)then some (0,g3)else if aZ (wi ((wi (g3+1))-1)) p1.length then some ((ag p1 (wi ((wi (g3+1))-1)).toNat),wi (g3+1))else none))
theorem UM{p0 r0 q0:Int}{p1:List Int}{p2:Bool}{B0 B1 NJ B2:Nat}{NK:Option Addr}(H:QY p0 p1 p2=some (r0,q0))(h:Fit z (cQ (pts B0 (.cells #[vI p0] 3)::pts B1 (.cells #[.slice NK p1.length NJ] 28)::R8 NK NJ p1::pts B2 (.cells #[vB p2] 4)::L)) w) :
 Calls Tryz.prog 84 #[pA B0 0,pA B1 0,pA B2 0] w λe w=>e=.returned (vI r0)/\Fit z (cQ (pts B0 (.cells #[vI q0] 3)::pts B1 (.cells #[.slice NK p1.length NJ] 28)::R8 NK NJ p1::pts B2 (.cells #[vB p2] 4)::L)) w:=by
 unfold QY at H;refine ke Tryz.func84 22 rfl λj=>ks<|ko [U]<|kn<|VA H λo5 H hK4=>λ_ r=>Nn (β:=Unit) (λ_ a w=>∃g3:Int,g3=o5/\∃j,Gk 22 (lk [(0,pA B0 0),(1,pA B1 0)] j) a/\Fit z (cQ (pts B0 (.cells #[vI g3] 3)::pts B1 (.cells #[.slice NK p1.length NJ] 28)::R8 NK NJ p1::pts B2 (.cells #[vB p2] 4)::L)) w) ?_ ?_
 ·refine qq r<|ks<|kL h 0<|kL (h.pick 1) 0<|ko [vI ((p1.length:Nat):Int),vB (p0==((p1.length:Nat):Int)),vB (p0==((p1.length:Nat):Int))]<|qI H (λc6 H=>?_) λc6 H=>?_
  ·refine λ_ r=>ld (PB r (beq_iff_eq.mpr c6)) r (vB p2) ((h.pick 3).cell 0 rfl)<|?_;refine PT (beq_iff_eq.mpr c6) (vB p2)<|kn<|V4 H (λc7 H=>?_) λc7 H=>?_
   ·refine wl<|kS h 0 (pts B0 (.cells #[vI 0] 3)) λw h=>kn<|?_;exact λ_ r=>⟨(),0,On H,r.fj h⟩
   refine wk<|tn<|?_;exact λ_ r=>⟨(),p0,On H,r.fj h⟩
  refine Nh (bN c6) [9]<|PM (bN c6) (vB false)<|kn<|λ_ r=>O3 r (b:=false) rfl<|qq r<|wk<|tn<|?_;exact λ_ r=>⟨(),p0,On H,r.fj h⟩
 clear h r;rintro _ a w ⟨g3,rfl,j,r,h⟩;replace H:=Vy hK4;refine qq r<|wq<|ks<|kL h 0<|kL (h.pick 1) 0<|ko [vI ((p1.length:Nat):Int),vB (g3==((p1.length:Nat):Int))]<|kn<|NN H (λc8 H=>?_) λc8 H=>?_
 ·refine ks<|ko [U]<|kn<|wr<|tr<|?_;cases H;exact Ox h
 refine wk<|tn<|ks<|kL h 0<|ko [vI (wi (g3+1))]<|kS h 0 (pts B0 (.cells #[vI (wi (g3+1))] 3)) λw h=>kn<|ks<|kL (h.pick 1) 0<|kL h 0<|qg H λc9 H=>ko [vI (wi ((wi (g3+1))-1))]<|ki (h.pick 2) c9<|λ_ r=>ld (wn rfl) r (vI (ag p1 (wi ((wi (g3+1))-1)).toNat)) ((h.pick 2).Ng rm (f:=0) (zN c9) rfl)<|?_;refine ko [vI (ag p1 (wi ((wi (g3+1))-1)).toNat)]<|kn<|wr<|?_;cases H;exact Ox h
end
end Md
end
section
namespace Mo
open Go Go.RowKit SL GX
structure aA where
 rest:List Int
deriving Inhabited,DecidableEq
def Uu(x:aA):Int:=x.rest.headD 0
def sL(x:aA):aA:=⟨x.rest.tail⟩
def Rr(b:Nat)(x:aA):M5:=exs λk:Nat=>exs λpa:Nat=>exs λpl:Nat=>exs λpg:Nat=>exs λca:Option Addr=>exs λcc:Nat=>exs λl:List Int =>
 cQ [Z7 (k<=l.length/\l.length*8<=140737488355328/\x.rest=l.drop k),pts b (.cells #[.func (.func 84) #[] #[pA pa 0,pA pl 0,pA pg 0]] 181),pts pa (.cells #[vI k] 3),pts pl (.cells #[.slice ca l.length cc] 28),rowOf 3 1 oE (.slice ca l.length cc) l,pts pg (.cells #[vB false] 4)]
theorem aaW{l:List Int}{k:Nat}(hk:k<=l.length)(hb:l.length*8<=140737488355328):Md.QY (k:Int) l false=some (if k=l.length then(0,(k:Int))else(ag l k,((k+1:Nat):Int))):=by
 have e1:wi ((k:Int)+1)=((k+1:Nat):Int):=by rw[bz (by omega)];omega
 have e2:wi (((k+1:Nat):Int)-1)=(k:Int):=by rw[bz (by omega)];omega
 unfold Md.QY
 by_cases c:k=l.length
 ·subst c;simp[bH]
 ·have c':¬(k:Int)=((l.length:Nat):Int):=by omega
  have hi:aZ (k:Int) l.length:=by unfold aZ;omega
  simp only[aj c',aj c,bH,e1,e2,au hi,Zi]
theorem aaX{l:List Int}{k:Nat}{x:aA}(hk:k<=l.length)(hx:x.rest=l.drop k):(if k=l.length then(0,(k:Int))else(ag l k,((k+1:Nat):Int)))=(Uu x,(((if k=l.length then k else k+1):Nat):Int))/\(if k=l.length then k else k+1)<=l.length/\(sL x).rest=l.drop (if k=l.length then k else k+1):=by
 unfold Uu sL
 rw[hx]
 by_cases c:k=l.length
 ·subst c;simp
 ·have hlt:k<l.length:=by omega
  simp only[aj c]
  refine⟨?_,by omega,by rw[List.tail_drop]⟩
  rw[aaD hlt,aeg hlt];rfl
theorem aaf{z w:World}{L:List M5}{α:Type}{b:Nat}{E:TypeId}{sz:Nat}{enc:α->List Value}(h:Fit z (cQ (pts b (.cells #[] E)::L)) w):Fit z (cQ (rowOf E sz enc (.slice (some ⟨b,0,none⟩) 0 0) ([]:List α)::L)) w:=
 h.head λy hy=>.inr ⟨b,0,#[],rfl,aea _,by simp[maxLen],by simp,by simp,hy⟩
theorem aaY{z w:World}{L:List M5}{va:Option Addr}{vc:Nat}{l:List Int}(hv:jJ L 1 oE va l)(h:Fit z (cQ L) w)(hb:l.length*8<=140737488355328) :
 Calls Tryz.prog 83 #[.slice va l.length vc] w λe w =>∃ca cc,e= .returned (.slice ca l.length cc)/\Fit z (cQ (rowOf 3 1 oE (.slice ca l.length cc) l::L)) w:=by
 refine ke Tryz.func83 8 rfl λj=>ks<|ko [U]<|kn<|wq <| ?_
 cases va with
 | none =>
  have hl:l=[]:=by
   cases l with
   | nil=>rfl
   | cons x xs=>exact absurd (hv.ne (by simp)) (by simp)
  subst hl
  refine ks<|ko [U,vB true]<|kn<|λ_ r=>Oh r (b:=true) rfl<|qq r<|ks<|ko [U]<|kn<|wr<|tr <| ?_
  exact xy2 none 0 h.ua
 | some ad =>
  refine ks<|ko [U,vB false]<|kn<|λ_ r=>O3 r (b:=false) rfl<|qq r<|wk<|tn<|ks<|λ_ r=>acq (wn rfl) r h (λb=>.slice (some ⟨b,0,none⟩) 0 0) #[] 3 λb w _ h r => ?_
  refine qq r<|ko [U]<|λ_ r=>SS (m0:=0) (n0:=0) (ca:=some ⟨b,0,none⟩) (cc:=0) (c:=vc) (va:=some ad) (bytes:=8) (wn rfl) rfl rfl r rfl (by kernel_rfl) (news:=l) (by kernel_rfl) rm (E:=3) (xs:=([]:List Int)) (by kernel_rfl) (by kernel_rfl) (aaf h) hv (by simpa using hb) rfl λca cc w _ h r => ?_
  rw[afU]at h r
  refine qq r<|ko [U]<|kn<|wr <| ?_
  exact xy2 ca cc h
theorem Wk{z w:World}{L:List M5}{b:Nat}{x:aA}(h:Fit z (cQ (Rr b x::L)) w) :
 Calls Tryz.prog 264 #[pA b 0] w λe w=>e= .returned (vI (Uu x))/\Fit z (cQ (Rr b (sL x)::L)) w:=by
 obtain⟨k,h⟩:=h.PC
 obtain⟨pa,h⟩:=h.PC
 obtain⟨pl,h⟩:=h.PC
 obtain⟨pg,h⟩:=h.PC
 obtain⟨ca,h⟩:=h.PC
 obtain⟨cc,h⟩:=h.PC
 obtain⟨l,h⟩:=h.PC
 have h:=h.u9
 obtain⟨⟨hk,hb,hx⟩,h⟩:=h.Su
 obtain⟨e1,e2,e3⟩:=aaX hk hx
 have H:=aaW hk hb
 rw[e1]at H
 generalize hm:(if k=l.length then k else k+1)=m at *
 refine ke Tryz.func264 17 rfl λj=>ks<|ko [U]<|kn<|wq<|ks<|ko [U,vB false,vB false]<|Nl (rfl:false=false) [6,7,8] [pA b 0,pA b 0,pA b 0]<|Q7 (rfl:false=false) h 0<|Nl (rfl:false=false) [10] [vB false]<|PM (rfl:false=false) (vB false)<|kn<|λ_ r=>O3 r (b:=false) rfl<|qq r<|wk<|tn<|ks<|ko [U,U,U]<|kL h 0<|qh h.m4.m4.m4.m4 λh=>N5 (Md.UM (H:=H) (h:=h) :) λw h=>ko [U]<|kn<|wr <| ?_
 exact Ox (Fit.O1 m<|Fit.O1 pa<|Fit.O1 pl<|Fit.O1 pg<|Fit.O1 ca<|Fit.O1 cc<|Fit.O1 l<|Fit.vb _ L<|Fit.RF ⟨e2,hb,e3⟩ h.m4)
theorem aaZ{z w:World}{L:List M5}{va:Option Addr}{vc:Nat}{l:List Int}(hv:jJ L 1 oE va l)(h:Fit z (cQ L) w)(hb:l.length*8<=140737488355328) :
 Calls Tryz.prog 53 #[.slice va l.length vc,vB false] w λe w =>∃b,e= .returned (pA b 0)/\Fit z (cQ (Rr b ⟨l⟩::L)) w:=by
 refine ke Tryz.func53 12 rfl λj=>ks<|kN h #[vB false] 4 λpg w h=>ko [U]<|kn<|ks<|ko [U]<|xc2 (aaY (va:=va) (vc:=vc) (jJ.up (L':=pts pg (.cells #[vB false] 4)::L) 1 hv) h hb :) λca cc w h=>kN h #[.slice none 0 0] 28 λpl w h=>kS h 0 (pts pl (.cells #[.slice ca l.length cc] 28)) λw h=>kn<|ks<|kN h #[vI 0] 3 λpa w h=>kS h 0 (pts pa (.cells #[vI 0] 3)) λw h=>kn<|ks<|ko [U,U]<|kN h #[.func (.func 84) #[] #[pA pa 0,pA pl 0,pA pg 0]] 181 λb w h=>ko [U]<|kn<|wr <| ?_
 exact xy1 b (Fit.O1 0<|Fit.O1 pa<|Fit.O1 pl<|Fit.O1 pg<|Fit.O1 ca<|Fit.O1 cc<|Fit.O1 l<|Fit.vb _ L<|Fit.RF ⟨agP _,hb,rfl⟩ h)
theorem Tx{z w:World}{L:List M5}{va:Option Addr}{c:Nat}{l:List Int}(h:Fit z (cQ L) w)(hv:jJ L 1 oE va l)(hb:l.length*8<=140737488355328) :
 Calls Tryz.prog 18 #[.slice va l.length c] w λe w =>∃b,e= .returned (pA b 0)/\Fit z (cQ (Rr b ⟨l⟩::L)) w:=by
 refine ke Tryz.func18 5 rfl λj=>ks<|ko [U]<|kn<|ks<|ko [U]<|xc1 (aaZ (vc:=c) hv h hb :) λb w h=>ko [U]<|kn<|wr <| ?_
 exact xy1 b h
end Mo
end
section
namespace GX
open Go Go.RowKit SL
def oq{α:Type}[Inhabited α](l:List α)(lo m:Nat):List α:=(List.range m).map λj=>ag l (lo+j)
theorem wK{α:Type}[Inhabited α](l:List α)(lo m:Nat):(oq l lo m).length=m:=by simp[oq]
theorem acg{α:Type}{enc:α->List Value}(he:QB enc 1):∀(m:List α) (k:Nat),(m.drop k).flatMap enc=(m.flatMap enc).drop k
 | [],k=>by simp
 | x::m,0=>by simp
 | x::m,k+1=>by
  obtain⟨u,hu⟩:=List.length_eq_one_iff.1 (he.len x)
  rw[agb,acg he m k,agK,hu];rfl
theorem aa0{α:Type}{enc:α->List Value}(he:QB enc 1):∀(m:List α) (k:Nat),(m.take k).flatMap enc=(m.flatMap enc).take k
 | [],k=>by simp
 | x::m,0=>by simp
 | x::m,k+1=>by
  obtain⟨u,hu⟩:=List.length_eq_one_iff.1 (he.len x)
  rw[aej,agK,aa0 he m k,agK,hu];rfl
theorem acu{α:Type}[Inhabited α]{A:List Value}{N f lo m:Nat}{enc:α->List Value}{l:List α}(he:QB enc 1)(hA:A.length=f)(hm:lo+m<=N):((A++O8 N enc l).drop (f+lo)).take m=(oq l lo m).flatMap enc:=by
 subst hA
 rw[List.drop_append,agN (by omega),afU,Nat.add_sub_cancel_left,TW,<-acg he,<-aa0 he]
 congr 1
 apply agI
 ·simp[oq];omega
 ·intro i h1 h2
  simp[oq]
section
variable {P:Program}{ops:Array Oper}{Q:Exit->Act->World->Prop}{a:Act}{w w0 w1:World}{rest:List Oper}{o:Oper}{n d t T T2:Nat}{v:Value}{l:List (Nat×Value)}{j e:Nat->Value}{L:List M5}{Df:List Deferred}
theorem adh{x y y':Operand}{k k':IntKind}{lo hi:Int}{B off N:Nat}{E:TypeId}{w':World}(ho:o.op= .slice t x (some y) (some y') none)(hx:po e x= .pointer (some ⟨B,off,none⟩))(hy:po e y= .int k lo)(hy':po e y'= .int k' hi)
 (ht:P.underlying t=some (.array N E)) (hs:(P.info? E).map (·.size)=some 1) (hg:0<=lo/\lo<=hi/\hi<=N/\lo<N):(execOp (po e) o).run P w'= .ok (.value (.slice (some ⟨B,off+lo.toNat,none⟩) (hi.toNat-lo.toNat) (N-lo.toNat))) w':=by
 obtain⟨h0,h1,h2,h3⟩:=hg
 obtain⟨p,rfl⟩:=Int.eq_ofNat_of_zero_le h0
 obtain⟨q,rfl⟩:=Int.eq_ofNat_of_zero_le (Int.le_trans h0 h1)
 have g1:p<=q:=by omega
 have g2:q<=N:=by omega
 have g6:¬N=p:=by omega
 unfold execOp
 cases hq:P.info? E with
 | none=>simp[hq]at hs
 | some z =>
  simp[hq]at hs
  simp[ho,hx,hy,hy',Instr.sliceAt,Instr.slice,Instr.sliceBounds,Instr.sliceBound,run_underlying ht,asIntOf,asAddr,g1,g2,g6,sizeOf,typeInfo,hq,hs,afL,Instr.sureAddr]
theorem Zg{s x:Operand}{α β:Type}{sz n0 cc i f N cv i2 f2 lo m:Nat}{enc:α->List Value}{lP:β->List Value}{xs:List α}{ca:Option Addr}{ys:List β}{E I:TypeId}{p q p2:α}(hw:Region.wanted o (yielded ops a.tmps)=true)(hd:o.dst=some d)(hn:Nat.blt d n=true)(hr:fy Df n (lk l j) a)
 (ho:o.op= .call {callee:=.builtin .copy,args:=#[s,x],argTypes:=#[t,t]}) (hs:po (lk l j) s= .slice (some ⟨Cp ca,i*sz+f,none⟩) N N) (hx:po (lk l j) x= .slice (some ⟨Cp ca,i2*sz+f2+lo,none⟩) m cv)
 (he:QB enc sz) (hi:QB lP 1) (hty:P.underlying t=some (.slice I)) (hsz:(P.info? I).map (·.size)=some 1) (hm:ys.length=m) (hlen:m<=N)
 (hF:Fit w0 (cQ (rowOf E sz enc (.slice ca n0 cc) xs::L)) w) (hp2:xs[i2]? = some p2) (hcs:((enc p2).drop (f2+lo)).take m=ys.flatMap lP) (hp:xs[i]? = some p) (hfit:f+m<=sz) (hq:enc q=(enc p).take f++ys.flatMap lP++(enc p).drop (f+m))
 (k:∀w1 a,Fit w0 (cQ (rowOf E sz enc (.slice ca n0 cc) (xs.set i q)::L)) w1->fy Df n (lk ((d,.int .i64 ((m:Nat):Int))::l) j) a->wpList P ops Q rest a w1):wpList P ops Q (o::rest) a w:=by
 subst hm
 have ach:=hF.MX he (f:=f2+lo) (xs:=ys.flatMap lP) hp2 (by rw[show(ys.flatMap lP).length=ys.length by rw[hi.flat ys,Nat.mul_one]];exact hcs)
 rw[<-Nat.add_assoc]at ach
 have J7:i<xs.length:=(List.getElem?_eq_some_iff.1 hp).1
 have hn':=hF.N4
 obtain⟨hca,Ui⟩:=hF.Qq (by omega)
 obtain⟨I9,Dq⟩:=Ui.R7
 obtain⟨cur,Jp,HC,hP⟩:=Ui.P7
 have hle:i*sz+sz<=xs.length*sz:=by
  have:(i+1)*sz<=xs.length*sz:=afm _ J7
  rw[afz]at this
  omega
 have acm:xs.length*sz<=cc*sz:=afm _ I9
 have hfl:(ys.flatMap lP).length=ys.length:=by rw[hi.flat ys,Nat.mul_one]
 have hmin:Nat.min ys.length N=ys.length:=afX hlen
 have hcells:(Builtin.firstCells 1 ys.length (.slice (some ⟨Cp ca,i2*sz+f2+lo,none⟩) ys.length cv)).run P w= .ok (ys.flatMap lP).toArray w:=
  run_firstCells_some (P:=P) w 1 ys.length _ _ _ (ys.flatMap lP) (by rw[hfl,Nat.mul_one]) (RC ach)
 have hst:=run_storeCells_at P (Cp ca) (i*sz+f) E (ys.flatMap lP) 0 cur w hP.block (by rw[hfl];omega) (hi.Sv ys)
 simp only[agj]at hst
 refine Qg (w1:=w.setRow (Cp ca) (cur.toList.take (i*sz+f)++ys.flatMap lP++cur.toList.drop (i*sz+f+(ys.flatMap lP).length)).toArray) (v:=.int .i64 ((ys.length:Nat):Int)) hw hd hn hr ?_ (λa hr=>k _ a (Fit.Sx ?_ hca (by rw[acG];exact hn')) hr)
 ·unfold execOp
  cases RG:P.info? I with
  | none=>simp[RG]at hsz
  | some q =>
   simp[RG]at hsz
   simp only[ho,resolve,invoke,builtin,aee,afu,aef,agk,afZ,af5,hs,hx]
   simp[Builtin.copy_,run_underlying hty,Builtin.lenOf,sizeOf,typeInfo,RG,hsz,hmin,hcells,hst,goInt]
 ·refine(hP.turn (w':=w.setRow (Cp ca) (cur.toList.take (i*sz+f)++ys.flatMap lP++cur.toList.drop (i*sz+f+(ys.flatMap lP).length)).toArray) (setRow_heap w (Cp ca) cur _ E (0,0) hP.block) (λk hk _=>setRow_other w (Cp ca) k _ hk) rfl rfl rfl (by simp)).head λz hz=>⟨by simpa using I9,Dq,_,?_,?_,hz⟩
  ·simp only[af9,ad9,afA,af4,afB]
   omega
  ·have JB:((xs.flatMap enc).drop (i*sz)).take sz=enc p:=by
    apply afS
    intro k
    rw[List.getElem?_take]
    by_cases hk:k<sz
    ·rw[au hk,List.getElem?_drop]
     exact he.get xs i k p hp hk
    ·rw[aj hk,List.getElem?_eq_none (by rw[he.len];omega)]
   rw[<-hfl]at hq hfit
   generalize ys.flatMap lP=vs at hq hfit hst⊢
   rw[acG,he.set xs i q J7,hq,<-JB,Us _ _ _ _ _ hfit (by rw[he.flat];exact hle),<-HC]
   have hA:(cur.toList.take (i*sz+f)).length=i*sz+f:=by rw[afA,afB];omega
   have e1:(cur.toList.take (i*sz+f)++vs++cur.toList.drop (i*sz+f+vs.length)).take (xs.length*sz)=cur.toList.take (i*sz+f)++vs++(cur.toList.drop (i*sz+f+vs.length)).take (xs.length*sz-(i*sz+f+vs.length)):=by
    rw[agz,agh (by rw[ad9,hA];omega),ad9,hA]
   rw[agA,e1,List.take_take,afX (by omega),agB]
end
end GX
end
section
namespace Mo
open Go Go.RowKit SL GX
noncomputable section
variable {z w:World}{L:List M5}
structure bC where
 aQ:Int
 A:Int
 B:Int
 C:Int
 K:Int
deriving Inhabited,DecidableEq
def gJ(x:bC):List Value:=[vI x.aQ,vI x.A,vI x.B,vI x.C,vI x.K]
abbrev Om(x:bC):List Value:=[vI x.aQ,vI x.A,vI x.B,vI x.C,vI x.K]
abbrev PD(x:bC):Array Value:=#[vI x.aQ,vI x.A,vI x.B,vI x.C,vI x.K]
abbrev OQ(x:bC):Value:=.agg #[vI x.aQ,vI x.A,vI x.B,vI x.C,vI x.K]
theorem mU:QB gJ 5:=⟨λ_=>rfl,λx u h=>by simp only[gJ,afv,afw,afx]at h;rcases h with rfl | rfl | rfl | rfl | rfl<;>rfl,by decide⟩
structure ax where
 MW:Int
 dA:Int
 cA:Int
 Code:List bC
deriving Inhabited,DecidableEq
structure aN where
 cG:List ax
 mc:List Int
 ez:Int
 MU:Int
 j8:Int
 kU:Int
 Nm:List Int
 gQ:List Int
deriving Inhabited,DecidableEq
def AW(a:Option Addr)(c:Nat)(x:ax):List Value:=[vI x.MW,vI x.dA,vI x.cA,.slice a x.Code.length c]
abbrev T3(L:List M5)(va:Option Addr)(hs:Nat->Option Addr×Nat)(l:List ax):Prop:=wC L 4 5 AW gJ ax.Code va hs l
structure bY where
 cO:Int
 bD:Int
 gK:Int
deriving Inhabited,DecidableEq
abbrev VE(x:bY):List Value:=[vI x.cO,vI x.bD,vI x.gK]
abbrev Pb(x:bY):Array Value:=#[vI x.cO,vI x.bD,vI x.gK]
abbrev O7(x:bY):Value:=.agg #[vI x.cO,vI x.bD,vI x.gK]
abbrev YJ(B:Nat)(S:bY):M5:=pts B (.cells #[vI S.cO,vI S.bD,vI S.gK] 27)
structure az where
 Qm:Int
 aQ:Int
 Addr:Int
 A:Int
 B:Int
 OK:Bool
deriving Inhabited,DecidableEq
def Ot(x:az):List Value:=[vI x.Qm,vI x.aQ,vI x.Addr,vI x.A,vI x.B,vB x.OK]
theorem Qy:QB Ot 6:=⟨λ_=>rfl,λx u h=>by simp only[Ot,afv,afw,afx]at h;rcases h with rfl | rfl | rfl | rfl | rfl | rfl<;>rfl,by decide⟩
structure ae where
 n7:Int
 dL:Int
 cell:List Int
 log:List az
 lK:Int
 watched:Bool
deriving Inhabited,DecidableEq
abbrev Ny(B:Nat)(S:ae)(a2:Option Addr)(c2:Nat)(a3:Option Addr)(c3:Nat):M5:=pts B (.cells #[vI S.n7,vI S.dL,.slice a2 S.cell.length c2,.slice a3 S.log.length c3,vI S.lK,vB S.watched] 92)
abbrev OO(a:Option Addr)(c:Nat)(l:List Int):M5:=rowOf 2 1 oE (.slice a l.length c) l
abbrev Nd(a:Option Addr)(c:Nat)(l:List az):M5:=rowOf 159 6 Ot (.slice a l.length c) l
structure ay where
 aB:List ax
deriving Inhabited,DecidableEq
abbrev Qd(B:Nat)(S:ax)(a3:Option Addr)(c3:Nat):M5:=pts B (.cells #[vI S.MW,vI S.dA,vI S.cA,.slice a3 S.Code.length c3] 99)
structure bG where
 AX:Int
 Func:Int
 At:Int
deriving Inhabited,DecidableEq
abbrev Ty(x:bG):Value:=.agg #[vI x.AX,vI x.Func,vI x.At]
abbrev RM(B:Nat)(S:bC):M5:=pts B (.cells #[vI S.aQ,vI S.A,vI S.B,vI S.C,vI S.K] 146)
abbrev R8(a:Option Addr)(c:Nat)(l:List Int):M5:=rowOf 3 1 oE (.slice a l.length c) l
def O2(x:List Int)(cs:List Value):M5:=exs λQM:Option Addr=>exs λQN:Nat=>cQ [Z7 (cs=[.slice QM x.length QN]),R8 QM QN x]
theorem PE{x:List Int}{cs:List Value}(h:Fit z (cQ (O2 x cs::L)) w) :∃QM:Option Addr,∃QN:Nat,cs=[.slice QM x.length QN]/\Fit z (cQ (R8 QM QN x::L)) w:=by
 unfold O2 at h;obtain⟨QM,h⟩:=h.PC;obtain⟨QN,h⟩:=h.PC;have h:=h.u9;obtain⟨e,h⟩:=h.Su;exact⟨QM,QN,e,h⟩
theorem OJ{x:List Int}{QM:Option Addr}{QN:Nat}(h:Fit z (cQ (R8 QM QN x::L)) w):Fit z (cQ (O2 x [.slice QM x.length QN]::L)) w:=by
 unfold O2;refine Fit.O1 QM<|Fit.O1 QN<|Fit.vb (Z7 (([.slice QM x.length QN]:List Value)=[.slice QM x.length QN])::R8 QM QN x::[]) L<|?_;exact h.RF rfl
abbrev XO(a:Option Addr)(c:Nat)(l:List (List Int)):M5:=Qw 28 1 O2 (.slice a l.length c) l
abbrev adW(B:Nat)(S:bG):M5:=pts B (.cells #[vI S.AX,vI S.Func,vI S.At] 95)
structure mE where
 a:Int
 b:Int
 c:Int
 k:Int
 next:Bool
deriving Inhabited,DecidableEq
def kJ(x:mE):List Value:=[vI x.a,vI x.b,vI x.c,vI x.k,vB x.next]
abbrev XP(x:mE):List Value:=[vI x.a,vI x.b,vI x.c,vI x.k,vB x.next]
abbrev XQ(x:mE):Value:=.agg #[vI x.a,vI x.b,vI x.c,vI x.k,vB x.next]
def pF:List mE:=[⟨1,0,0,0,true⟩,⟨1,1,0,0,true⟩,⟨1,1,1,5,true⟩,⟨3,0,0,0,false⟩,⟨1,3,0,0,true⟩,⟨2,4,0,0,true⟩,⟨0,0,0,0,true⟩,⟨1,2,0,0,true⟩,⟨1,0,0,0,true⟩,⟨1,0,0,0,false⟩]
abbrev aa1(B:Nat)(S:mE):M5:=pts B (.cells #[vI S.a,vI S.b,vI S.c,vI S.k,vB S.next] 249)
structure gA where
 pT:Int
 oJ:Int
 rB:Int
deriving Inhabited,DecidableEq
abbrev Ta(x:gA):Value:=.agg #[vI x.pT,vI x.oJ,vI x.rB]
structure aM where
 ag:Int
 state:Int
deriving Inhabited,DecidableEq
def NC(x:aM):List Value:=[vI x.ag,vI x.state]
abbrev VF(x:aM):List Value:=[vI x.ag,vI x.state]
abbrev VG(x:aM):Array Value:=#[vI x.ag,vI x.state]
abbrev Rt(x:aM):Value:=.agg #[vI x.ag,vI x.state]
theorem PK:QB NC 2:=⟨λ_=>rfl,λx u h=>by simp only[NC,afv,afw,afx]at h;rcases h with rfl | rfl<;>rfl,by decide⟩
theorem VH(x y:aM):AK (NC x) (NC y)=decide (x=y):=by
 rw[Bool.eq_iff_iff];cases x;cases y;simp[NC,AK]
theorem XR:Jb Tryz.prog 255 NC:=⟨by kernel_rfl,by kernel_rfl,λx y=>by kernel_rfl,VH⟩
abbrev ZT(B:Nat)(S:aM):M5:=pts B (.cells #[vI S.ag,vI S.state] 255)
structure aO where
 fn:Int
 ag:Int
 parent:Int
 slot:Int
 aR:Int
 gH:Int
 bK:List Int
deriving Inhabited,DecidableEq
def M3(x:aO):List Value:=[vI x.fn,vI x.ag,vI x.parent,vI x.slot,vI x.aR,vI x.gH]++O8 16 oE x.bK
abbrev PV(x:aO):List Value:=[vI x.fn,vI x.ag,vI x.parent,vI x.slot,vI x.aR,vI x.gH]++O8 16 oE x.bK
theorem MZ:QB (M3) 22:=wD.enc (N:=6+16*1) (λx=>(show wD (M3 x) (6+16*1)from((wD.lit 6 (by rfl)).app (V2 16 rm _)))) (by decide) (by rfl)
abbrev NY(a:Option Addr)(c:Nat)(l:List aO):M5:=rowOf 114 22 M3 (.slice a l.length c) l
abbrev Xz(a:Option Addr)(c:Nat)(l:List bC):M5:=rowOf 146 5 gJ (.slice a l.length c) l
def Pm(x:ax)(cs:List Value):M5:=exs λQM:Option Addr=>exs λQN:Nat=>cQ [Z7 (cs=[vI x.MW,vI x.dA,vI x.cA,.slice QM x.Code.length QN]),Xz QM QN x.Code]
theorem QZ{x:ax}{cs:List Value}(h:Fit z (cQ (Pm x cs::L)) w) :∃QM:Option Addr,∃QN:Nat,cs=[vI x.MW,vI x.dA,vI x.cA,.slice QM x.Code.length QN]/\Fit z (cQ (Xz QM QN x.Code::L)) w:=by
 unfold Pm at h;obtain⟨QM,h⟩:=h.PC;obtain⟨QN,h⟩:=h.PC;have h:=h.u9;obtain⟨e,h⟩:=h.Su;exact⟨QM,QN,e,h⟩
theorem NQ{x:ax}{QM:Option Addr}{QN:Nat}(h:Fit z (cQ (Xz QM QN x.Code::L)) w):Fit z (cQ (Pm x [vI x.MW,vI x.dA,vI x.cA,.slice QM x.Code.length QN]::L)) w:=by
 unfold Pm;refine Fit.O1 QM<|Fit.O1 QN<|Fit.vb (Z7 (([vI x.MW,vI x.dA,vI x.cA,.slice QM x.Code.length QN]:List Value)=[vI x.MW,vI x.dA,vI x.cA,.slice QM x.Code.length QN])::Xz QM QN x.Code::[]) L<|?_;exact h.RF rfl
abbrev Oo(a:Option Addr)(c:Nat)(l:List ax):M5:=Qw 99 4 Pm (.slice a l.length c) l
structure aT where
 j1:Int
 gK:Int
deriving Inhabited,DecidableEq
def M4(x:aT):List Value:=[vI x.j1,vI x.gK]
abbrev Pd(x:aT):List Value:=[vI x.j1,vI x.gK]
abbrev PW(x:aT):Array Value:=#[vI x.j1,vI x.gK]
abbrev Ou(x:aT):Value:=.agg #[vI x.j1,vI x.gK]
theorem Oc:QB M4 2:=⟨λ_=>rfl,λx u h=>by simp only[M4,afv,afw,afx]at h;rcases h with rfl | rfl<;>rfl,by decide⟩
structure aK where
 kind:Int
 ag:Int
 jw:Int
 lj:Int
 v:Int
 t:Int
 b:Int
 a:Int
 c:Int
 a2:Int
 c2:Int
 i:Int
 x:Int
 nM:Bool
 code:Int
 value:Int
deriving Inhabited,DecidableEq
def M6(x:aK):List Value:=[vI x.kind,vI x.ag,vI x.jw,vI x.lj,vI x.v,vI x.t,vI x.b,vI x.a,vI x.c,vI x.a2,vI x.c2,vI x.i,vI x.x,vB x.nM,vI x.code,vI x.value]
abbrev OX(x:aK):List Value:=[vI x.kind,vI x.ag,vI x.jw,vI x.lj,vI x.v,vI x.t,vI x.b,vI x.a,vI x.c,vI x.a2,vI x.c2,vI x.i,vI x.x,vB x.nM,vI x.code,vI x.value]
abbrev PA(x:aK):Array Value:=#[vI x.kind,vI x.ag,vI x.jw,vI x.lj,vI x.v,vI x.t,vI x.b,vI x.a,vI x.c,vI x.a2,vI x.c2,vI x.i,vI x.x,vB x.nM,vI x.code,vI x.value]
abbrev NT(x:aK):Value:=.agg #[vI x.kind,vI x.ag,vI x.jw,vI x.lj,vI x.v,vI x.t,vI x.b,vI x.a,vI x.c,vI x.a2,vI x.c2,vI x.i,vI x.x,vB x.nM,vI x.code,vI x.value]
theorem R9:QB M6 16:=⟨λ_=>rfl,λx u h=>by simp only[M6,afv,afw,afx]at h;rcases h with rfl | rfl | rfl | rfl | rfl | rfl | rfl | rfl | rfl | rfl | rfl | rfl | rfl | rfl | rfl | rfl<;>rfl,by decide⟩
theorem Uk(x y:aK):AK (M6 x) (M6 y)=decide (x=y):=by
 rw[Bool.eq_iff_iff];cases x;cases y;simp[M6,AK,and_assoc]
structure aV where
 cB:Int
 dk:Int
 dK:Int
 aD:Int
 cC:Int
 fz:Int
 kind:Int
 slot:Int
 Ds:Int
deriving Inhabited,DecidableEq
def Pv(x:aV):List Value:=[vI x.cB,vI x.dk,vI x.dK,vI x.aD,vI x.cC,vI x.fz,vI x.kind,vI x.slot,vI x.Ds]
abbrev O5(x:aV):List Value:=[vI x.cB,vI x.dk,vI x.dK,vI x.aD,vI x.cC,vI x.fz,vI x.kind,vI x.slot,vI x.Ds]
abbrev Tz(x:aV):Array Value:=#[vI x.cB,vI x.dk,vI x.dK,vI x.aD,vI x.cC,vI x.fz,vI x.kind,vI x.slot,vI x.Ds]
abbrev O6(x:aV):Value:=.agg #[vI x.cB,vI x.dk,vI x.dK,vI x.aD,vI x.cC,vI x.fz,vI x.kind,vI x.slot,vI x.Ds]
theorem Uv:QB Pv 9:=⟨λ_=>rfl,λx u h=>by simp only[Pv,afv,afw,afx]at h;rcases h with rfl | rfl | rfl | rfl | rfl | rfl | rfl | rfl | rfl<;>rfl,by decide⟩
theorem Wl(x y:aV):AK (Pv x) (Pv y)=decide (x=y):=by
 rw[Bool.eq_iff_iff];cases x;cases y;simp[Pv,AK,and_assoc]
structure aX where
 bx:Int
 bP:Int
 fT:Int
 cu:Int
 aC:Int
 cL:Int
 gB:Int
 NF:Int
 cS:Int
 dW:List aT
 look:aK
deriving Inhabited,DecidableEq
def QC(x:aX):List Value:=[vI x.bx,vI x.bP,vI x.fT,vI x.cu,vI x.aC,vI x.cL,vI x.gB,vI x.NF,vI x.cS]++O8 64 M4 x.dW++M6 x.look
abbrev Pn(x:aX):List Value:=[vI x.bx,vI x.bP,vI x.fT,vI x.cu,vI x.aC,vI x.cL,vI x.gB,vI x.NF,vI x.cS]++O8 64 M4 x.dW++M6 x.look
abbrev PN(x:aX):Array Value:=([vI x.bx,vI x.bP,vI x.fT,vI x.cu,vI x.aC,vI x.cL,vI x.gB,vI x.NF,vI x.cS]++O8 64 M4 x.dW++M6 x.look).toArray
abbrev OL(x:aX):Value:=.agg ([vI x.bx,vI x.bP,vI x.fT,vI x.cu,vI x.aC,vI x.cL,vI x.gB,vI x.NF,vI x.cS]++O8 64 M4 x.dW++M6 x.look).toArray
theorem Vc:QB (QC) 153:=wD.enc (N:=9+64*2+16) (λx=>(show wD (QC x) (9+64*2+16)from(((wD.lit 9 (by rfl)).app (V2 64 Oc _)).app (R9.p _)))) (by decide) (by rfl)
structure aW where
 bp:Int
 aJ:Int
 an:Int
 from_:Int
 ct:Int
 done:Int
 tries:Int
 eB:Int
 aG:aK
 bA:aV
 Nf:aX
 parked:Bool
deriving Inhabited,DecidableEq
def M0(B:Nat)(x:aW):List Value:=[pA B 0,vI x.bp,vI x.aJ,vI x.an,vI x.from_,vI x.ct,vI x.done,vI x.tries,vI x.eB]++M6 x.aG++Pv x.bA++QC x.Nf++[vB x.parked]
theorem MQ(B:Nat):QB (M0 B) 188:=wD.enc (N:=9+16+9+153+1) (λx=>(show wD (M0 B x) (9+16+9+153+1)from(((((wD.lit 9 (by rfl)).app (R9.p _)).app (Uv.p _)).app (Vc.p _)).app (wD.lit 1 (by rfl))))) (by decide) (by rfl)
structure af where
 code:List ax
 result:Int
 cU:Int
 cw:Int
 dM:Int
 bT:Int
 dW:List aT
 ak:List aO
 aa:List aW
 value:Int
 left:Bool
deriving Inhabited,DecidableEq
structure aF where
 j1:Int
 cO:Int
deriving Inhabited,DecidableEq
abbrev Sa(x:aF):List Value:=[vI x.j1,vI x.cO]
abbrev Ov(x:aF):Array Value:=#[vI x.j1,vI x.cO]
abbrev N7(x:aF):Value:=.agg #[vI x.j1,vI x.cO]
structure bU where
 j1:Int
 ez:Int
deriving Inhabited,DecidableEq
abbrev W7(x:bU):List Value:=[vI x.j1,vI x.ez]
abbrev QD(x:bU):Array Value:=#[vI x.j1,vI x.ez]
abbrev Qa(x:bU):Value:=.agg #[vI x.j1,vI x.ez]
abbrev NV(a:Option Addr)(c:Nat)(l:List aT):M5:=rowOf 118 2 M4 (.slice a l.length c) l
abbrev NW(B:Nat)(a:Option Addr)(c:Nat)(l:List aW):M5:=rowOf 131 188 (M0 B) (.slice a l.length c) l
abbrev YK(B:Nat)(S:aT):M5:=pts B (.cells #[vI S.j1,vI S.gK] 118)
abbrev OS(B:Nat)(S:aV):M5:=pts B (.cells #[vI S.cB,vI S.dk,vI S.dK,vI S.aD,vI S.cC,vI S.fz,vI S.kind,vI S.slot,vI S.Ds] 124)
abbrev Od(B:Nat)(S:af)(k0:Value)(a1:Option Addr)(c1:Nat)(a7:Option Addr)(c7:Nat)(a8:Option Addr)(c8:Nat)(a9:Option Addr)(c9:Nat):M5:=pts B (.cells #[k0,.slice a1 S.code.length c1,vI S.result,vI S.cU,vI S.cw,vI S.dM,vI S.bT,.slice a7 S.dW.length c7,.slice a8 S.ak.length c8,.slice a9 S.aa.length c9,vI S.value,vB S.left] 110)
abbrev UN(B:Nat)(S:aN)(a0:Option Addr)(c0:Nat)(a1:Option Addr)(c1:Nat)(a6:Option Addr)(c6:Nat)(a7:Option Addr)(c7:Nat):M5:=pts B (.cells #[.slice a0 S.cG.length c0,.slice a1 S.mc.length c1,vI S.ez,vI S.MU,vI S.j8,vI S.kU,.slice a6 S.Nm.length c6,.slice a7 S.gQ.length c7] 32)
def zS:List Bool:=[false,false,false,false,false,false,false,false,false,false,false,false,false,true,true]
structure ah where
 At:Int
 Qm:Int
 aQ:Int
 Frame:Int
 X:Int
 V:Int
deriving Inhabited,DecidableEq
def Ow(x:ah):List Value:=[vI x.At,vI x.Qm,vI x.aQ,vI x.Frame,vI x.X,vI x.V]
abbrev Nz(x:ah):List Value:=[vI x.At,vI x.Qm,vI x.aQ,vI x.Frame,vI x.X,vI x.V]
abbrev Q1(x:ah):Array Value:=#[vI x.At,vI x.Qm,vI x.aQ,vI x.Frame,vI x.X,vI x.V]
abbrev NL(x:ah):Value:=.agg #[vI x.At,vI x.Qm,vI x.aQ,vI x.Frame,vI x.X,vI x.V]
theorem NX:QB Ow 6:=⟨λ_=>rfl,λx u h=>by simp only[Ow,afv,afw,afx]at h;rcases h with rfl | rfl | rfl | rfl | rfl | rfl<;>rfl,by decide⟩
abbrev N8(B:Nat)(S:ah):M5:=pts B (.cells #[vI S.At,vI S.Qm,vI S.aQ,vI S.Frame,vI S.X,vI S.V] 47)
abbrev Nx(B:Nat)(S:aK):M5:=pts B (.cells #[vI S.kind,vI S.ag,vI S.jw,vI S.lj,vI S.v,vI S.t,vI S.b,vI S.a,vI S.c,vI S.a2,vI S.c2,vI S.i,vI S.x,vB S.nM,vI S.code,vI S.value] 120)
abbrev OB(B:Nat)(S:aX):M5:=pts B (.cells ([vI S.bx,vI S.bP,vI S.fT,vI S.cu,vI S.aC,vI S.cL,vI S.gB,vI S.NF,vI S.cS]++O8 64 M4 S.dW++M6 S.look).toArray 129)
abbrev adi(B:Nat)(S:bU):M5:=pts B (.cells #[vI S.j1,vI S.ez] 106)
end
noncomputable section
variable {z w:World}{L:List M5}
abbrev MR (p:af) (i:Int):=ag p.aa i.toNat
abbrev MT (p:af) (i:Int):=ag p.ak (ag p.aa i.toNat).an.toNat
abbrev OV (p:af) (i:Int) (a:aW):=p.aa.set i.toNat a
theorem _root_.Go.Proofs.YtpikpffbcjpmcaaGreatDoor.SL.Fit.ad8{B:Nat}{z w:World}{L:List M5}{ca:Option Addr}{n cc:Nat}{l:List aW}{x:aW}(h:Fit z (cQ (rowOf 131 188 (M0 B) (.slice ca n cc) l::L)) w)(f:Nat)(i:Int)(hx:l[i.toNat]?=some x)(xs:List Value)(hxs:(((M0 B) x).drop f).take xs.length=xs:=by kernel_rfl):lI w (Cp ca) (i.toNat*188+f) xs:=h.MX (sz:=188) (i:=i.toNat) (MQ B) (f:=f) hx hxs
theorem _root_.Go.Proofs.YtpikpffbcjpmcaaGreatDoor.SL.Fit.ag1{z w:World}{L:List M5}{ca:Option Addr}{n cc:Nat}{l:List aO}{x:aO}(h:Fit z (cQ (rowOf 114 22 M3 (.slice ca n cc) l::L)) w)(f:Nat)(i:Int)(hx:l[i.toNat]?=some x)(xs:List Value)(hxs:((M3 x).drop f).take xs.length=xs:=by kernel_rfl):lI w (Cp ca) (i.toNat*22+f) xs:=h.MX (sz:=22) (i:=i.toNat) MZ (f:=f) hx hxs
section
variable {P:Program}{ops:Array Oper}{Q:Exit->Act->World->Prop}{a:Act}{w w0 w1:World}{rest:List Oper}{o:Oper}{n d t:Nat}{v:Value}{l:List (Nat×Value)}{j e:Nat->Value}{L:List M5}{Df:List Deferred}{α:Type}{E:TypeId}{sz n0 cc:Nat}{enc:α->List Value}{xs:List α}{ca:Option Addr}
theorem agx{x y:Operand}(hr:fy Df n (lk l j) a)(ho:o.op=.store t x y)(v:Value)(he:QB enc sz)(hF:Fit w0 (cQ (rowOf E sz enc (.slice ca n0 cc) xs::L)) w)(i f:Nat)(p q:α)(hp:xs[i]?=some p)(k:∀ w1,Fit w0 (cQ (rowOf E sz enc (.slice ca n0 cc) (xs.set i q)::L)) w1->wpList P ops Q rest a w1)(hf:f<sz:=by decide)(hx:po (lk l j) x=.pointer (some ⟨Cp ca,i*sz+f,none⟩):=by kernel_rfl)(hy:po (lk l j) y=v:=by kernel_rfl)(hs:(P.info? t).map (·.size)=some 1:=by kernel_rfl)(hq:enc q=(enc p).set f v:=by kernel_rfl)(hw:Region.wanted o (yielded ops a.tmps)=true:=by exact wn rfl)(hd:o.dst=none:=by rfl)(hv:v.cells=#[v]:=by rfl)(h1:v.oneCell'=true:=by rfl):wpList P ops Q (o::rest) a w:=M7 hw hd hr ho hx hy hv h1 hs he hF hp hf hq k
theorem ag0{w':World}{x y:Operand}{i:Int}[Inhabited α](E:TypeId)(ho:o.op=.indexAddr t x y)(hF:Fit w0 (cQ (rowOf E sz enc (.slice ca n cc) xs::L)) w)(hi:aZ i xs.length)(hx:po e x=.slice ca n cc:=by kernel_rfl)(hy:po e y=.int .i64 i:=by kernel_rfl)(ht:P.underlying t=some (.slice E):=by kernel_rfl)(hs:(P.info? E).map (·.size)=some sz:=by kernel_rfl):(execOp (po e) o).run P w'=.ok (.value (.pointer (some ⟨Cp ca,i.toNat*sz,none⟩))) w':=OD ho hx hy ht hs hF hi
theorem ag2{x y:Operand}{i:Int}{b N R off:Nat}{w':World}(E:TypeId)(ho:o.op=.indexAddr t x y)(hi:aZ i N)(hx:po e x=.pointer (some ⟨b,R+off,none⟩):=by kernel_rfl)(hy:po e y=.int .i64 i:=by kernel_rfl)(ht:P.underlying t=some (.array N E):=by kernel_rfl)(hs:(P.info? E).map (·.size)=some sz:=by kernel_rfl):(execOp (po e) o).run P w'=.ok (.value (.pointer (some ⟨b,R+(off+i.toNat*sz),none⟩))) w':=Sf ho hx hy ht hs hi
theorem agZ{fn:Func}{R:Ending->World->Prop}{t T b off u:Nat}(cs:List Value)(v:Value)(hres:fn.results=#[.cell t T,.tmp u])(hr:Gk n e a)(hc:lI w b off cs)(h:R (.returned (.tuple #[.agg cs.toArray,v])) w)(hv:e t=.pointer (some ⟨b,off,none⟩):=by kernel_rfl)(hv':e u=v:=by kernel_rfl)(hu:Rs (P.underlying T)=true:=by kernel_rfl)(hs:(P.info? T).map (·.size)=some cs.length:=by kernel_rfl):bodyPost P fn R .ret a w:=NH hres hr hv hv' hu hs hc h
theorem ev_[hp:PI Q]{D:World->Prop}{E:List Nat}{listed:Array Bool}(fuel i:Nat)(hi:ops[i]?=some o)(v:Value)(k:KK Df n ((dn o,v)::l) j (fb P .any ops Q D E fuel (listed.setIfInBounds i true)) w)(hg:o.guard=none:=by rfl)(hB:okB ops E listed i=true:=by kernel_rfl)(hrun:∀ w,(execOp (po (lk l j)) o).run P w=.ok (.value v) w:=by intro w;kernel_rfl)(hd:o.dst=some (dn o):=by rfl)(hn:Nat.blt (dn o) n=true:=by rfl):KK Df n l j (fb P .any ops Q D E (fuel+1) listed) w:=λa r=>ON fuel i hi (wn hg) r v k hB hrun hd hn
theorem eo_[hp:PI Q]{D:List (Nat×Nat×List Value)}{E:List Nat}{listed:Array Bool}(hd:HL D w)(f i:Nat)(hi:ops[i]?=some o)(v:Value)(hrun:∀ w,(execOp (po (lk l j)) o).run P w=.ok (.value v) w)(k:KK Df n ((dn o,v)::l) j (fb P .any ops Q (HL D) E f (listed.setIfInBounds i true)) w)(hg:o.guard=none:=by rfl)(hB:FE ops E listed i=true:=by kernel_rfl)(h1:o.dst=some (dn o):=by rfl)(hn:Nat.blt (dn o) n=true:=by rfl):KK Df n l j (fb P .any ops Q (HL D) E (f+1) listed) w:=λa r=>Pj hd f i hi (wn hg) r v k hB hrun h1 hn
theorem afn{fn:Func}{R:Ending->World->Prop}(v:Value)(hres:fn.results=#[.tmp t])(hr:Gk n e a)(h:R (.returned v) w)(hv:e t=v:=by kernel_rfl):bodyPost P fn R .ret a w:=NI hres hr hv h
theorem afp{fn:Func}{R:Ending->World->Prop}{t':Nat}(v v':Value)(hres:fn.results=#[.tmp t,.tmp t'])(hr:Gk n e a)(h:R (.returned (.tuple #[v,v'])) w)(hv:e t=v:=by kernel_rfl)(hv':e t'=v':=by kernel_rfl):bodyPost P fn R .ret a w:=PG hres hr hv hv' h
theorem afJ{fn:Func}{R:Ending->World->Prop}{t1 t2 t3:Nat}(v1 v2 v3:Value)(hres:fn.results=#[.tmp t1,.tmp t2,.tmp t3])(hr:Gk n e a)(h:R (.returned (.tuple #[v1,v2,v3])) w)(h1:e t1=v1:=by kernel_rfl)(h2:e t2=v2:=by kernel_rfl)(h3:e t3=v3:=by kernel_rfl):bodyPost P fn R .ret a w:=Qr hres hr h1 h2 h3 h
theorem afo{x y:Operand}{i i':Int}(ho:o.op=.index t x y)(hi:i=i')(hy:po e y=.int .i64 i:=by kernel_rfl)(hrun:(Instr.index t (po e x) (.int .i64 i')).run P w=.ok v w:=by kernel_rfl):(execOp (po e) o).run P w=.ok (.value v) w:=Rk ho hy hi hrun
theorem afq{β:Type}[Inhabited α]{x y:Operand}{i:Int}{m vh:Nat}{enc:Option Addr->Nat->α->List Value}{lP:β->List Value}{vi:α->List β}{va:Option Addr}{hs:Nat->Option Addr×Nat}(E:TypeId)(cc:Nat)(ho:o.op=.indexAddr t x y)(JA:m=xs.length)(hF:wC L sz vh enc lP vi va hs xs)(hi:aZ i xs.length)(hx:po e x=.slice va m cc:=by kernel_rfl)(hy:po e y=.int .i64 i:=by kernel_rfl)(ht:P.underlying t=some (.slice E):=by kernel_rfl)(hs':(P.info? E).map (·.size)=some sz:=by kernel_rfl):(execOp (po e) o).run P w=.ok (.value (.pointer (some ⟨Cp va,sJ va+i.toNat*sz,none⟩))) w:=SA ho hx hy JA ht hs' hF hi
theorem afF[Inhabited α]{x y:Operand}{i:Int}{m:Nat}{va:Option Addr}(E:TypeId)(cc:Nat)(ho:o.op=.indexAddr t x y)(JA:m=xs.length)(hF:jJ L sz enc va xs)(hi:aZ i xs.length)(hx:po e x=.slice va m cc:=by kernel_rfl)(hy:po e y=.int .i64 i:=by kernel_rfl)(ht:P.underlying t=some (.slice E):=by kernel_rfl)(hs:(P.info? E).map (·.size)=some sz:=by kernel_rfl):(execOp (po e) o).run P w=.ok (.value (.pointer (some ⟨Cp va,sJ va+i.toNat*sz,none⟩))) w:=Sy ho hx hy JA ht hs hF hi
end
abbrev ft_(z:World)(l:List M5)(w:World):Prop:=Fit z (cQ l) w
abbrev c0_(f:FuncId)(a:Array Value)(w z:World)(v:Value)(l:List M5):Prop:=Calls Tryz.prog f a w λe w=>e=.returned v/\Fit z (cQ l) w
abbrev c1_{α:Type}(f:FuncId)(a:Array Value)(w z:World)(v:Value)(l:α->List M5):Prop:=Calls Tryz.prog f a w λe w=>∃x,e=.returned v/\Fit z (cQ (l x)) w
abbrev c2_{α β:Type}(f:FuncId)(a:Array Value)(w z:World)(v:Value)(l:α->β->List M5):Prop:=Calls Tryz.prog f a w λe w=>∃x y,e=.returned v/\Fit z (cQ (l x y)) w
abbrev c4_{α β γ δ:Type}(f:FuncId)(a:Array Value)(w z:World)(v:Value)(l:α->β->γ->δ->List M5):Prop:=Calls Tryz.prog f a w λe w=>∃x y x' y',e=.returned v/\Fit z (cQ (l x y x' y')) w
abbrev aa9 (p:af) (i:Int):aO:={MT p i with ag:=wi ((MT p i).ag+1)}
abbrev agd (p:af) (i:Int):ax:=ag p.code (MT p i).fn.toNat
abbrev acD (p:af) (i:Int):bC:=ag (agd p i).Code (MT p i).ag.toNat
abbrev agf (p:af) (i:Int) (a:aO):=p.ak.set (MR p i).an.toNat a
def eU(p0:bY):Option (Bool):=
 (if p0.cO<1 then some true else(if p0.cO>4096 then some true else(if p0.bD<1 then some true else(if p0.bD>p0.gK then some true else some (decide (p0.gK>4096))))))
abbrev Zy:List Value:=[U,U]
theorem RZ{p0:bY}{r0:Bool}(H:eU p0=some r0)(h:ft_ z (L) w) :
 c0_ 47 #[O7 p0] w z (vB r0) (L):=by
 unfold eU at H;refine ke Tryz.func47 28 rfl λj=>ks<|kN h (Pb p0) 27 λb1 w h=>ko [U]<|kn<|ks<|ko [U]<|kL h 0<|ko [vB (decide (p0.cO<1)),vB (decide (p0.cO<1))]<|qI H (λc2 H=>?_) λc2 H=>?_
 ·refine Nh (dT c2) [7,8,9]<|PT (dT c2) (vB true)<|ko [U]<|Nh (rfl:true=true) [12,13,14]<|ko Zy<|Nh (rfl:true=true) [17,18,19,20,21]<|ko Zy<|Nh (rfl:true=true) [24,25,26]<|ko Zy<|kn<|wr<|?_;cases H;exact Ox (h.se 1 [])
 refine Nl (dF c2) [7] [pA b1 0]<|Q7 (dF c2) h 0<|Nl (dF c2) [9] [vB (decide (p0.cO>4096))]<|PM (dF c2) (vB (decide (p0.cO>4096)))<|ko [vB (decide (p0.cO>4096))]<|qI H (λc3 H=>?_) λc3 H=>?_
 ·refine Nh (dT c3) [12,13,14]<|PT (dT c3) (vB true)<|ko [U]<|Nh (rfl:true=true) [17,18,19,20,21]<|ko Zy<|Nh (rfl:true=true) [24,25,26]<|ko Zy<|kn<|wr<|?_;cases H;exact Ox (h.se 1 [])
 refine Nl (dF c3) [12] [pA b1 1]<|Q7 (dF c3) h 1<|Nl (dF c3) [14] [vB (decide (p0.bD<1))]<|PM (dF c3) (vB (decide (p0.bD<1)))<|ko [vB (decide (p0.bD<1))]<|qI H (λc4 H=>?_) λc4 H=>?_
 ·refine Nh (dT c4) [17,18,19,20,21]<|PT (dT c4) (vB true)<|ko [U]<|Nh (rfl:true=true) [24,25,26]<|ko Zy<|kn<|wr<|?_;cases H;exact Ox (h.se 1 [])
 refine Nl (dF c4) [17] [pA b1 1]<|Q7 (dF c4) h 1<|Nl (dF c4) [19] [pA b1 2]<|Q7 (dF c4) h 2<|Nl (dF c4) [21] [vB (decide (p0.bD>p0.gK))]<|PM (dF c4) (vB (decide (p0.bD>p0.gK)))<|ko [vB (decide (p0.bD>p0.gK))]<|qI H (λc5 H=>?_) λc5 H=>?_
 ·refine Nh (dT c5) [24,25,26]<|PT (dT c5) (vB true)<|ko [U]<|kn<|wr<|?_;cases H;exact Ox (h.se 1 [])
 refine Nl (dF c5) [24] [pA b1 2]<|Q7 (dF c5) h 2<|Nl (dF c5) [26] [vB (decide (p0.gK>4096))]<|PM (dF c5) (vB (decide (p0.gK>4096)))<|ko [vB (decide (p0.gK>4096))]<|kn<|wr<|?_;cases H;exact Ox (h.se 1 [])
def dS(K:Nat)(p1:Int):Nat->Int->Int->Option (Int)
 | 0,_,_=>none
 | k1+1,g1,g2=>(if g2<p1 then(dS K p1 k1 (wi ((wi (g1+1))+(if p1<(wi ((2:Int)*g2))then p1 else(wi ((2:Int)*g2))))) (if p1<(wi ((2:Int)*g2))then p1 else(wi ((2:Int)*g2))))else some g1)
def iO(K:Nat)(p0:Int)(p1:Int):Option (Int):=
 (dS K p1 K (wi ((4:Int)+p0)) p0)
def ku(K:Nat)(p0:Int)(p1:bY):Option (Int):=
 kQ ((if p0<1 then some (.inr 0)else(if p0>64 then some (.inr 0)else bH (eU p1) (λr6=>(if r6=true then some (.inr 0)else some (.inl ())))))) (bH (iO K p1.bD p1.gK) (λr9=>some (wi ((wi ((wi ((wi ((2:Int)+(wi (p1.cO*10))))+2))+p0))+(wi (p0*r9))))))
def oK(p0:Int):Option (Bool):=
 (if p0>=0 then some (decide (p0<=1048576))else some false)
theorem Ul{p0:Int}{r0:Bool}(H:oK p0=some r0)(h:ft_ z (L) w) :
 c0_ 46 #[vI p0] w z (vB r0) (L):=by
 unfold oK at H;refine ke Tryz.func46 9 rfl λj=>ks<|ko [U]<|kn<|ks<|ko [U,vB (decide (p0>=0)),vB (decide (p0>=0))]<|qI H (λc1 H=>?_) λc1 H=>?_
 ·refine Nl (dT c1) [6,7] [vI p0,vB (decide (p0<=1048576))]<|PT (dT c1) (vB (decide (p0<=1048576)))<|ko [vB (decide (p0<=1048576))]<|kn<|wr<|?_;cases H;exact Ox h
 refine Nh (dF c1) [6,7]<|PM (dF c1) (vB false)<|ko [U]<|kn<|wr<|?_;cases H;exact Ox h
def pU(p0:Int):Option ((Option ae)×Int):=
 bH (oK p0) (λr1=>(if r1=true then some (some (⟨p0,0,([]:List Int),([]:List az),0,false⟩:ae),0)else some (none,3)))
abbrev mT:List Value:=[U,U,U]
abbrev aa8 (B:Nat) (S:ae) (a:Option Addr) (c:Nat) (d:Option Addr) (e:Nat) (L:List M5):List M5:=Ny B S a c d e::OO a c S.cell::Nd d e S.log::L
theorem W8{p0 r1:Int}{r0:ae}(H:pU p0=some ((some r0),r1))(h:ft_ z (L) w) :
 Calls Tryz.prog 14 #[vI p0] w λe w=>∃Bn0 y1 y2 y3 y4,e=.returned (.tuple #[pA Bn0 0,vI r1])/\Fit z (cQ (aa8 Bn0 r0 y1 y2 y3 y4 L)) w:=by
 unfold pU at H;refine ke Tryz.func14 11 rfl λj=>ks<|ko Zy<|kn<|wq<|ks<|Oj H λr1 e2 H=>ko [U]<|N5 (Ul (H:=e2) (h:=h) :) λw h=>ko [vB (!r1)]<|kn<|Vb H (λc3 H=>?_) λc3 H=>?_
 ·refine wk<|tn<|ks<|ko mT<|kN h (#[vI p0,vI 0,.slice none 0 0,.slice none 0 0,vI 0,vB false]) 92 λb4 w h=>ko Zy<|kn<|wr<|λ_ r=>afp (pA b4 0) (vI 0) rfl r<|?_;replace h:=h.ua (e:=2) (sz:=1) (enc:=oE);replace h:=h.ua (e:=159) (sz:=6) (enc:=Ot);cases H;exact⟨b4,none,0,none,0,rfl,h.se 3 [2,1,0]⟩
 refine ks<|ko Zy<|kn<|wr<|tr<|λ_ r=>afp pN (vI 3) rfl r<|?_;cases H
theorem W9{p0 r1:Int}(H:pU p0=some (none,r1))(h:ft_ z (L) w) :
 c0_ 14 #[vI p0] w z (.tuple #[pN,vI r1]) (L):=by
 unfold pU at H;refine ke Tryz.func14 11 rfl λj=>ks<|ko Zy<|kn<|wq<|ks<|Oj H λr1 e2 H=>ko [U]<|N5 (Ul (H:=e2) (h:=h) :) λw h=>ko [vB (!r1)]<|kn<|Vb H (λc3 H=>?_) λc3 H=>?_
 ·refine wk<|tn<|ks<|ko mT<|kN h (#[vI p0,vI 0,.slice none 0 0,.slice none 0 0,vI 0,vB false]) 92 λb4 w h=>ko Zy<|kn<|wr<|λ_ r=>afp (pA b4 0) (vI 0) rfl r<|?_;replace h:=h.ua (e:=2) (sz:=1) (enc:=oE);replace h:=h.ua (e:=159) (sz:=6) (enc:=Ot);cases H
 refine ks<|ko Zy<|kn<|wr<|tr<|?_;cases H;exact Zf h
def ei(p0:ax):Option (Bool):=
 kQ ((if p0.MW<0 then some (.inr false)else(if p0.MW>8 then some (.inr false)else(if p0.dA<1 then some (.inr false)else(if p0.dA<p0.MW then some (.inr false)else(if p0.dA>16 then some (.inr false)else some (.inl ()))))))) ((if p0.cA>=0 then(if p0.cA<=8 then(if((p0.Code.length:Nat):Int)>=1 then some (decide (((p0.Code.length:Nat):Int)<=512))else some false)else some false)else some false))
theorem Q8{p0:ax}{M1:Option Addr}{M8:Nat}{r0:Bool}(H:ei p0=some r0)(h:ft_ z (L) w)(Ni:jJ L 5 gJ M1 p0.Code) :
 c0_ 68 #[.agg #[vI p0.MW,vI p0.dA,vI p0.cA,.slice M1 p0.Code.length M8]] w z (vB r0) (L):=by
 unfold ei at H;refine ke Tryz.func68 48 rfl λj=>ks<|kN h (#[vI p0.MW,vI p0.dA,vI p0.cA,.slice M1 p0.Code.length M8]) 99 λb1 w h=>ko [U]<|kn<|?_;obtain⟨o3,H,VB⟩:=U3 H;refine λ_ r=>Nn (β:=Unit) (λ_ a w=>.inl ()=o3/\∃j,Gk 48 (lk [(1,pA b1 0)] j) a/\Fit z (cQ (Qd b1 p0 M1 M8::L)) w) ?_ ?_
 ·refine qq r<|ks<|ko [U]<|kL h 0<|ko [vB (decide (p0.MW<0)),vB (decide (p0.MW<0))]<|qI H (λc4 H=>?_) λc4 H=>?_
  ·refine Nh (dT c4) [7,8,9]<|PT (dT c4) (vB true)<|ko [U]<|Nh (rfl:true=true) [12,13,14]<|ko Zy<|Nh (rfl:true=true) [17,18,19,20,21]<|ko Zy<|Nh (rfl:true=true) [24,25,26]<|ko [U]<|kn<|λ_ r=>Oh r (b:=true) rfl<|qq r<|ks<|ko [U]<|kn<|wr<|tr<|λ_ r=>afn (vB false) rfl r<|?_;replace H:=Q6 H VB;cases H;exact⟨rfl,h.se 1 []⟩
  refine Nl (dF c4) [7] [pA b1 0]<|Q7 (dF c4) h 0<|Nl (dF c4) [9] [vB (decide (p0.MW>8))]<|PM (dF c4) (vB (decide (p0.MW>8)))<|ko [vB (decide (p0.MW>8))]<|qI H (λc5 H=>?_) λc5 H=>?_
  ·refine Nh (dT c5) [12,13,14]<|PT (dT c5) (vB true)<|ko [U]<|Nh (rfl:true=true) [17,18,19,20,21]<|ko Zy<|Nh (rfl:true=true) [24,25,26]<|ko [U]<|kn<|λ_ r=>Oh r (b:=true) rfl<|qq r<|ks<|ko [U]<|kn<|wr<|tr<|λ_ r=>afn (vB false) rfl r<|?_;replace H:=Q6 H VB;cases H;exact⟨rfl,h.se 1 []⟩
  refine Nl (dF c5) [12] [pA b1 1]<|Q7 (dF c5) h 1<|Nl (dF c5) [14] [vB (decide (p0.dA<1))]<|PM (dF c5) (vB (decide (p0.dA<1)))<|ko [vB (decide (p0.dA<1))]<|qI H (λc6 H=>?_) λc6 H=>?_
  ·refine Nh (dT c6) [17,18,19,20,21]<|PT (dT c6) (vB true)<|ko [U]<|Nh (rfl:true=true) [24,25,26]<|ko [U]<|kn<|λ_ r=>Oh r (b:=true) rfl<|qq r<|ks<|ko [U]<|kn<|wr<|tr<|λ_ r=>afn (vB false) rfl r<|?_;replace H:=Q6 H VB;cases H;exact⟨rfl,h.se 1 []⟩
  refine Nl (dF c6) [17] [pA b1 1]<|Q7 (dF c6) h 1<|Nl (dF c6) [19] [pA b1 0]<|Q7 (dF c6) h 0<|Nl (dF c6) [21] [vB (decide (p0.dA<p0.MW))]<|PM (dF c6) (vB (decide (p0.dA<p0.MW)))<|ko [vB (decide (p0.dA<p0.MW))]<|qI H (λc7 H=>?_) λc7 H=>?_
  ·refine Nh (dT c7) [24,25,26]<|PT (dT c7) (vB true)<|kn<|λ_ r=>Oh r (b:=true) rfl<|qq r<|ks<|ko [U]<|kn<|wr<|tr<|λ_ r=>afn (vB false) rfl r<|?_;replace H:=Q6 H VB;cases H;exact⟨rfl,h.se 1 []⟩
  refine Nl (dF c7) [24] [pA b1 1]<|Q7 (dF c7) h 1<|Nl (dF c7) [26] [vB (decide (p0.dA>16))]<|PM (dF c7) (vB (decide (p0.dA>16)))<|kn<|NN H (λc8 H=>?_) λc8 H=>?_
  ·refine ks<|ko [U]<|kn<|wr<|tr<|λ_ r=>afn (vB false) rfl r<|?_;replace H:=Q6 H VB;cases H;exact⟨rfl,h.se 1 []⟩
  refine wk<|tn<|?_;exact λ_ r=>⟨(),On H,r.fj h⟩
 clear h r;rintro _ a w ⟨rfl,j,r,h⟩;replace H:=U4 VB;refine qq r<|ks<|ko [U]<|kL h 2<|ko [vB (decide (p0.cA>=0)),vB (decide (p0.cA>=0))]<|qI H (λc9 H=>?_) λc9 H=>?_
 ·refine Nl (dT c9) [32] [pA b1 2]<|Q7 (dT c9) h 2<|Nl (dT c9) [34] [vB (decide (p0.cA<=8))]<|PT (dT c9) (vB (decide (p0.cA<=8)))<|ko [vB (decide (p0.cA<=8))]<|qI H (λPX H=>?_) λPX H=>?_
  ·refine Nl (dT PX) [37] [pA b1 3]<|Q7 (dT PX) h 3<|Nl (dT PX) [39,40] [vI ((p0.Code.length:Nat):Int),vB (decide (((p0.Code.length:Nat):Int)>=1))]<|PT (dT PX) (vB (decide (((p0.Code.length:Nat):Int)>=1)))<|ko [vB (decide (((p0.Code.length:Nat):Int)>=1))]<|qI H (λRg H=>?_) λRg H=>?_
   ·refine Nl (dT Rg) [43] [pA b1 3]<|Q7 (dT Rg) h 3<|Nl (dT Rg) [45,46] [vI ((p0.Code.length:Nat):Int),vB (decide (((p0.Code.length:Nat):Int)<=512))]<|PT (dT Rg) (vB (decide (((p0.Code.length:Nat):Int)<=512)))<|ko [vB (decide (((p0.Code.length:Nat):Int)<=512))]<|kn<|wr<|?_;cases H;exact Ox (h.se 1 [])
   refine Nh (dF Rg) [43,44,45,46]<|PM (dF Rg) (vB false)<|ko [U]<|kn<|wr<|?_;cases H;exact Ox (h.se 1 [])
  refine Nh (dF PX) [37,38,39,40]<|PM (dF PX) (vB false)<|ko [U]<|Nh (rfl:false=false) [43,44,45,46]<|ko Zy<|kn<|wr<|?_;cases H;exact Ox (h.se 1 [])
 refine Nh (dF c9) [32,33,34]<|PM (dF c9) (vB false)<|ko [U]<|Nh (rfl:false=false) [37,38,39,40]<|ko Zy<|Nh (rfl:false=false) [43,44,45,46]<|ko Zy<|kn<|wr<|?_;cases H;exact Ox (h.se 1 [])
def cH(p0:Int)(p1:Int):Option (Bool):=
 (if p0>=0 then some (decide (p0<p1))else some false)
theorem OE{p0 p1:Int}{r0:Bool}(H:cH p0 p1=some r0)(h:ft_ z (L) w) :
 c0_ 110 #[vI p0,vI p1] w z (vB r0) (L):=by
 unfold cH at H;refine ke Tryz.func110 12 rfl λj=>ks<|ko [U]<|kn<|ks<|ko [U,vB (decide (p0>=0)),vB (decide (p0>=0))]<|qI H (λc1 H=>?_) λc1 H=>?_
 ·refine Nl (dT c1) [8,9,10] [vI p0,vI p1,vB (decide (p0<p1))]<|PT (dT c1) (vB (decide (p0<p1)))<|ko [vB (decide (p0<p1))]<|kn<|wr<|?_;cases H;exact Ox h
 refine Nh (dF c1) [8,9,10]<|PM (dF c1) (vB false)<|ko [U]<|kn<|wr<|?_;cases H;exact Ox h
def gR(p0:ax)(p1:bC):Option (Bool):=
 bH (cH p1.A p0.dA) (λr3=>bH (cH p1.B p0.dA) (λr5=>bH ((if p1.aQ=0 then some (p1.aQ==0)else(if p1.aQ=8 then some (p1.aQ==8)else some (p1.aQ==9)))) (λg7=>(if g7=true then some r3 else(if p1.aQ=1 then(if r3=true then some r5 else some false)else(if p1.aQ=2 then(if r3=true then(if r5=true then bH (cH p1.C p0.dA) (λlM=>(if lM=true then(if p1.K>=0 then some (decide (p1.K<16))else some false)else some false))else some false)else some false)else(if p1.aQ=3 then bH (cH p1.A ((p0.Code.length:Nat):Int)) (λlQ=>some lQ)else(if p1.aQ=4 then(if r3=true then bH (cH p1.B ((p0.Code.length:Nat):Int)) (λAY=>some AY)else some false)else(if p1.aQ=5 then bH (cH p1.A p0.cA) (λsM=>some sM)else(if p1.aQ=6 then some true else(if p1.aQ=7 then(if r3=true then bH (cH p1.B p0.cA) (λug=>some ug)else some false)else some false)))))))))))
theorem Qs{p0:ax}{p1:bC}{M1:Option Addr}{M8:Nat}{r0:Bool}(H:gR p0 p1=some r0)(h:ft_ z (L) w)(Ni:jJ L 5 gJ M1 p0.Code) :
 c0_ 69 #[.agg #[vI p0.MW,vI p0.dA,vI p0.cA,.slice M1 p0.Code.length M8],OQ p1] w z (vB r0) (L):=by
 unfold gR at H;refine ke Tryz.func69 91 rfl λj=>ks<|kN h (#[vI p0.MW,vI p0.dA,vI p0.cA,.slice M1 p0.Code.length M8]) 99 λb1 w h=>kN h (PD p1) 146 λb2 w h=>ko [U]<|kn<|ks<|ko [U]<|kL h 1<|ko [U]<|kL (h.pick 1) 1<|Oj H λr3 e4 H=>N5 (OE (H:=e4) (h:=h) :) λw h=>ko [U]<|kn<|ks<|ko [U]<|kL h 2<|ko [U]<|kL (h.pick 1) 1<|Oj H λr5 e6 H=>N5 (OE (H:=e6) (h:=h) :) λw h=>ko [U]<|kn<|wq<|ks<|ko [U]<|kL h 0<|kn<|wb<|VA H λo9 H YL=>λ_ r=>Nn (β:=Unit) (λ_ a w=>∃g7:Bool,g7=o9/\∃j,Gk 91 (lk [(2,pA b1 0),(3,pA b2 0),(5,vB r3),(6,vB r5),(18,vI p1.aQ),(19,vB g7)] j) a/\Fit z (cQ (Qd b1 p0 M1 M8::RM b2 p1::L)) w) ?_ ?_
 ·refine qq r<|ks<|ko [vB (p1.aQ==0),vB (p1.aQ==0)]<|kn<|NN H (λPX H=>?_) λPX H=>?_
  ·refine wk<|tn<|?_;exact λ_ r=>⟨(),(p1.aQ==0),On H,r.fj (h.se 2 [1,0])⟩
  refine ks<|ko [vB (p1.aQ==8),vB (p1.aQ==8)]<|kn<|NN H (λRg H=>?_) λRg H=>?_
  ·refine wk<|tn<|?_;exact λ_ r=>⟨(),(p1.aQ==8),On H,r.fj (h.se 2 [1,0])⟩
  refine wl<|ko [vB (p1.aQ==9),vB (p1.aQ==9)]<|kn<|?_;exact λ_ r=>⟨(),(p1.aQ==9),On H,r.fj (h.se 2 [1,0])⟩
 clear h r;rintro _ a w ⟨g7,rfl,j,r,h⟩;replace H:=Vy YL;refine qq r<|V4 H (λUm H=>?_) λUm H=>?_
 ·refine ks<|ko Zy<|kn<|wr<|br<|tr<|?_;cases H;exact Ox (h.se 2 [])
 refine ks<|ko [vB (p1.aQ==1),vB (p1.aQ==1)]<|kn<|NN H (λSC H=>?_) λSC H=>?_
 ·refine ks<|ko Zy<|qI H (λRE H=>?_) λRE H=>?_
  ·refine Nl (RE) [28] [vB r5]<|PT (RE) (vB r5)<|ko [U]<|kn<|wr<|br<|tr<|?_;cases H;exact Ox (h.se 2 [])
  refine Nh (bF RE) [28]<|PM (bF RE) (vB false)<|ko [U]<|kn<|wr<|br<|tr<|?_;cases H;exact Ox (h.se 2 [])
 refine ks<|ko [vB (p1.aQ==2),vB (p1.aQ==2)]<|kn<|NN H (λQb H=>?_) λQb H=>?_
 ·refine ks<|ko Zy<|qI H (λR0 H=>?_) λR0 H=>?_
  ·refine Nl (R0) [34] [vB r5]<|PT (R0) (vB r5)<|ko [U]<|qI H (λTY H=>?_) λTY H=>?_
   ·refine Nl (TY) [37] [pA b2 3]<|λ_ r=>ld (PB r (TY)) r (vI p1.C) ((h.pick 1).cell 3 rfl)<|?_;refine Nl (TY) [39] [pA b1 1]<|λ_ r=>ld (PB r (TY)) r (vI p0.dA) (h.cell 1 rfl)<|?_;refine Oj H λlM XA H=>?_;have hc:=OE (H:=XA) (h:=h);intro _ r;refine cl (PB r (TY)) r hc ?_;clear hc h;rintro _ w ⟨rfl,h⟩;refine⟨_,rfl,?_⟩;refine PT (TY) (vB lM)<|ko [U]<|qI H (λPx H=>?_) λPx H=>?_
    ·refine Nl (Px) [44] [pA b2 4]<|λ_ r=>ld (PB r (Px)) r (vI p1.K) ((h.pick 1).cell 4 rfl)<|?_;refine Nl (Px) [46] [vB (decide (p1.K>=0))]<|PT (Px) (vB (decide (p1.K>=0)))<|ko [vB (decide (p1.K>=0))]<|qI H (λQt H=>?_) λQt H=>?_
     ·refine Nl (dT Qt) [49] [pA b2 4]<|Q7 (dT Qt) (h.pick 1) 4<|Nl (dT Qt) [51] [vB (decide (p1.K<16))]<|PT (dT Qt) (vB (decide (p1.K<16)))<|ko [vB (decide (p1.K<16))]<|kn<|wr<|br<|tr<|?_;cases H;exact Ox (h.se 2 [])
     refine Nh (dF Qt) [49,50,51]<|PM (dF Qt) (vB false)<|ko [U]<|kn<|wr<|br<|tr<|?_;cases H;exact Ox (h.se 2 [])
    refine Nh (bF Px) [44,45,46]<|PM (bF Px) (vB false)<|ko [U]<|Nh (rfl:false=false) [49,50,51]<|ko Zy<|kn<|wr<|br<|tr<|?_;cases H;exact Ox (h.se 2 [])
   refine Nh (bF TY) [37,38,39,40,41]<|PM (bF TY) (vB false)<|ko [U]<|Nh (rfl:false=false) [44,45,46]<|ko Zy<|Nh (rfl:false=false) [49,50,51]<|ko Zy<|kn<|wr<|br<|tr<|?_;cases H;exact Ox (h.se 2 [])
  refine Nh (bF R0) [34]<|PM (bF R0) (vB false)<|ko [U]<|Nh (rfl:false=false) [37,38,39,40,41]<|ko Zy<|Nh (rfl:false=false) [44,45,46]<|ko Zy<|Nh (rfl:false=false) [49,50,51]<|ko Zy<|kn<|wr<|br<|tr<|?_;cases H;exact Ox (h.se 2 [])
 refine ks<|ko [vB (p1.aQ==3),vB (p1.aQ==3)]<|kn<|NN H (λUn H=>?_) λUn H=>?_
 ·refine ks<|ko [U]<|kL (h.pick 1) 1<|ko [U]<|kL h 3<|Oj H λlQ e24 H=>ko [vI ((p0.Code.length:Nat):Int)]<|N5 (OE (H:=e24) (h:=h) :) λw h=>ko [U]<|kn<|wr<|br<|tr<|?_;cases H;exact Ox (h.se 2 [])
 refine ks<|ko [vB (p1.aQ==4),vB (p1.aQ==4)]<|kn<|NN H (λSD H=>?_) λSD H=>?_
 ·refine ks<|ko Zy<|qI H (λTs H=>?_) λTs H=>?_
  ·refine Nl (Ts) [65] [pA b2 2]<|λ_ r=>ld (PB r (Ts)) r (vI p1.B) ((h.pick 1).cell 2 rfl)<|?_;refine Nl (Ts) [67] [pA b1 3]<|λ_ r=>ld (PB r (Ts)) r (.slice M1 p0.Code.length M8) (h.cell 3 rfl)<|?_;refine Oj H λAY BA H=>Nl (Ts) [69] [vI ((p0.Code.length:Nat):Int)]<|?_;have hc:=OE (H:=BA) (h:=h);intro _ r;refine cl (PB r (Ts)) r hc ?_;clear hc h;rintro _ w ⟨rfl,h⟩;refine⟨_,rfl,?_⟩;refine PT (Ts) (vB AY)<|ko [U]<|kn<|wr<|br<|tr<|?_;cases H;exact Ox (h.se 2 [])
  refine Nh (bF Ts) [65,66,67,68,69,70]<|PM (bF Ts) (vB false)<|ko [U]<|kn<|wr<|br<|tr<|?_;cases H;exact Ox (h.se 2 [])
 refine ks<|ko [vB (p1.aQ==5),vB (p1.aQ==5)]<|kn<|NN H (λUo H=>?_) λUo H=>?_
 ·refine ks<|ko [U]<|kL (h.pick 1) 1<|ko [U]<|kL h 2<|Oj H λsM e31 H=>N5 (OE (H:=e31) (h:=h) :) λw h=>ko [U]<|kn<|wr<|br<|tr<|?_;cases H;exact Ox (h.se 2 [])
 refine ks<|ko [vB (p1.aQ==6),vB (p1.aQ==6)]<|kn<|NN H (λUO H=>?_) λUO H=>?_
 ·refine ks<|ko [U]<|kn<|wr<|br<|tr<|?_;cases H;exact Ox (h.se 2 [])
 refine ks<|ko [vB (p1.aQ==7),vB (p1.aQ==7)]<|kn<|NN H (λSs H=>?_) λSs H=>?_
 ·refine ks<|ko Zy<|qI H (λUC H=>?_) λUC H=>?_
  ·refine Nl (UC) [85] [pA b2 2]<|λ_ r=>ld (PB r (UC)) r (vI p1.B) ((h.pick 1).cell 2 rfl)<|?_;refine Nl (UC) [87] [pA b1 2]<|λ_ r=>ld (PB r (UC)) r (vI p0.cA) (h.cell 2 rfl)<|?_;refine Oj H λug e36 H=>?_;have hc:=OE (H:=e36) (h:=h);intro _ r;refine cl (PB r (UC)) r hc ?_;clear hc h;rintro _ w ⟨rfl,h⟩;refine⟨_,rfl,?_⟩;refine PT (UC) (vB ug)<|ko [U]<|kn<|wr<|br<|tr<|?_;cases H;exact Ox (h.se 2 [])
  refine Nh (bF UC) [85,86,87,88,89]<|PM (bF UC) (vB false)<|ko [U]<|kn<|wr<|br<|tr<|?_;cases H;exact Ox (h.se 2 [])
 refine wk<|bn<|tn<|ks<|ko [U]<|kn<|wr<|?_;cases H;exact Ox (h.se 2 [])
def iJ(p0:ay)(p1:ax)(p2:bC):Option (Bool):=
 (if p2.aQ=5 then bH (cH p2.B ((p0.aB.length:Nat):Int)) (λr5=>(if r5=true then if aZ p2.B p0.aB.length then(if(ag p0.aB p2.B.toNat).MW=0 then some true else bH (cH p2.C p1.dA) (λsN=>(if sN=true then some (decide ((ag p0.aB p2.B.toNat).MW<=(wi (p1.dA-p2.C))))else some false)))else none else some false))else some true)
theorem Tf{p0:ay}{p1:ax}{p2:bC}{M2 Nk:Option Addr}{Na Np:Nat}{MV:Nat->Option Addr×Nat}{r0:Bool}(H:iJ p0 p1 p2=some r0)(h:ft_ z (L) w)(MY:T3 L M2 MV p0.aB)(NP:jJ L 5 gJ Nk p1.Code) :
 c0_ 70 #[.agg #[.slice M2 p0.aB.length Na],.agg #[vI p1.MW,vI p1.dA,vI p1.cA,.slice Nk p1.Code.length Np],OQ p2] w z (vB r0) (L):=by
 unfold iJ at H;refine ke Tryz.func70 43 rfl λj=>ks<|kN h (#[.slice M2 p0.aB.length Na]) 24 λb1 w h=>kN h (#[vI p1.MW,vI p1.dA,vI p1.cA,.slice Nk p1.Code.length Np]) 99 λb2 w h=>kN h (PD p2) 146 λb3 w h=>ko [U]<|kn<|wq<|ks<|ko [U]<|kL h 0<|ko [vB (p2.aQ != 5)]<|kn<|Qf H (λc4 H=>?_) λc4 H=>?_
 ·refine wk<|tn<|wq<|ks<|ko [U]<|kL h 2<|ko [U]<|kL (h.pick 2) 0<|Oj H λr5 e6 H=>ko [vI ((p0.aB.length:Nat):Int)]<|N5 (OE (H:=e6) (h:=h) :) λw h=>ko [vB (!r5)]<|kn<|Vb H (λc7 H=>?_) λc7 H=>?_
  ·refine wk<|tn<|ks<|ko [U]<|kL (h.pick 2) 0<|ko [U]<|kL h 2<|qg H λc8 H=>kp (pA (Cp M2) (sJ M2+p2.B.toNat*4)) (afq 99 Na rfl rfl MY c8)<|ko [U]<|λ_ r=>ld (wn rfl) r (vI (ag p0.aB p2.B.toNat).MW) (MY.cell c8 (h.dn 3) 0 rfl)<|?_;refine ko [U]<|kn<|ks<|ko [U,vB ((ag p0.aB p2.B.toNat).MW==0),vB ((ag p0.aB p2.B.toNat).MW==0)]<|qI H (λc9 H=>?_) λc9 H=>?_
   ·refine Nh (beq_iff_eq.mpr c9) [28,29,30,31,32,33]<|Wi true [34,35,36,37,38,39,40]<|Nh (beq_iff_eq.mpr c9) [41]<|PT (beq_iff_eq.mpr c9) (vB true)<|ko [U]<|kn<|wr<|?_;cases H;exact Ox (h.se 3 [])
   refine Nl (bN c9) [28] [pA b3 3]<|Q7 (bN c9) h 3<|Nl (bN c9) [30] [pA b2 1]<|Q7 (bN c9) (h.pick 1) 1<|Oj H λsN e11 H=>xg0 (bN c9) (OE (H:=e11) (h:=h) :) λw h=>Nl (bN c9) [33] [vB sN]<|qI H (λUm H=>?_) λUm H=>?_
   ·refine Nl (Um) [34,35] [vI (ag p0.aB p2.B.toNat).MW,pA b2 1]<|λ_ r=>ld (PB r (Um)) r (vI p1.dA) ((h.pick 1).cell 1 rfl)<|?_;refine Nl (Um) [37] [pA b3 3]<|λ_ r=>ld (PB r (Um)) r (vI p2.C) (h.cell 3 rfl)<|?_;refine Nl (Um) [39,40] [vI (wi (p1.dA-p2.C)),vB (decide ((ag p0.aB p2.B.toNat).MW<=(wi (p1.dA-p2.C))))]<|λ_ r=>Y0 (PB r (bN c9)) r (vB (decide ((ag p0.aB p2.B.toNat).MW<=(wi (p1.dA-p2.C))))) (W5 (b:=sN) rfl (by kernel_rfl) (Um) (by kernel_rfl))<|?_;refine PM (bN c9) (vB (decide ((ag p0.aB p2.B.toNat).MW<=(wi (p1.dA-p2.C)))))<|ko [vB (decide ((ag p0.aB p2.B.toNat).MW<=(wi (p1.dA-p2.C))))]<|kn<|wr<|?_;cases H;exact Ox (h.se 3 [])
   refine Nh (bF Um) [34,35,36,37,38,39,40]<|λ_ r=>Y0 (PB r (bN c9)) r (vB false) (XH (b:=sN) rfl (by kernel_rfl) (bF Um) (by kernel_rfl))<|?_;refine PM (bN c9) (vB false)<|ko [U]<|kn<|wr<|?_;cases H;exact Ox (h.se 3 [])
  refine ks<|ko [U]<|kn<|wr<|tr<|?_;cases H;exact Ox (h.se 3 [])
 refine ks<|ko [U]<|kn<|wr<|tr<|?_;cases H;exact Ox (h.se 3 [])
def gj(p0:ax):Option (Bool):=
 if aZ (wi (((p0.Code.length:Nat):Int)-1)) p0.Code.length then(if(ag p0.Code (wi (((p0.Code.length:Nat):Int)-1)).toNat).aQ=3 then some true else some ((ag p0.Code (wi (((p0.Code.length:Nat):Int)-1)).toNat).aQ==9))else none
theorem Rv{p0:ax}{M1:Option Addr}{M8:Nat}{r0:Bool}(H:gj p0=some r0)(h:ft_ z (L) w)(Ni:jJ L 5 gJ M1 p0.Code) :
 c0_ 71 #[.agg #[vI p0.MW,vI p0.dA,vI p0.cA,.slice M1 p0.Code.length M8]] w z (vB r0) (L):=by
 unfold gj at H;refine ke Tryz.func71 19 rfl λj=>ks<|kN h (#[vI p0.MW,vI p0.dA,vI p0.cA,.slice M1 p0.Code.length M8]) 99 λb1 w h=>ko [U]<|kn<|ks<|ko [U]<|kL h 3<|ko [U]<|kL h 3<|qg H λc2 H=>ko [vI ((p0.Code.length:Nat):Int),vI (wi (((p0.Code.length:Nat):Int)-1))]<|kj 146 M8 Ni c2<|ko [pA (Cp M1) (sJ M1+(wi (((p0.Code.length:Nat):Int)-1)).toNat*5)]<|λ_ r=>ld (wn rfl) r (vI (ag p0.Code (wi (((p0.Code.length:Nat):Int)-1)).toNat).aQ) (Ni.cell c2 (h.dn 1) 0 rfl)<|?_;refine ko [vI (ag p0.Code (wi (((p0.Code.length:Nat):Int)-1)).toNat).aQ]<|kn<|ks<|ko [vI (ag p0.Code (wi (((p0.Code.length:Nat):Int)-1)).toNat).aQ,vB ((ag p0.Code (wi (((p0.Code.length:Nat):Int)-1)).toNat).aQ==3),vB ((ag p0.Code (wi (((p0.Code.length:Nat):Int)-1)).toNat).aQ==3)]<|qI H (λc3 H=>?_) λc3 H=>?_
 ·refine Nh (beq_iff_eq.mpr c3) [16,17]<|PT (beq_iff_eq.mpr c3) (vB true)<|ko [U]<|kn<|wr<|?_;cases H;exact Ox (h.se 1 [])
 refine Nl (bN c3) [16,17] [vI (ag p0.Code (wi (((p0.Code.length:Nat):Int)-1)).toNat).aQ,vB ((ag p0.Code (wi (((p0.Code.length:Nat):Int)-1)).toNat).aQ==9)]<|PM (bN c3) (vB ((ag p0.Code (wi (((p0.Code.length:Nat):Int)-1)).toNat).aQ==9))<|ko [vB ((ag p0.Code (wi (((p0.Code.length:Nat):Int)-1)).toNat).aQ==9)]<|kn<|wr<|?_;cases H;exact Ox (h.se 1 [])
def eC(K:Nat)(p0:ax):Nat->Int->Option (Bool)
 | 0,_=>none
 | k1+1,g5=>(if g5<((p0.Code.length:Nat):Int)then if aZ g5 p0.Code.length then bH (gR p0 (ag p0.Code g5.toNat)) (λr8=>(if r8=true then(eC K p0 k1 (wi (g5+1)))else some false))else none else bH (gj p0) (λpq=>some pq))
def Qp(K:Nat)(p0:ax):Option (Bool):=
 bH (ei p0) (λr2=>(if r2=true then(eC K p0 K 0)else some false))
theorem TA{K:Nat}{p0:ax}{M1:Option Addr}{M8:Nat}{r0:Bool}(H:Qp K p0=some r0)(h:ft_ z (L) w)(Ni:jJ L 5 gJ M1 p0.Code) :
 c0_ 111 #[.agg #[vI p0.MW,vI p0.dA,vI p0.cA,.slice M1 p0.Code.length M8]] w z (vB r0) (L):=by
 unfold Qp at H;refine ke Tryz.func111 26 rfl λj=>ks<|kN h (#[vI p0.MW,vI p0.dA,vI p0.cA,.slice M1 p0.Code.length M8]) 99 λb1 w h=>ko [U]<|kn<|wq<|ks<|kM h<|Oj H λr2 e3 H=>N5 (Q8 (M1:=M1) (M8:=M8) (Ni:=(jJ.up 1 Ni)) (H:=e3) (h:=h) :) λw h=>ko [vB (!r2)]<|kn<|Vb H (λc4 H=>?_) λc4 H=>?_
 ·refine wk<|tn<|wq<|ks<|ko [U]<|kn<|wb<|λ_ r=>NB (β:=Nat) id (λm a w=>∃g5:Int,(eC K p0 m g5)=some r0/\∃j,Gk 26 (lk [(1,pA b1 0),(3,vI g5)] j) a/\Fit z (cQ (Qd b1 p0 M1 M8::L)) w) K ⟨0,H,r.fj h⟩<|?_;clear h r H;rintro k1 a w ⟨g5,H,j,r,h⟩;cases k1 with
  | zero=>exact absurd H (by simp[eC])
  | succ k1 =>
   rw[eC]at H;refine qq r<|wq<|ks<|ko Zy<|kL h 3<|ko [vI ((p0.Code.length:Nat):Int),vB (decide (g5<((p0.Code.length:Nat):Int)))]<|kn<|NN H (λc6 H=>?_) λc6 H=>?_
   ·refine wk<|tn<|wq<|wb<|wq<|qg H λc7 H=>Oj H λr8 e9 H=>λ_ r=>Ob [(b1,0,[vI p0.MW,vI p0.dA,vI p0.cA,.slice M1 p0.Code.length M8]),(b1,3,[.slice M1 p0.Code.length M8]),(Cp M1,sJ M1+g5.toNat*5,Om (ag p0.Code g5.toNat))] [1,4] 8 h (λh=>⟨(h.held 0 rfl),⟨h.cell 3 rfl,CH⟩,⟨Ni.cell c7 (h.dn 1) 0 rfl,Ni.cell c7 (h.dn 1) 1 rfl,Ni.cell c7 (h.dn 1) 2 rfl,Ni.cell c7 (h.dn 1) 3 rfl,Ni.cell c7 (h.dn 1) 4 rfl,CH⟩,CH⟩) λw h hd =>qq r<|Oi hd 6 [(1,16,pA b1 3),(3,18,vI g5)]<|RJ hd 0 5 0 rfl rfl<|kx hd 1 4 2 rfl rfl<|eo_ hd 3 4 rfl (pA (Cp M1) (sJ M1+g5.toNat*5)) (λw=>afF 146 M8 rfl rfl Ni c7)<|RJ hd 2 2 5 rfl rfl<|λ_ r=>N3 6 rfl<|qq r<|N5 (Qs (M1:=M1) (M8:=M8) (Ni:=(jJ.up 1 Ni)) (H:=e9) (h:=h) :) λw h=>kn<|λ_ r=>xE<|qq r<|ev_ 0 7 rfl (vB r8)<|λ_ r=>O4<|qq r<|tn<|ks<|ko [U,vB (!r8)]<|kn<|Vb H (λPX H=>?_) λPX H=>?_
    ·refine wk<|bn<|tn<|wl<|ko [U,vI (wi (g5+1)),vI (wi (g5+1))]<|kn<|?_;exact λ_ r=>⟨_,⟨(wi (g5+1)),H,r.fj h⟩,afl _⟩
    refine ks<|ko [U]<|kn<|wr<|br<|tr<|tr<|br<|tr<|?_;cases H;exact Ox (h.se 1 [])
   refine wx<|te<|te<|bh<|tn<|ks<|kM h<|Oj H λpq Vd H=>N5 (Rv (M1:=M1) (M8:=M8) (Ni:=(jJ.up 1 Ni)) (H:=Vd) (h:=h) :) λw h=>ko [U]<|kn<|wr<|?_;cases H;exact Ox (h.se 1 [])
 refine ks<|ko [U]<|kn<|wr<|tr<|?_;cases H;exact Ox (h.se 1 [])
def iU(p0:bC)(p1:Int)(p2:Int):Option (Int):=
 (if p0.aQ=5 then(if p0.A=p1 then some 2 else(if p0.aQ=6 then(if p2=2 then some 4 else some p2)else some p2))else(if p0.aQ=6 then(if p2=2 then some 4 else some p2)else some p2))
theorem TB{p0:bC}{p1 p2 r0:Int}(H:iU p0 p1 p2=some r0)(h:ft_ z (L) w) :
 c0_ 166 #[OQ p0,vI p1,vI p2] w z (vI r0) (L):=by
 unfold iU at H;refine ke Tryz.func166 24 rfl λj=>ks<|kN h (PD p0) 146 λb1 w h=>ko [U]<|kn<|wq<|ks<|ko [U]<|kL h 0<|ko [vB (p0.aQ==5),vB (p0.aQ==5)]<|qI H (λc2 H=>?_) λc2 H=>?_
 ·refine Nl (beq_iff_eq.mpr c2) [11] [pA b1 1]<|λ_ r=>ld (PB r (beq_iff_eq.mpr c2)) r (vI p0.A) (h.cell 1 rfl)<|?_;refine Nl (beq_iff_eq.mpr c2) [13,14] [vI p1,vB (p0.A==p1)]<|PT (beq_iff_eq.mpr c2) (vB (p0.A==p1))<|kn<|NN H (λc3 H=>?_) λc3 H=>?_
  ·refine ks<|ko [U]<|kn<|wr<|tr<|?_;cases H;exact Ox (h.se 1 [])
  refine wk<|tn<|wq<|ks<|ko [U]<|kL h 0<|ko [vB (p0.aQ==6),vB (p0.aQ==6)]<|qI H (λc4 H=>?_) λc4 H=>?_
  ·refine Nl (beq_iff_eq.mpr c4) [20,21] [vI p2,vB (p2==2)]<|PT (beq_iff_eq.mpr c4) (vB (p2==2))<|kn<|NN H (λc5 H=>?_) λc5 H=>?_
   ·refine ks<|ko [U]<|kn<|wr<|tr<|?_;cases H;exact Ox (h.se 1 [])
   refine wk<|tn<|ks<|ko Zy<|kn<|wr<|?_;cases H;exact Ox (h.se 1 [])
  refine Nh (bN c4) [20,21]<|PM (bN c4) (vB false)<|kn<|λ_ r=>O3 r (b:=false) rfl<|qq r<|wk<|tn<|ks<|ko Zy<|kn<|wr<|?_;cases H;exact Ox (h.se 1 [])
 refine Nh (bN c2) [11,12,13,14]<|PM (bN c2) (vB false)<|kn<|λ_ r=>O3 r (b:=false) rfl<|qq r<|wk<|tn<|wq<|ks<|ko [U]<|kL h 0<|ko [vB (p0.aQ==6),vB (p0.aQ==6)]<|qI H (λc6 H=>?_) λc6 H=>?_
 ·refine Nl (beq_iff_eq.mpr c6) [20,21] [vI p2,vB (p2==2)]<|PT (beq_iff_eq.mpr c6) (vB (p2==2))<|kn<|NN H (λc7 H=>?_) λc7 H=>?_
  ·refine ks<|ko [U]<|kn<|wr<|tr<|?_;cases H;exact Ox (h.se 1 [])
  refine wk<|tn<|ks<|ko Zy<|kn<|wr<|?_;cases H;exact Ox (h.se 1 [])
 refine Nh (bN c6) [20,21]<|PM (bN c6) (vB false)<|kn<|λ_ r=>O3 r (b:=false) rfl<|qq r<|wk<|tn<|ks<|ko Zy<|kn<|wr<|?_;cases H;exact Ox (h.se 1 [])
def iV(p0:ax)(p1:Int):Option ((List Int)):=
 if aZ p1 p0.Code.length then(if(ag p0.Code p1.toNat).aQ=3 then some ([(ag p0.Code p1.toNat).A])else(if(ag p0.Code p1.toNat).aQ=9 then some ([]:List Int)else(if(ag p0.Code p1.toNat).aQ=4 then some ([wi (p1+1),(ag p0.Code p1.toNat).B])else some ([wi (p1+1)]))))else none
abbrev agJ:Array Value:=#[vI 0,vI 0,vI 0,vI 0,vI 0]
theorem TC{p0:ax}{p1:Int}{M1:Option Addr}{M8:Nat}{r0:List Int}(H:iV p0 p1=some r0)(h:ft_ z (L) w)(Ni:jJ L 5 gJ M1 p0.Code) :
 Calls Tryz.prog 167 #[.agg #[vI p0.MW,vI p0.dA,vI p0.cA,.slice M1 p0.Code.length M8],vI p1] w λe w=>∃y1 y2,e=.returned (.slice y1 r0.length y2)/\Fit z (cQ (R8 y1 y2 r0::L)) w:=by
 unfold iV at H;refine ke Tryz.func167 30 rfl λj=>ks<|kN h (#[vI p0.MW,vI p0.dA,vI p0.cA,.slice M1 p0.Code.length M8]) 99 λb1 w h=>ko [U]<|kn<|ks<|ko [U]<|kL h 3<|qg H λc2 H=>ko [U]<|kj 146 M8 Ni c2<|λ_ r=>RI (wn rfl) r (OQ (ag p0.Code p1.toNat)) (cs:=Om (ag p0.Code p1.toNat)) ⟨Ni.cell c2 (h.dn 1) 0 rfl,Ni.cell c2 (h.dn 1) 1 rfl,Ni.cell c2 (h.dn 1) 2 rfl,Ni.cell c2 (h.dn 1) 3 rfl,Ni.cell c2 (h.dn 1) 4 rfl,CH⟩<|?_;refine kN h (agJ) 146 λb3 w h=>kA h (RM b3 (ag p0.Code p1.toNat)) λw h=>kn<|wq<|ks<|ko [U]<|kL h 0<|kn<|wb<|ks<|ko [vB ((ag p0.Code p1.toNat).aQ==3),vB ((ag p0.Code p1.toNat).aQ==3)]<|kn<|NN H (λc4 H=>?_) λc4 H=>?_
 ·refine ks<|ko [U]<|kL h 1<|kV h (#[vI (ag p0.Code p1.toNat).A]) 3 λb5 w h=>?_;replace h:=Fit.TV (n:=1) (l:=[(ag p0.Code p1.toNat).A]) (by rfl) (by rfl) rm (by decide) h;refine ko [U]<|kn<|wr<|br<|tr<|λ_ r=>afn (.slice (some ⟨b5,0,none⟩) 1 1) rfl r<|?_;have hn5:1=([(ag p0.Code p1.toNat).A]).length:=h.N4;replace h:=Fit.Wa hn5 (λq_=>rowOf 3 1 oE (.slice (some ⟨b5,0,none⟩) q_ 1) ([(ag p0.Code p1.toNat).A])) h;cases H;exact⟨(some ⟨b5,0,none⟩),1,(by first | rfl | simp only[hn5]),h.se 3 [0]⟩
 refine ks<|ko [vB ((ag p0.Code p1.toNat).aQ==9),vB ((ag p0.Code p1.toNat).aQ==9)]<|kn<|NN H (λc7 H=>?_) λc7 H=>?_
 ·refine ks<|ko [U]<|kn<|wr<|br<|tr<|λ_ r=>afn (.slice none 0 0) rfl r<|?_;replace h:=h.ua (e:=3) (sz:=1) (enc:=oE);cases H;exact⟨none,0,rfl,h.se 3 [0]⟩
 refine ks<|ko [vB ((ag p0.Code p1.toNat).aQ==4),vB ((ag p0.Code p1.toNat).aQ==4)]<|kn<|NN H (λc8 H=>?_) λc8 H=>?_
 ·refine ks<|ko [U,vI (wi (p1+1)),U]<|kL h 2<|λ_ r=>acq (wn rfl) r h (λb=>.slice (some ⟨b,0,none⟩) 2 2) (#[vI (wi (p1+1)),vI (ag p0.Code p1.toNat).B]) 3 λb9 w _ h r=>qq r<|?_;replace h:=Fit.TV (n:=2) (l:=[wi (p1+1),(ag p0.Code p1.toNat).B]) (by rfl) (by rfl) rm (by decide) h;refine ko [U]<|kn<|wr<|br<|tr<|λ_ r=>afn (.slice (some ⟨b9,0,none⟩) 2 2) rfl r<|?_;have hn9:2=([wi (p1+1),(ag p0.Code p1.toNat).B]).length:=h.N4;replace h:=Fit.Wa hn9 (λq_=>rowOf 3 1 oE (.slice (some ⟨b9,0,none⟩) q_ 2) ([wi (p1+1),(ag p0.Code p1.toNat).B])) h;cases H;exact⟨(some ⟨b9,0,none⟩),2,(by first | rfl | simp only[hn9]),h.se 3 [0]⟩
 refine wk<|bn<|tn<|ks<|ko [U,vI (wi (p1+1))]<|kV h (#[vI (wi (p1+1))]) 3 λZh w h=>?_;replace h:=Fit.TV (n:=1) (l:=[wi (p1+1)]) (by rfl) (by rfl) rm (by decide) h;refine ko [U]<|kn<|wr<|λ_ r=>afn (.slice (some ⟨Zh,0,none⟩) 1 1) rfl r<|?_;have adj:1=([wi (p1+1)]).length:=h.N4;replace h:=Fit.Wa adj (λq_=>rowOf 3 1 oE (.slice (some ⟨Zh,0,none⟩) q_ 1) ([wi (p1+1)])) h;cases H;exact⟨(some ⟨Zh,0,none⟩),1,(by first | rfl | simp only[adj]),h.se 3 [0]⟩
def dy(K:Nat)(nN:Int)(rC:List Int):Nat->(List Int)->(List Int)->(List Int)->Int->Option ((List Int)×(List Int)×(List Int))
 | 0,_,_,_,_=>none
 | k2+1,Cq,FK,FL,rD=>(if rD<((rC.length:Nat):Int)then if aZ rD rC.length then if aZ (ag rC rD.toNat) Cq.length then(if(eK (ag Cq (ag rC rD.toNat).toNat) nN)=0 then if(FK.length+1)*8<=140737488355328 then if(FL.length+1)*8<=140737488355328 then(dy K nN rC k2 (Cq.set (ag rC rD.toNat).toNat (wi ((ag Cq (ag rC rD.toNat).toNat)+nN))) (FK++[(ag rC rD.toNat)]) (FL++[nN]) (wi (rD+1)))else none else none else(dy K nN rC k2 Cq FK FL (wi (rD+1))))else none else none else some (Cq,FK,FL))
def dX(K:Nat)(p0:ax)(p1:Int):Nat->(List Int)->(List Int)->(List Int)->Int->Option ((List Int))
 | 0,_,_,_,_=>none
 | k1+1,l9,Cr,Dt,uh=>(if uh<((Cr.length:Nat):Int)then gh (if aZ uh Cr.length then if aZ (ag Cr uh.toNat) p0.Code.length then if aZ uh Dt.length then bH (iU (ag p0.Code (ag Cr uh.toNat).toNat) p1 (ag Dt uh.toNat)) (λnN=>bH (iV p0 (ag Cr uh.toNat)) (λrC=>(dy K nN rC K l9 Cr Dt 0)))else none else none else none) (λKa Kb GW=>(dX K p0 p1 k1 Ka Kb GW (wi (uh+1))))else some l9)
def gC(K:Nat)(p0:ax)(p1:Int):Option ((List Int)):=
 if 0<=((p0.Code.length:Nat):Int)/\((p0.Code.length:Nat):Int)*8<=140737488355328 then if aZ (0:Int) (List.replicate p0.Code.length (0:Int)).length then(dX K p0 p1 K ((List.replicate p0.Code.length (0:Int)).set 0 1) ([0]) ([1]) 0)else none else none
theorem R3{K:Nat}{p0:ax}{p1:Int}{M1:Option Addr}{M8:Nat}{r0:List Int}(H:gC K p0 p1=some r0)(h:ft_ z (L) w)(Ni:jJ L 5 gJ M1 p0.Code) :
 Calls Tryz.prog 112 #[.agg #[vI p0.MW,vI p0.dA,vI p0.cA,.slice M1 p0.Code.length M8],vI p1] w λe w=>∃y1 y2,e=.returned (.slice y1 r0.length y2)/\Fit z (cQ (R8 y1 y2 r0::L)) w:=by
 unfold gC at H;refine ke Tryz.func112 91 rfl λj=>ks<|kN h (#[vI p0.MW,vI p0.dA,vI p0.cA,.slice M1 p0.Code.length M8]) 99 λb1 w h=>ko [U]<|kn<|ks<|ko [U]<|kL h 3<|qg H λc2 H=>ko [vI ((p0.Code.length:Nat):Int)]<|λ_ r=>PS (i:=((p0.Code.length:Nat):Int)) (bytes:=8) (zc:=#[vI 0]) (0:Int) (wn rfl) rfl rfl r rfl (by kernel_rfl) (by kernel_rfl) c2 rm (E:=3) (by kernel_rfl) (by kernel_rfl) rfl rfl h λNG w _ h r=>qq r<|ko [U]<|kn<|ks<|kV h (#[vI 0]) 3 λb4 w h=>?_;replace h:=Fit.TV (n:=1) (l:=[0]) (by rfl) (by rfl) rm (by decide) h;refine ko [U]<|kn<|ks<|kV h (#[vI 1]) 3 λb5 w h=>?_;replace h:=Fit.TV (n:=1) (l:=[1]) (by rfl) (by rfl) rm (by decide) h;refine ko [U]<|kn<|ks<|qg H λc6 H=>ko [U]<|kp (pA (Cp NG) (0*1)) (OD (i:=(0:Int)) (k:=.i64) (E:=3) rfl (by kernel_rfl) (by kernel_rfl) (by kernel_rfl) (by kernel_rfl) (h.pick 2) c6)<|qh h.m2 λh=>λ_ r=>VD (wn rfl) r rm h 0 0 (vI 1) (ag (List.replicate p0.Code.length (0:Int)) 0) 1 (zN c6) λw h=>qq r<|kn<|wq<|ks<|ko [U]<|kn<|wb<|?_;have aag:(List.replicate p0.Code.length (0:Int)).length=((List.replicate p0.Code.length (0:Int)).set 0 1).length:=h.N4;replace h:=Fit.Wa aag (λq_=>rowOf 3 1 oE (.slice NG q_ p0.Code.length) ((List.replicate p0.Code.length (0:Int)).set 0 1)) h;intro _ r;replace r:=r.re 5 (afr (λq_=>Value.slice NG q_ p0.Code.length) aag);refine qh h.m2 λh=>?_;have adk:1=([0]).length:=h.N4;replace h:=Fit.Wa adk (λq_=>rowOf 3 1 oE (.slice (some ⟨b4,0,none⟩) q_ 1) ([0])) h;replace r:=r.re 6 (afr (λq_=>Value.slice (some ⟨b4,0,none⟩) q_ 1) adk);refine qh h.m2 λh=>?_;have adl:1=([1]).length:=h.N4;replace h:=Fit.Wa adl (λq_=>rowOf 3 1 oE (.slice (some ⟨b5,0,none⟩) q_ 1) ([1])) h;replace r:=r.re 7 (afr (λq_=>Value.slice (some ⟨b5,0,none⟩) q_ 1) adl);refine NB (β:=Nat) id (λm a w=>∃NR:Option Addr,∃NU:Nat,∃Xa:Option Addr,∃aah:Nat,∃PL:Option Addr,∃QE:Nat,∃l9:List Int,∃Cr:List Int,∃Dt:List Int,∃uh:Int,(dX K p0 p1 m l9 Cr Dt uh)=some r0/\∃j,Gk 91 (lk [(1,vI p1),(2,pA b1 0),(5,.slice NR l9.length NU),(6,.slice Xa Cr.length aah),(7,.slice PL Dt.length QE),(8,vI uh)] j) a/\Fit z (cQ (Qd b1 p0 M1 M8::R8 NR NU l9::R8 Xa aah Cr::R8 PL QE Dt::L)) w) K ⟨NG,p0.Code.length,(some ⟨b4,0,none⟩),1,(some ⟨b5,0,none⟩),1,((List.replicate p0.Code.length (0:Int)).set 0 1),[0],[1],0,H,r.fj (h.se 4 [3,2,1,0])⟩<|?_;clear h r H;rintro k1 a w ⟨NR,NU,Xa,aah,PL,QE,l9,Cr,Dt,uh,H,j,r,h⟩;cases k1 with
 | zero=>exact absurd H (by simp[dX])
 | succ k1 =>
  rw[dX]at H;refine qq r<|wq<|ks<|ko [U,U,vI ((Cr.length:Nat):Int),vB (decide (uh<((Cr.length:Nat):Int)))]<|kn<|NN H (λPx H=>?_) λPx H=>?_
  ·refine wk<|tn<|qd3 H λo29 H acv=>λ_ r=>Nn (β:=Unit) (λ_ a w=>∃XS:Option Addr,∃XT:Nat,∃SE:Option Addr,∃T4:Nat,∃Ka:List Int,∃Kb:List Int,∃GW:List Int,(Ka,Kb,GW)=o29/\∃j,Gk 91 (lk [(1,vI p1),(2,pA b1 0),(5,.slice NR l9.length NU),(6,.slice XS Kb.length XT),(7,.slice SE GW.length T4),(8,vI uh)] j) a/\Fit z (cQ (Qd b1 p0 M1 M8::rowOf 3 1 oE (.slice NR l9.length NU) Ka::R8 XS XT Kb::R8 SE T4 GW::L)) w) ?_ ?_
   ·refine qq r<|wb<|wq<|qg H λRa H=>qg H λRw H=>λ_ r=>Ob [(b1,3,[.slice M1 p0.Code.length M8]),(Cp Xa,uh.toNat*1,[vI (ag Cr uh.toNat)]),(Cp M1,sJ M1+(ag Cr uh.toNat).toNat*5,Om (ag p0.Code (ag Cr uh.toNat).toNat))] [0,4,6] 10 h (λh=>⟨⟨h.cell 3 rfl,CH⟩,⟨(h.pick 2).Ng rm (f:=0) (zN Ra) rfl,CH⟩,⟨Ni.cell Rw (h.dn 4) 0 rfl,Ni.cell Rw (h.dn 4) 1 rfl,Ni.cell Rw (h.dn 4) 2 rfl,Ni.cell Rw (h.dn 4) 3 rfl,Ni.cell Rw (h.dn 4) 4 rfl,CH⟩,CH⟩) λw h hd =>qq r<|Oi hd 7 [(0,27,pA b1 3),(2,29,.slice Xa Cr.length aah),(3,30,vI uh)]<|eo_ hd 6 4 rfl (pA (Cp Xa) (uh.toNat*1)) (λw=>ag0 3 rfl (h.pick 2) Ra)<|kx hd 0 5 1 rfl rfl<|kx hd 1 4 5 rfl rfl<|eo_ hd 3 6 rfl (pA (Cp M1) (sJ M1+(ag Cr uh.toNat).toNat*5)) (λw=>afF 146 M8 rfl rfl Ni Rw)<|RJ hd 2 2 7 rfl rfl<|λ_ r=>N3 8 rfl<|qq r<|kN h (agJ) 146 λb32 w h=>kn<|λ_ r=>xE<|N3 9 rfl<|qq r<|kA h (RM b32 (ag p0.Code (ag Cr uh.toNat).toNat)) λw h=>kn<|λ_ r=>xE<|O4<|qq r<|tn<|wq<|qg H λSs H=>Oj H λnN XU H=>λ_ r=>Ob [(b32,0,Om (ag p0.Code (ag Cr uh.toNat).toNat)),(Cp PL,uh.toNat*1,[vI (ag Dt uh.toNat)])] [4] 8 h (λh=>⟨(h.held 0 rfl),⟨(h.pick 4).Ng rm (f:=0) (zN Ss) rfl,CH⟩,CH⟩) λw h hd =>qq r<|Oi hd 5 [(1,36,vI p1),(2,37,.slice PL Dt.length QE),(3,38,vI uh)]<|eo_ hd 4 4 rfl (pA (Cp PL) (uh.toNat*1)) (λw=>ag0 3 rfl (h.pick 4) Ss)<|RJ hd 0 3 0 rfl rfl<|kx hd 1 2 5 rfl rfl<|λ_ r=>N3 6 rfl<|qq r<|N5 (TB (H:=XU) (h:=h) :) λw h=>kn<|λ_ r=>xE<|qq r<|ev_ 0 7 rfl (vI nN)<|λ_ r=>O4<|qq r<|tn<|wq<|Oj H λrC GJ H=>λ_ r=>Ob [(b1,0,[vI p0.MW,vI p0.dA,vI p0.cA,.slice M1 p0.Code.length M8]),(Cp Xa,uh.toNat*1,[vI (ag Cr uh.toNat)])] [3] 7 h (λh=>⟨((h.pick 1).held 0 rfl),⟨(h.pick 3).Ng rm (f:=0) (zN Ra) rfl,CH⟩,CH⟩) λw h hd =>qq r<|Oi hd 5 [(1,43,.slice Xa Cr.length aah),(2,44,vI uh)]<|eo_ hd 4 3 rfl (pA (Cp Xa) (uh.toNat*1)) (λw=>ag0 3 rfl (h.pick 3) Ra)<|RJ hd 0 3 0 rfl rfl<|kx hd 1 2 4 rfl rfl<|λ_ r=>N3 5 rfl<|qq r<|xc2 (TC (M1:=M1) (M8:=M8) (Ni:=(jJ.up 5 Ni)) (H:=GJ) (h:=h) :) λUP Up w h=>kn<|λ_ r=>xE<|qq r<|ev_ 0 6 rfl (.slice UP rC.length Up)<|λ_ r=>O4<|qq r<|tn<|ks<|ko [U]<|kn<|wb<|λ_ r=>NB (β:=Nat) id (λm a w=>∃aa2:Option Addr,∃aa3:Nat,∃XV:Option Addr,∃XW:Nat,∃Cq:List Int,∃FK:List Int,∃FL:List Int,∃rD:Int,(dy K nN rC m Cq FK FL rD)=some o29/\∃j,Gk 91 (lk [(1,vI p1),(2,pA b1 0),(5,.slice NR l9.length NU),(6,.slice aa2 FK.length aa3),(7,.slice XV FL.length XW),(8,vI uh),(10,vI nN),(11,.slice UP rC.length Up),(12,vI rD)] j) a/\Fit z (cQ (Qd b1 p0 M1 M8::rowOf 3 1 oE (.slice NR l9.length NU) Cq::R8 aa2 aa3 FK::R8 XV XW FL::R8 UP Up rC::L)) w) K ⟨Xa,aah,PL,QE,l9,Cr,Dt,0,H,r.fj (h.se 6 [2,3,4,5,0])⟩<|?_;clear h r H;rintro k2 a w ⟨aa2,aa3,XV,XW,Cq,FK,FL,rD,H,j,r,h⟩;cases k2 with
    | zero=>exact absurd H (by simp[dy])
    | succ k2 =>
     rw[dy]at H;refine qq r<|wq<|ks<|ko [U,U,vI ((rC.length:Nat):Int),vB (decide (rD<((rC.length:Nat):Int)))]<|kn<|NN H (λc48 H=>?_) λc48 H=>?_
     ·refine wk<|tn<|wq<|wb<|ks<|qg H λVI H=>ko mT<|ki (h.pick 4) VI<|λ_ r=>ld (wn rfl) r (vI (ag rC rD.toNat)) ((h.pick 4).Ng rm (f:=0) (zN VI) rfl)<|?_;refine qg H λZU H=>ki (h.pick 1) ZU<|λ_ r=>ld (wn rfl) r (vI (ag Cq (ag rC rD.toNat).toNat)) ((h.pick 1).Ng rm (f:=0) (zN ZU) rfl)<|?_;refine ko [U]<|kp (vI (eK (ag Cq (ag rC rD.toNat).toNat) nN)) (rand rfl (by kernel_rfl) (by kernel_rfl))<|ko [vB ((eK (ag Cq (ag rC rD.toNat).toNat) nN)==0)]<|kn<|NN H (λc51 H=>?_) λc51 H=>?_
      ·refine wq<|λ_ r=>Ob [(Cp UP,rD.toNat*1,[vI (ag rC rD.toNat)]),(Cp UP,rD.toNat*1,[vI (ag rC rD.toNat)]),(Cp NR,(ag rC rD.toNat).toNat*1,[vI (ag Cq (ag rC rD.toNat).toNat)])] [3,8,10,13] 16 h (λh=>⟨⟨(h.pick 4).Ng rm (f:=0) (zN VI) rfl,CH⟩,⟨(h.pick 4).Ng rm (f:=0) (zN VI) rfl,CH⟩,⟨(h.pick 1).Ng rm (f:=0) (zN ZU) rfl,CH⟩,CH⟩) λw h hd =>qq r<|Oi hd 13 [(0,64,.slice NR l9.length NU),(1,65,.slice UP rC.length Up),(2,66,vI rD)]<|eo_ hd 12 3 rfl (pA (Cp UP) (rD.toNat*1)) (λw=>ag0 3 rfl (h.pick 4) VI)<|Oi hd 9 [(5,69,.slice NR l9.length NU),(6,70,.slice UP rC.length Up),(7,71,vI rD)]<|eo_ hd 8 8 rfl (pA (Cp UP) (rD.toNat*1)) (λw=>ag0 3 rfl (h.pick 4) VI)<|Oi hd 7 [(12,76,vI nN)]<|kx hd 0 6 4 rfl rfl<|kx hd 1 5 9 rfl rfl<|eo_ hd 4 10 rfl (pA (Cp NR) ((ag rC rD.toNat).toNat*1)) (λw=>ag0 3 rfl (h.pick 1) ZU)<|kx hd 2 3 11 rfl rfl<|Oi hd 2 [(13,77,vI (wi ((ag Cq (ag rC rD.toNat).toNat)+nN)))]<|eo_ hd 1 14 rfl (pA (Cp NR) ((ag rC rD.toNat).toNat*1)) (λw=>ag0 3 rfl (h.pick 1) ZU)<|λ_ r=>N3 15 rfl<|qh h.m1 λh=>VD (wn rfl) r rm h (ag rC rD.toNat).toNat 0 (vI (wi ((ag Cq (ag rC rD.toNat).toNat)+nN))) (ag Cq (ag rC rD.toNat).toNat) (wi ((ag Cq (ag rC rD.toNat).toNat)+nN)) (zN ZU) λw h=>qq r<|kn<|λ_ r=>xE<|O4<|qq r<|tn<|ks<|ko mT<|ki (h.pick 4) VI<|λ_ r=>ld (wn rfl) r (vI (ag rC rD.toNat)) ((h.pick 4).Ng rm (f:=0) (zN VI) rfl)<|?_;refine kV h (#[vI (ag rC rD.toNat)]) 3 λb52 w h=>qh h.m3 λh=>qg H λc55 H=>λ_ r=>O9 (n0:=FK.length) (c:=1) (bytes:=8) (wn rfl) rfl rfl r rfl (by kernel_rfl) (by kernel_rfl) rm (E:=3) (xs:=FK) (by kernel_rfl) (by kernel_rfl) h (news:=[(ag rC rD.toNat)]) (m:=1) rfl ((h.pick 1).news rfl) c55 rfl λadX adY w _ h r=>qq r<|ko [U]<|kn<|wl<|ko Zy<|kV h (#[vI nN]) 3 λb56 w h=>qh h.m5 λh=>qg H λc59 H=>λ_ r=>O9 (n0:=FL.length) (c:=1) (bytes:=8) (wn rfl) rfl rfl r rfl (by kernel_rfl) (by kernel_rfl) rm (E:=3) (xs:=FL) (by kernel_rfl) (by kernel_rfl) h (news:=[nN]) (m:=1) rfl ((h.pick 1).news rfl) c59 rfl λWm Wn w _ h r=>qq r<|ko [U]<|kl<|bn<|tn<|wl<|ko [U,vI (wi (rD+1)),vI (wi (rD+1))]<|kn<|?_;exact λ_ r=>⟨_,⟨adX,adY,Wm,Wn,(Cq.set (ag rC rD.toNat).toNat (wi ((ag Cq (ag rC rD.toNat).toNat)+nN))),(FK++[(ag rC rD.toNat)]),(FL++[nN]),(wi (rD+1)),H,r.fj (h.se 7 [5,4,2,0,6])⟩,afl _⟩
      refine wk<|bn<|tn<|wl<|ko [U,vI (wi (rD+1)),vI (wi (rD+1))]<|kn<|?_;exact λ_ r=>⟨_,⟨aa2,aa3,XV,XW,Cq,FK,FL,(wi (rD+1)),H,r.fj h⟩,afl _⟩
     refine wx<|te<|te<|bh<|bn<|tn<|?_;exact λ_ r=>⟨(),aa2,aa3,XV,XW,Cq,FK,FL,On H,r.fj (h.se 5 [0,1,2,3])⟩
   clear h r;rintro _ a w ⟨XS,XT,SE,T4,Ka,Kb,GW,rfl,j,r,h⟩;replace H:=kk3 acv;refine qq r<|wl<|ko [U,vI (wi (uh+1)),vI (wi (uh+1))]<|kn<|qh h.m1 λh=>?_;have adm:l9.length=Ka.length:=h.N4;replace h:=Fit.Wa adm (λq_=>rowOf 3 1 oE (.slice NR q_ NU) Ka) h;intro _ r;replace r:=r.re 5 (afr (λq_=>Value.slice NR q_ NU) adm);exact⟨_,⟨NR,NU,XS,XT,SE,T4,Ka,Kb,GW,(wi (uh+1)),H,r.fj (h.se 4 [1,0,2,3])⟩,afl _⟩
  refine wx<|te<|te<|bh<|tn<|ks<|ko Zy<|kn<|wr<|?_;cases H;exact xy2 NR NU (h.se 4 [1])
def fY(K:Nat)(p0:ax):Nat->(List (List Int))->Int->Option ((List (List Int)))
 | 0,_,_=>none
 | k1+1,AZ,Qz=>(if Qz<(((List.replicate p0.Code.length ([]:List Int)).length:Nat):Int)then if 0<=p0.cA/\p0.cA*8<=140737488355328 then if aZ Qz AZ.length then(fY K p0 k1 (AZ.set Qz.toNat (List.replicate p0.cA.toNat (0:Int))) (wi (Qz+1)))else none else none else some AZ)
def fZ(K:Nat)(p0:ax)(sO:Int)(uj:List Int):Nat->(List (List Int))->Int->Option ((List (List Int)))
 | 0,_,_=>none
 | k3+1,U5,zT=>(if zT<(((List.replicate p0.Code.length ([]:List Int)).length:Nat):Int)then if aZ zT U5.length then if aZ zT uj.length then if aZ sO (ag U5 zT.toNat).length then(fZ K p0 sO uj k3 (U5.set zT.toNat ((ag U5 zT.toNat).set sO.toNat (ag uj zT.toNat))) (wi (zT+1)))else none else none else none else some U5)
def ga(K:Nat)(p0:ax):Nat->(List (List Int))->Int->Option ((List (List Int)))
 | 0,_,_=>none
 | k2+1,zU,sO=>(if sO<p0.cA then bH (bH (gC K p0 sO) (λuj=>(fZ K p0 sO uj K zU 0))) (λGY=>(ga K p0 k2 GY (wi (sO+1))))else some zU)
def jx(K:Nat)(p0:ax):Option ((List (List Int))):=
 bH (Qp K p0) (λr2=>(if r2=true then if 0<=((p0.Code.length:Nat):Int)/\((p0.Code.length:Nat):Int)*24<=140737488355328 then bH ((fY K p0 K (List.replicate p0.Code.length ([]:List Int)) 0)) (λl7=>(ga K p0 K l7 0))else none else some ([]:List (List Int))))
theorem T5{K:Nat}{p0:ax}{M1:Option Addr}{M8:Nat}{r0:List (List Int)}(H:jx K p0=some r0)(h:ft_ z (L) w)(Ni:jJ L 5 gJ M1 p0.Code) :
 Calls Tryz.prog 72 #[.agg #[vI p0.MW,vI p0.dA,vI p0.cA,.slice M1 p0.Code.length M8]] w λe w=>∃y1 y2,e=.returned (.slice y1 r0.length y2)/\Fit z (cQ (XO y1 y2 r0::L)) w:=by
 unfold jx at H;refine ke Tryz.func72 55 rfl λj=>ks<|kN h (#[vI p0.MW,vI p0.dA,vI p0.cA,.slice M1 p0.Code.length M8]) 99 λb1 w h=>ko [U]<|kn<|ks<|kM h<|Oj H λr2 e3 H=>N5 (TA (M1:=M1) (M8:=M8) (Ni:=(jJ.up 1 Ni)) (H:=e3) (h:=h) :) λw h=>ko [U]<|kn<|wq<|ks<|ko [U,vB (!r2)]<|kn<|Vb H (λc4 H=>?_) λc4 H=>?_
 ·refine wk<|tn<|ks<|ko [U]<|kL h 3<|qg H λc5 H=>ko [vI ((p0.Code.length:Nat):Int)]<|λ_ r=>UH (own:=O2) (i:=((p0.Code.length:Nat):Int)) (bytes:=24) (zc:=#[.slice none 0 0]) ([]:List Int) (wn rfl) rfl rfl r rfl (by kernel_rfl) (by kernel_rfl) c5 rfl (by simp[Value.oneCell']) (by decide) (E:=28) (by kernel_rfl) (by kernel_rfl) rfl (λh=>OJ (x:=([]:List Int)) (QM:=none) (QN:=0) (h.ua)) h λU6 w _ h r=>qq r<|ko [U]<|kn<|VA H λo9 H YL=>λ_ r=>Nn (β:=Unit) (λ_ a w=>∃l7:List (List Int),l7=o9/\∃j,Gk 55 (lk [(1,pA b1 0),(4,.slice U6 (List.replicate p0.Code.length ([]:List Int)).length p0.Code.length)] j) a/\Fit z (cQ (Qd b1 p0 M1 M8::Qw 28 1 O2 (.slice U6 (List.replicate p0.Code.length ([]:List Int)).length p0.Code.length) l7::L)) w) ?_ ?_
  ·refine qq r<|ks<|ko [U]<|kn<|wb<|λ_ r=>NB (β:=Nat) id (λm a w=>∃AZ:List (List Int),∃Qz:Int,(fY K p0 m AZ Qz)=some o9/\∃j,Gk 55 (lk [(1,pA b1 0),(4,.slice U6 (List.replicate p0.Code.length ([]:List Int)).length p0.Code.length),(5,vI Qz)] j) a/\Fit z (cQ (Qd b1 p0 M1 M8::Qw 28 1 O2 (.slice U6 (List.replicate p0.Code.length ([]:List Int)).length p0.Code.length) AZ::L)) w) K ⟨(List.replicate p0.Code.length ([]:List Int)),0,H,r.fj (h.se 2 [1,0])⟩<|?_;clear h r H;rintro k1 a w ⟨AZ,Qz,H,j,r,h⟩;cases k1 with
   | zero=>exact absurd H (by simp[fY])
   | succ k1 =>
    rw[fY]at H;refine qq r<|wq<|ks<|ko [U,U,vI (((List.replicate p0.Code.length ([]:List Int)).length:Nat):Int),vB (decide (Qz<(((List.replicate p0.Code.length ([]:List Int)).length:Nat):Int)))]<|kn<|NN H (λUm H=>?_) λUm H=>?_
    ·refine wk<|tn<|wq<|wb<|wl<|ko mT<|kL h 2<|qg H λSC H=>λ_ r=>PS (i:=p0.cA) (bytes:=8) (zc:=#[vI 0]) (0:Int) (wn rfl) rfl rfl r rfl (by kernel_rfl) (by kernel_rfl) SC rm (E:=3) (by kernel_rfl) (by kernel_rfl) rfl rfl h λaai w _ h r=>qq r<|qg H λQb H=>kp (pA (Cp U6) (Qz.toNat*1)) (V1 (k:=.i64) (E:=28) rfl (by kernel_rfl) (by kernel_rfl) (by kernel_rfl) (by kernel_rfl) (h.pick 2) Qb)<|?_;obtain⟨ae8,h⟩:=h.m2.Pr (zN Qb);obtain⟨VJ,ae9,UQ,h⟩:=PE (h.m1);subst UQ;refine qh h.m1 λh=>λ_ r=>Uj (wn rfl) rfl r rfl (by kernel_rfl) (by kernel_rfl) (v:=.slice aai (List.replicate p0.cA.toNat (0:Int)).length p0.cA.toNat) rfl rfl (by kernel_rfl) (by kernel_rfl) h (i:=Qz.toNat) (f:=0) (by decide) λw h=>qq r<|kl<|bn<|tn<|wl<|ko [U,vI (wi (Qz+1)),vI (wi (Qz+1))]<|kn<|qh h.m2 λh=>?_;replace h:=OJ (x:=(List.replicate p0.cA.toNat (0:Int))) h;replace h:=(h.m1).Sz;exact λ_ r=>⟨_,⟨(AZ.set Qz.toNat (List.replicate p0.cA.toNat (0:Int))),(wi (Qz+1)),H,r.fj (h.se 3 [2,0])⟩,afl _⟩
    refine wx<|te<|te<|bh<|tn<|?_;exact λ_ r=>⟨(),AZ,On H,r.fj h⟩
  clear h r;rintro _ a w ⟨l7,rfl,j,r,h⟩;replace H:=Vy YL;refine qq r<|wq<|ks<|ko [U]<|kn<|wb<|λ_ r=>NB (β:=Nat) id (λm a w=>∃zU:List (List Int),∃sO:Int,(ga K p0 m zU sO)=some r0/\∃j,Gk 55 (lk [(1,pA b1 0),(4,.slice U6 (List.replicate p0.Code.length ([]:List Int)).length p0.Code.length),(6,vI sO)] j) a/\Fit z (cQ (Qd b1 p0 M1 M8::Qw 28 1 O2 (.slice U6 (List.replicate p0.Code.length ([]:List Int)).length p0.Code.length) zU::L)) w) K ⟨l7,0,H,r.fj h⟩<|?_;clear h r H;rintro k2 a w ⟨zU,sO,H,j,r,h⟩;cases k2 with
  | zero=>exact absurd H (by simp[ga])
  | succ k2 =>
   rw[ga]at H;refine qq r<|wq<|ks<|ko Zy<|kL h 2<|ko [vB (decide (sO<p0.cA))]<|kn<|NN H (λUn H=>?_) λUn H=>?_
   ·refine wk<|tn<|VA H λo25 H aa4=>λ_ r=>Nn (β:=Unit) (λ_ a w=>∃GY:List (List Int),GY=o25/\∃j,Gk 55 (lk [(1,pA b1 0),(4,.slice U6 (List.replicate p0.Code.length ([]:List Int)).length p0.Code.length),(6,vI sO)] j) a/\Fit z (cQ (Qd b1 p0 M1 M8::Qw 28 1 O2 (.slice U6 (List.replicate p0.Code.length ([]:List Int)).length p0.Code.length) GY::L)) w) ?_ ?_
    ·refine qq r<|wb<|ks<|kM h<|Oj H λuj GK H=>ko [U]<|xc2 (R3 (M1:=M1) (M8:=M8) (Ni:=(jJ.up 2 Ni)) (H:=GK) (h:=h) :) λZ8 U7 w h=>ko [U]<|kn<|ks<|ko [U]<|kn<|wb<|λ_ r=>NB (β:=Nat) id (λm a w=>∃U5:List (List Int),∃zT:Int,(fZ K p0 sO uj m U5 zT)=some o25/\∃j,Gk 55 (lk [(1,pA b1 0),(4,.slice U6 (List.replicate p0.Code.length ([]:List Int)).length p0.Code.length),(6,vI sO),(7,.slice Z8 uj.length U7),(8,vI zT)] j) a/\Fit z (cQ (Qd b1 p0 M1 M8::Qw 28 1 O2 (.slice U6 (List.replicate p0.Code.length ([]:List Int)).length p0.Code.length) U5::R8 Z8 U7 uj::L)) w) K ⟨zU,0,H,r.fj (h.se 3 [1,2,0])⟩<|?_;clear h r H;rintro k3 a w ⟨U5,zT,H,j,r,h⟩;cases k3 with
     | zero=>exact absurd H (by simp[fZ])
     | succ k3 =>
      rw[fZ]at H;refine qq r<|wq<|ks<|ko [U,U,vI (((List.replicate p0.Code.length ([]:List Int)).length:Nat):Int),vB (decide (zT<(((List.replicate p0.Code.length ([]:List Int)).length:Nat):Int)))]<|kn<|NN H (λUO H=>?_) λUO H=>?_
      ·refine wk<|tn<|wq<|wb<|qg H λSs H=>?_;obtain⟨afa,h⟩:=h.m1.Pr (zN Ss);obtain⟨Xb,XX,e36,h⟩:=PE (h.m1);subst e36;refine qg H λXc H=>qg H λXB H=>λ_ r=>Ob [(Cp U6,zT.toNat*1,[.slice Xb (ag U5 zT.toNat).length XX]),(Cp Z8,zT.toNat*1,[vI (ag uj zT.toNat)])] [2,7] 11 h (λh=>⟨⟨(h.pick 1).P8 (by decide) (f:=0) rfl,CH⟩,⟨(h.pick 3).Ng rm (f:=0) (zN Xc) rfl,CH⟩,CH⟩) λw h hd =>qq r<|Oi hd 9 [(0,44,.slice U6 (List.replicate p0.Code.length ([]:List Int)).length p0.Code.length),(1,45,vI zT)]<|eo_ hd 8 2 rfl (pA (Cp U6) (zT.toNat*1)) (λw=>RA (k:=.i64) (E:=28) rfl (by kernel_rfl) (by kernel_rfl) (by kernel_rfl) (by kernel_rfl) (h.pick 1) Ss)<|Oi hd 5 [(4,48,vI sO),(5,49,.slice Z8 uj.length U7),(6,50,vI zT)]<|eo_ hd 4 7 rfl (pA (Cp Z8) (zT.toNat*1)) (λw=>ag0 3 rfl (h.pick 3) Xc)<|kx hd 0 3 3 rfl rfl<|kx hd 1 2 8 rfl rfl<|eo_ hd 1 9 rfl (pA (Cp Xb) (sO.toNat*1)) (λw=>ag0 3 rfl h XB)<|λ_ r=>N3 10 rfl<|VD (wn rfl) r rm h sO.toNat 0 (vI (ag uj zT.toNat)) (ag (ag U5 zT.toNat) sO.toNat) (ag uj zT.toNat) (zN XB) λw h=>qq r<|kn<|λ_ r=>xE<|O4<|qq r<|bn<|tn<|wl<|ko [U,vI (wi (zT+1)),vI (wi (zT+1))]<|kn<|?_;replace h:=h.oH (λq_=>Tt 28 1 O2 (.slice U6 (List.replicate p0.Code.length ([]:List Int)).length p0.Code.length) U5 zT.toNat [.slice Xb q_ XX]);replace h:=OJ (x:=((ag U5 zT.toNat).set sO.toNat (ag uj zT.toNat))) h;replace h:=(h.m1).Sz;exact λ_ r=>⟨_,⟨(U5.set zT.toNat ((ag U5 zT.toNat).set sO.toNat (ag uj zT.toNat))),(wi (zT+1)),H,r.fj (h.se 3 [1,0,2])⟩,afl _⟩
      refine wx<|te<|te<|bh<|bn<|tn<|?_;exact λ_ r=>⟨(),U5,On H,r.fj (h.se 3 [0,1])⟩
    clear h r;rintro _ a w ⟨GY,rfl,j,r,h⟩;replace H:=Vy aa4;refine qq r<|wl<|ko [U,vI (wi (sO+1)),vI (wi (sO+1))]<|kn<|?_;exact λ_ r=>⟨_,⟨GY,(wi (sO+1)),H,r.fj h⟩,afl _⟩
   refine wx<|te<|te<|bh<|tn<|ks<|ko Zy<|kn<|wr<|λ_ r=>afn (.slice U6 (List.replicate p0.Code.length ([]:List Int)).length p0.Code.length) rfl r<|qh h.m1 λh=>?_;have aa5:(List.replicate p0.Code.length ([]:List Int)).length=zU.length:=h.Y9;replace h:=Fit.Wa aa5 (λq_=>Qw 28 1 O2 (.slice U6 q_ p0.Code.length) zU) h;cases H;exact⟨U6,p0.Code.length,(by first | rfl | simp only[aa5]),h.se 2 [0]⟩
 refine ks<|ko [U]<|kn<|wr<|tr<|λ_ r=>afn (.slice none 0 0) rfl r<|?_;replace h:=h.UF (e:=28) (sz:=1) (own:=O2);cases H;exact⟨none,0,rfl,h.se 2 [0]⟩
def dD(K:Nat)(p1:List Int):Nat->Int->Option (Int)
 | 0,_=>none
 | k1+1,g9=>(if g9<((p1.length:Nat):Int)then if aZ g9 p1.length then(if(eK (ag p1 g9.toNat) (2:Int))=0 then(dD K p1 k1 (wi (g9+1)))else some 56)else none else some 0)
def gP(K:Nat)(p0:bC)(p1:List Int):Option (Int):=
 (if p0.aQ=5 then if aZ p0.A p1.length then(if(eK (ag p1 p0.A.toNat) (2:Int))=0 then some 0 else some 54)else none else(if p0.aQ=7 then if aZ p0.B p1.length then(if(eK (ag p1 p0.B.toNat) (3:Int))=0 then some 0 else some 55)else none else(if p0.aQ=9 then(dD K p1 K 0)else some 0)))
theorem Sg{K:Nat}{p0:bC}{p1:List Int}{W1:Option Addr}{Xd:Nat}{r0:Int}(H:gP K p0 p1=some r0)(h:ft_ z (L) w)(Yj:jJ L 1 oE W1 p1) :
 c0_ 73 #[OQ p0,.slice W1 p1.length Xd] w z (vI r0) (L):=by
 unfold gP at H;refine ke Tryz.func73 40 rfl λj=>ks<|kN h (PD p0) 146 λb1 w h=>ko [U]<|kn<|wq<|ks<|ko [U]<|kL h 0<|kn<|wb<|ks<|ko [vB (p0.aQ==5),vB (p0.aQ==5)]<|kn<|NN H (λc2 H=>?_) λc2 H=>?_
 ·refine ks<|ko Zy<|kL h 1<|qg H λc3 H=>kj 3 Xd Yj c3<|λ_ r=>ld (wn rfl) r (vI (ag p1 p0.A.toNat)) (Yj.cell c3 (h.dn 1) 0 rfl)<|?_;refine kp (vI (eK (ag p1 p0.A.toNat) (2:Int))) (rand rfl (by kernel_rfl) (by kernel_rfl))<|ko [vB ((eK (ag p1 p0.A.toNat) (2:Int)) != 0)]<|kn<|Qf H (λc4 H=>?_) λc4 H=>?_
  ·refine wk<|bn<|tn<|ks<|ko [U]<|kn<|wr<|?_;cases H;exact Ox (h.se 1 [])
  refine ks<|ko [U]<|kn<|wr<|br<|tr<|?_;cases H;exact Ox (h.se 1 [])
 refine ks<|ko [vB (p0.aQ==7),vB (p0.aQ==7)]<|kn<|NN H (λc5 H=>?_) λc5 H=>?_
 ·refine ks<|ko Zy<|kL h 2<|qg H λc6 H=>kj 3 Xd Yj c6<|λ_ r=>ld (wn rfl) r (vI (ag p1 p0.B.toNat)) (Yj.cell c6 (h.dn 1) 0 rfl)<|?_;refine kp (vI (eK (ag p1 p0.B.toNat) (3:Int))) (rand rfl (by kernel_rfl) (by kernel_rfl))<|ko [vB ((eK (ag p1 p0.B.toNat) (3:Int)) != 0)]<|kn<|Qf H (λc7 H=>?_) λc7 H=>?_
  ·refine wk<|bn<|tn<|ks<|ko [U]<|kn<|wr<|?_;cases H;exact Ox (h.se 1 [])
  refine ks<|ko [U]<|kn<|wr<|br<|tr<|?_;cases H;exact Ox (h.se 1 [])
 refine ks<|ko [vB (p0.aQ==9),vB (p0.aQ==9)]<|kn<|NN H (λc8 H=>?_) λc8 H=>?_
 ·refine ks<|ko [U]<|kn<|wb<|λ_ r=>NB (β:=Nat) id (λm a w=>∃g9:Int,(dD K p1 m g9)=some r0/\∃j,Gk 40 (lk [(1,.slice W1 p1.length Xd),(5,vI g9)] j) a/\Fit z (cQ (L)) w) K ⟨0,H,r.fj (h.se 1 [])⟩<|?_;clear h r H;rintro k1 a w ⟨g9,H,j,r,h⟩;cases k1 with
  | zero=>exact absurd H (by simp[dD])
  | succ k1 =>
   rw[dD]at H;refine qq r<|wq<|ks<|ko [U,U,vI ((p1.length:Nat):Int),vB (decide (g9<((p1.length:Nat):Int)))]<|kn<|NN H (λPX H=>?_) λPX H=>?_
   ·refine wk<|tn<|wq<|wb<|ks<|qg H λRg H=>ko Zy<|kj 3 Xd Yj Rg<|λ_ r=>ld (wn rfl) r (vI (ag p1 g9.toNat)) (Yj.cell Rg (h.dn 0) 0 rfl)<|?_;refine kp (vI (eK (ag p1 g9.toNat) (2:Int))) (rand rfl (by kernel_rfl) (by kernel_rfl))<|ko [vB ((eK (ag p1 g9.toNat) (2:Int)) != 0)]<|kn<|Qf H (λUm H=>?_) λUm H=>?_
    ·refine wk<|bn<|tn<|wl<|ko [U,vI (wi (g9+1)),vI (wi (g9+1))]<|kn<|?_;exact λ_ r=>⟨_,⟨(wi (g9+1)),H,r.fj h⟩,afl _⟩
    refine ks<|ko [U]<|kn<|wr<|br<|tr<|tr<|br<|br<|tr<|?_;cases H;exact Ox h
   refine wx<|te<|te<|bh<|bn<|tn<|ks<|ko [U]<|kn<|wr<|?_;cases H;exact Ox h
 refine wk<|bn<|tn<|ks<|ko [U]<|kn<|wr<|?_;cases H;exact Ox (h.se 1 [])
def eD(K:Nat)(p0:ay):Nat->Int->Option ((Unit)⊕(bG))
 | 0,_=>none
 | k1+1,g9=>(if g9<((p0.aB.length:Nat):Int)then if aZ g9 p0.aB.length then bH (ei (ag p0.aB g9.toNat)) (λRY=>(if RY=true then(eD K p0 k1 (wi (g9+1)))else some (.inr (⟨51,g9,0⟩:bG))))else none else some (.inl ()))
def OT(K:Nat)(p0:ay)(rE:Int):Nat->Int->Option ((Unit)⊕((Unit)⊕((Unit)⊕(bG))))
 | 0,_=>none
 | k3+1,UR=>(if UR<(((ag p0.aB rE.toNat).Code.length:Nat):Int)then if aZ UR (ag p0.aB rE.toNat).Code.length then bH (gR (ag p0.aB rE.toNat) (ag (ag p0.aB rE.toNat).Code UR.toNat)) (λqU=>(if qU=true then bH (iJ p0 (ag p0.aB rE.toNat) (ag (ag p0.aB rE.toNat).Code UR.toNat)) (λuk=>(if uk=true then(OT K p0 rE k3 (wi (UR+1)))else some (.inr (.inr (.inr (⟨52,rE,UR⟩:bG))))))else some (.inr (.inr (.inr (⟨52,rE,UR⟩:bG))))))else none else some (.inl ()))
def eF(K:Nat)(p0:ay):Nat->Int->Option ((Unit)⊕(bG))
 | 0,_=>none
 | k2+1,rE=>(if rE<((p0.aB.length:Nat):Int)then kQ (if aZ rE p0.aB.length then kQ ((OT K p0 rE K 0)) (bH (gj (ag p0.aB rE.toNat)) (λnN=>(if nN=true then some (.inl ())else some (.inr (.inr (⟨53,rE,wi ((((ag p0.aB rE.toNat).Code.length:Nat):Int)-1)⟩:bG))))))else none) ((eF K p0 k2 (wi (rE+1))))else some (.inl ()))
def eG(K:Nat)(p0:ay)(oL:Int)(YM:List (List Int)):Nat->Int->Option ((Unit)⊕(bG))
 | 0,_=>none
 | k5+1,rD=>(if rD<(((ag p0.aB oL.toNat).Code.length:Nat):Int)then if aZ rD (ag p0.aB oL.toNat).Code.length then if aZ rD YM.length then bH (gP K (ag (ag p0.aB oL.toNat).Code rD.toNat) (ag YM rD.toNat)) (λCs=>(if Cs=0 then(eG K p0 oL YM k5 (wi (rD+1)))else some (.inr (⟨Cs,oL,rD⟩:bG))))else none else none else some (.inl ()))
def fD(K:Nat)(p0:ay):Nat->Int->Option (bG)
 | 0,_=>none
 | k4+1,oL=>(if oL<((p0.aB.length:Nat):Int)then kQ (if aZ oL p0.aB.length then bH (jx K (ag p0.aB oL.toNat)) (λYM=>(eG K p0 oL YM K 0))else none) ((fD K p0 k4 (wi (oL+1))))else some (⟨0,0,0⟩:bG))
def iW(K:Nat)(p0:ay):Option (bG):=
 kQ ((if((p0.aB.length:Nat):Int)<1 then some (.inr (⟨50,0,0⟩:bG))else(if((p0.aB.length:Nat):Int)>32 then some (.inr (⟨50,0,0⟩:bG))else some (.inl ())))) (kQ ((eD K p0 K 0)) (kQ ((eF K p0 K 0)) ((fD K p0 K 0))))
abbrev ue:List Value:=[U,U,U,U]
theorem TD{K:Nat}{p0:ay}{M2:Option Addr}{Na:Nat}{MV:Nat->Option Addr×Nat}{r0:bG}(H:iW K p0=some r0)(h:ft_ z (L) w)(MY:T3 L M2 MV p0.aB) :
 c0_ 49 #[.agg #[.slice M2 p0.aB.length Na]] w z (Ty r0) (L):=by
 unfold iW at H;refine ke Tryz.func49 131 rfl λj=>ks<|kN h (#[.slice M2 p0.aB.length Na]) 24 λb1 w h=>kN h (#[vI 0,vI 0,vI 0]) 95 λb2 w h=>kn<|?_;obtain⟨o4,H,Zj⟩:=U3 H;refine λ_ r=>Nn (β:=Unit) (λ_ a w=>.inl ()=o4/\∃j,Gk 131 (lk [(1,pA b1 0),(2,pA b2 0)] j) a/\Fit z (cQ (pts b1 (.cells #[.slice M2 p0.aB.length Na] 24)::pts b2 (.cells #[vI 0,vI 0,vI 0] 95)::L)) w) ?_ ?_
 ·refine qq r<|ks<|ko [U]<|kL (h.pick 1) 0<|ko [vI ((p0.aB.length:Nat):Int),vB (decide (((p0.aB.length:Nat):Int)<1)),vB (decide (((p0.aB.length:Nat):Int)<1))]<|qI H (λc5 H=>?_) λc5 H=>?_
  ·refine Nh (dT c5) [19,20,21,22]<|PT (dT c5) (vB true)<|kn<|λ_ r=>Oh r (b:=true) rfl<|qq r<|ks<|ko [U]<|kA h (pts b2 (.cells #[vI 50,vI 0,vI 0] 95)) λw h=>kn<|wr<|tr<|kC h<|?_;replace H:=Q6 H Zj;cases H;exact⟨rfl,h.se 2 []⟩
  refine Nl (dF c5) [19] [pA b1 0]<|Q7 (dF c5) (h.pick 1) 0<|Nl (dF c5) [21,22] [vI ((p0.aB.length:Nat):Int),vB (decide (((p0.aB.length:Nat):Int)>32))]<|PM (dF c5) (vB (decide (((p0.aB.length:Nat):Int)>32)))<|kn<|NN H (λc6 H=>?_) λc6 H=>?_
  ·refine ks<|ko [U]<|kA h (pts b2 (.cells #[vI 50,vI 0,vI 0] 95)) λw h=>kn<|wr<|tr<|kC h<|?_;replace H:=Q6 H Zj;cases H;exact⟨rfl,h.se 2 []⟩
  refine wk<|tn<|?_;exact λ_ r=>⟨(),On H,r.fj (h.se 2 [1,0])⟩
 clear h r;rintro _ a w ⟨rfl,j,r,h⟩;replace H:=U4 Zj;obtain⟨o8,H,YN⟩:=U3 H;refine Nn (β:=Unit) (λ_ a w=>.inl ()=o8/\∃j,Gk 131 (lk [(1,pA b1 0),(2,pA b2 0)] j) a/\Fit z (cQ (pts b1 (.cells #[.slice M2 p0.aB.length Na] 24)::pts b2 (.cells #[vI 0,vI 0,vI 0] 95)::L)) w) ?_ ?_
 ·refine qq r<|ks<|ko [U]<|kn<|wb<|λ_ r=>NB (β:=Nat) id (λm a w=>∃g9:Int,(eD K p0 m g9)=some o8/\∃j,Gk 131 (lk [(1,pA b1 0),(2,pA b2 0),(3,vI g9)] j) a/\Fit z (cQ (pts b1 (.cells #[.slice M2 p0.aB.length Na] 24)::pts b2 (.cells #[vI 0,vI 0,vI 0] 95)::L)) w) K ⟨0,H,r.fj h⟩<|?_;clear h r H;rintro k1 a w ⟨g9,H,j,r,h⟩;cases k1 with
  | zero=>exact absurd H (by simp[eD])
  | succ k1 =>
   rw[eD]at H;refine qq r<|wq<|ks<|ko Zy<|kL h 0<|ko [vI ((p0.aB.length:Nat):Int),vB (decide (g9<((p0.aB.length:Nat):Int)))]<|kn<|NN H (λPX H=>?_) λPX H=>?_
   ·refine wk<|tn<|wq<|wb<|ks<|ko [U]<|kL h 0<|qg H λRg H=>ko [U]<|kp (pA (Cp M2) (sJ M2+g9.toNat*4)) (afq 99 Na rfl rfl MY Rg)<|λ_ r=>RI (wn rfl) r (.agg #[vI (ag p0.aB g9.toNat).MW,vI (ag p0.aB g9.toNat).dA,vI (ag p0.aB g9.toNat).cA,.slice ((MV g9.toNat).1) (ag p0.aB g9.toNat).Code.length ((MV g9.toNat).2)]) (cs:=[vI (ag p0.aB g9.toNat).MW,vI (ag p0.aB g9.toNat).dA,vI (ag p0.aB g9.toNat).cA,.slice ((MV g9.toNat).1) (ag p0.aB g9.toNat).Code.length ((MV g9.toNat).2)]) ⟨MY.cell Rg (h.dn 2) 0 rfl,MY.cell Rg (h.dn 2) 1 rfl,MY.cell Rg (h.dn 2) 2 rfl,MY.cell Rg (h.dn 2) 3 rfl,CH⟩<|?_;refine Oj H λRY e13 H=>N5 (Q8 (M1:=((MV g9.toNat).1)) (M8:=((MV g9.toNat).2)) (Ni:=(jJ.up 2 (MY.Rj Rg))) (H:=e13) (h:=h) :) λw h=>ko [U]<|kn<|ks<|ko [U,vB (!RY)]<|kn<|Vb H (λRE H=>?_) λRE H=>?_
    ·refine wk<|bn<|tn<|wl<|ko [U,vI (wi (g9+1)),vI (wi (g9+1))]<|kn<|?_;exact λ_ r=>⟨_,⟨(wi (g9+1)),H,r.fj h⟩,afl _⟩
    refine ks<|ko Zy<|qh h.m1 λh=>kA h (pts b2 (.cells #[vI 51,vI g9,vI 0] 95)) λw h=>kn<|wr<|br<|tr<|tr<|br<|tr<|kC h<|?_;replace H:=Q6 H YN;cases H;exact⟨rfl,h.se 2 []⟩
   refine wx<|te<|te<|bh<|tn<|?_;exact λ_ r=>⟨(),On H,r.fj h⟩
 clear h r;rintro _ a w ⟨rfl,j,r,h⟩;replace H:=U4 YN;obtain⟨o16,H,abM⟩:=U3 H;refine Nn (β:=Unit) (λ_ a w=>.inl ()=o16/\∃j,Gk 131 (lk [(1,pA b1 0),(2,pA b2 0)] j) a/\Fit z (cQ (pts b1 (.cells #[.slice M2 p0.aB.length Na] 24)::pts b2 (.cells #[vI 0,vI 0,vI 0] 95)::L)) w) ?_ ?_
 ·refine qq r<|ks<|ko [U]<|kn<|wb<|λ_ r=>NB (β:=Nat) id (λm a w=>∃rE:Int,(eF K p0 m rE)=some o16/\∃j,Gk 131 (lk [(1,pA b1 0),(2,pA b2 0),(5,vI rE)] j) a/\Fit z (cQ (pts b1 (.cells #[.slice M2 p0.aB.length Na] 24)::pts b2 (.cells #[vI 0,vI 0,vI 0] 95)::L)) w) K ⟨0,H,r.fj h⟩<|?_;clear h r H;rintro k2 a w ⟨rE,H,j,r,h⟩;cases k2 with
  | zero=>exact absurd H (by simp[eF])
  | succ k2 =>
   rw[eF]at H;refine qq r<|wq<|ks<|ko Zy<|kL h 0<|ko [vI ((p0.aB.length:Nat):Int),vB (decide (rE<((p0.aB.length:Nat):Int)))]<|kn<|NN H (λXe H=>?_) λXe H=>?_
   ·refine wk<|tn<|?_;obtain⟨o20,H,abN⟩:=U3 H;refine λ_ r=>Nn (β:=Unit) (λ_ a w=>.inl ()=o20/\∃j,Gk 131 (lk [(1,pA b1 0),(2,pA b2 0),(5,vI rE)] j) a/\Fit z (cQ (pts b1 (.cells #[.slice M2 p0.aB.length Na] 24)::pts b2 (.cells #[vI 0,vI 0,vI 0] 95)::L)) w) ?_ ?_
    ·refine qq r<|wb<|ks<|ko [U]<|kL h 0<|qg H λQt H=>ko [U]<|kp (pA (Cp M2) (sJ M2+rE.toNat*4)) (afq 99 Na rfl rfl MY Qt)<|λ_ r=>RI (wn rfl) r (.agg #[vI (ag p0.aB rE.toNat).MW,vI (ag p0.aB rE.toNat).dA,vI (ag p0.aB rE.toNat).cA,.slice ((MV rE.toNat).1) (ag p0.aB rE.toNat).Code.length ((MV rE.toNat).2)]) (cs:=[vI (ag p0.aB rE.toNat).MW,vI (ag p0.aB rE.toNat).dA,vI (ag p0.aB rE.toNat).cA,.slice ((MV rE.toNat).1) (ag p0.aB rE.toNat).Code.length ((MV rE.toNat).2)]) ⟨MY.cell Qt (h.dn 2) 0 rfl,MY.cell Qt (h.dn 2) 1 rfl,MY.cell Qt (h.dn 2) 2 rfl,MY.cell Qt (h.dn 2) 3 rfl,CH⟩<|?_;refine kN h (#[vI 0,vI 0,vI 0,.slice none 0 0]) 99 λSh w h=>kA h (Qd Sh (ag p0.aB rE.toNat) ((MV rE.toNat).1) ((MV rE.toNat).2)) λw h=>kn<|?_;obtain⟨o24,H,Zk⟩:=U3 H;refine λ_ r=>Nn (β:=Unit) (λ_ a w=>.inl ()=o24/\∃j,Gk 131 (lk [(1,pA b1 0),(2,pA b2 0),(5,vI rE),(6,pA Sh 0)] j) a/\Fit z (cQ (pts b1 (.cells #[.slice M2 p0.aB.length Na] 24)::pts b2 (.cells #[vI 0,vI 0,vI 0] 95)::Qd Sh (ag p0.aB rE.toNat) ((MV rE.toNat).1) ((MV rE.toNat).2)::L)) w) ?_ ?_
     ·refine qq r<|ks<|ko [U]<|kn<|wb<|λ_ r=>NB (β:=Nat) id (λm a w=>∃UR:Int,(OT K p0 rE m UR)=some o24/\∃j,Gk 131 (lk [(1,pA b1 0),(2,pA b2 0),(5,vI rE),(6,pA Sh 0),(7,vI UR)] j) a/\Fit z (cQ (pts b1 (.cells #[.slice M2 p0.aB.length Na] 24)::pts b2 (.cells #[vI 0,vI 0,vI 0] 95)::Qd Sh (ag p0.aB rE.toNat) ((MV rE.toNat).1) ((MV rE.toNat).2)::L)) w) K ⟨0,H,r.fj (h.se 3 [1,2,0])⟩<|?_;clear h r H;rintro k3 a w ⟨UR,H,j,r,h⟩;cases k3 with
      | zero=>exact absurd H (by simp[OT])
      | succ k3 =>
       rw[OT]at H;refine qq r<|wq<|ks<|ko Zy<|kL (h.pick 2) 3<|ko [vI (((ag p0.aB rE.toNat).Code.length:Nat):Int),vB (decide (UR<(((ag p0.aB rE.toNat).Code.length:Nat):Int)))]<|kn<|NN H (λTs H=>?_) λTs H=>?_
       ·refine wk<|tn<|wq<|wb<|wq<|qg H λQk H=>Oj H λqU e29 H=>qI H (λRa H=>?_) λRa H=>?_
        ·refine Oj H λuk Zl H=>λ_ r=>Ob [(Sh,0,[vI (ag p0.aB rE.toNat).MW,vI (ag p0.aB rE.toNat).dA,vI (ag p0.aB rE.toNat).cA,.slice ((MV rE.toNat).1) (ag p0.aB rE.toNat).Code.length ((MV rE.toNat).2)]),(Sh,3,[.slice ((MV rE.toNat).1) (ag p0.aB rE.toNat).Code.length ((MV rE.toNat).2)]),(Cp ((MV rE.toNat).1),sJ ((MV rE.toNat).1)+UR.toNat*5,Om (ag (ag p0.aB rE.toNat).Code UR.toNat)),(b1,0,[.slice M2 p0.aB.length Na]),(Sh,0,[vI (ag p0.aB rE.toNat).MW,vI (ag p0.aB rE.toNat).dA,vI (ag p0.aB rE.toNat).cA,.slice ((MV rE.toNat).1) (ag p0.aB rE.toNat).Code.length ((MV rE.toNat).2)]),(Sh,3,[.slice ((MV rE.toNat).1) (ag p0.aB rE.toNat).Code.length ((MV rE.toNat).2)]),(Cp ((MV rE.toNat).1),sJ ((MV rE.toNat).1)+UR.toNat*5,Om (ag (ag p0.aB rE.toNat).Code UR.toNat))] [1,4,6,7,11,14] 19 h (λh=>⟨((h.pick 2).held 0 rfl),⟨(h.pick 2).cell 3 rfl,CH⟩,⟨(MY.Rj Qt).cell Qk (h.dn 3) 0 rfl,(MY.Rj Qt).cell Qk (h.dn 3) 1 rfl,(MY.Rj Qt).cell Qk (h.dn 3) 2 rfl,(MY.Rj Qt).cell Qk (h.dn 3) 3 rfl,(MY.Rj Qt).cell Qk (h.dn 3) 4 rfl,CH⟩,⟨h.cell 0 rfl,CH⟩,((h.pick 2).held 0 rfl),⟨(h.pick 2).cell 3 rfl,CH⟩,⟨(MY.Rj Qt).cell Qk (h.dn 3) 0 rfl,(MY.Rj Qt).cell Qk (h.dn 3) 1 rfl,(MY.Rj Qt).cell Qk (h.dn 3) 2 rfl,(MY.Rj Qt).cell Qk (h.dn 3) 3 rfl,(MY.Rj Qt).cell Qk (h.dn 3) 4 rfl,CH⟩,CH⟩) λw h hd =>qq r<|Oi hd 17 [(1,62,pA Sh 3),(3,64,vI UR)]<|RJ hd 0 16 0 rfl rfl<|kx hd 1 15 2 rfl rfl<|eo_ hd 14 4 rfl (pA (Cp ((MV rE.toNat).1)) (sJ ((MV rE.toNat).1)+UR.toNat*5)) (λw=>afF 146 ((MV rE.toNat).2) rfl rfl (MY.Rj Qt) Qk)<|RJ hd 2 13 5 rfl rfl<|λ_ r=>N3 6 rfl<|qq r<|N5 (Qs (M1:=((MV rE.toNat).1)) (M8:=((MV rE.toNat).2)) (Ni:=(jJ.up 3 (MY.Rj Qt))) (H:=e29) (h:=h) :) λw h=>kn<|λ_ r=>eE ⟨((h.pick 2).held 0 rfl),⟨(h.pick 2).cell 3 rfl,CH⟩,⟨(MY.Rj Qt).cell Qk (h.dn 3) 0 rfl,(MY.Rj Qt).cell Qk (h.dn 3) 1 rfl,(MY.Rj Qt).cell Qk (h.dn 3) 2 rfl,(MY.Rj Qt).cell Qk (h.dn 3) 3 rfl,(MY.Rj Qt).cell Qk (h.dn 3) 4 rfl,CH⟩,⟨h.cell 0 rfl,CH⟩,((h.pick 2).held 0 rfl),⟨(h.pick 2).cell 3 rfl,CH⟩,⟨(MY.Rj Qt).cell Qk (h.dn 3) 0 rfl,(MY.Rj Qt).cell Qk (h.dn 3) 1 rfl,(MY.Rj Qt).cell Qk (h.dn 3) 2 rfl,(MY.Rj Qt).cell Qk (h.dn 3) 3 rfl,(MY.Rj Qt).cell Qk (h.dn 3) 4 rfl,CH⟩,CH⟩ λhd =>qq r<|Oi hd 10 [(7,68,vB (!qU)),(8,69,vB (!qU))]<|λ_ r=>Pj hd 9 11 rfl (PB r (nT Ra)) r (pA Sh 3)<|?_;refine λ_ r=>Pj hd 8 13 rfl (PB r (nT Ra)) r (vI UR)<|?_;refine λ_ r=>elm hd 3 7 9 r (PB r (nT Ra)) rfl rfl<|?_;refine λ_ r=>elm hd 4 6 10 r (PB r (nT Ra)) rfl rfl<|?_;refine λ_ r=>elx hd 5 5 12 r (PB r (nT Ra)) rfl rfl<|?_;refine λ_ r=>Pj hd 4 14 rfl (PB r (nT Ra)) r (pA (Cp ((MV rE.toNat).1)) (sJ ((MV rE.toNat).1)+UR.toNat*5)) (hrun:=λw=>afF 146 ((MV rE.toNat).2) rfl rfl (MY.Rj Qt) Qk)<|?_;refine λ_ r=>elm hd 6 3 15 r (PB r (nT Ra)) rfl rfl<|?_
         refine λ_ r=>N3 16 rfl<|qq r<|xg0 (nT Ra) (Tf (M2:=M2) (Na:=Na) (MY:=(wC.up 3 MY)) (Nk:=((MV rE.toNat).1)) (Np:=((MV rE.toNat).2)) (NP:=(jJ.up 3 (MY.Rj Qt))) (MV:=MV) (H:=Zl) (h:=h) :) λw h=>kn<|λ_ r=>xE<|ON 1 17 rfl (PB r (nT Ra)) r (vB (!uk))<|?_;refine λ_ r=>ON 0 18 rfl (wn rfl) r (vB (!uk)) (hrun:=λw=>XH (b:=(!qU)) rfl (by kernel_rfl) (nT Ra) (by kernel_rfl))<|?_;refine λ_ r=>O4<|qq r<|tn<|Vb H (λSs H=>?_) λSs H=>?_
         ·refine wk<|bn<|tn<|wl<|ko [U,vI (wi (UR+1)),vI (wi (UR+1))]<|kn<|?_;exact λ_ r=>⟨_,⟨(wi (UR+1)),H,r.fj h⟩,afl _⟩
         refine ks<|ko mT<|qh h.m1 λh=>kA h (pts b2 (.cells #[vI 52,vI rE,vI UR] 95)) λw h=>kn<|wr<|br<|tr<|tr<|br<|tr<|br<|tr<|tr<|br<|tr<|kC h<|?_;replace H:=Q6 H Zk;replace H:=Q6 H abN;replace H:=Q6 H abM;cases H;exact⟨rfl,h.se 3 []⟩
        refine λ_ r=>Ob [(Sh,0,[vI (ag p0.aB rE.toNat).MW,vI (ag p0.aB rE.toNat).dA,vI (ag p0.aB rE.toNat).cA,.slice ((MV rE.toNat).1) (ag p0.aB rE.toNat).Code.length ((MV rE.toNat).2)]),(Sh,3,[.slice ((MV rE.toNat).1) (ag p0.aB rE.toNat).Code.length ((MV rE.toNat).2)]),(Cp ((MV rE.toNat).1),sJ ((MV rE.toNat).1)+UR.toNat*5,Om (ag (ag p0.aB rE.toNat).Code UR.toNat))] [1,4] 19 h (λh=>⟨((h.pick 2).held 0 rfl),⟨(h.pick 2).cell 3 rfl,CH⟩,⟨(MY.Rj Qt).cell Qk (h.dn 3) 0 rfl,(MY.Rj Qt).cell Qk (h.dn 3) 1 rfl,(MY.Rj Qt).cell Qk (h.dn 3) 2 rfl,(MY.Rj Qt).cell Qk (h.dn 3) 3 rfl,(MY.Rj Qt).cell Qk (h.dn 3) 4 rfl,CH⟩,CH⟩) λw h hd =>qq r<|Oi hd 17 [(1,62,pA Sh 3),(3,64,vI UR)]<|RJ hd 0 16 0 rfl rfl<|kx hd 1 15 2 rfl rfl<|eo_ hd 14 4 rfl (pA (Cp ((MV rE.toNat).1)) (sJ ((MV rE.toNat).1)+UR.toNat*5)) (λw=>afF 146 ((MV rE.toNat).2) rfl rfl (MY.Rj Qt) Qk)<|RJ hd 2 13 5 rfl rfl<|λ_ r=>N3 6 rfl<|qq r<|N5 (Qs (M1:=((MV rE.toNat).1)) (M8:=((MV rE.toNat).2)) (Ni:=(jJ.up 3 (MY.Rj Qt))) (H:=e29) (h:=h) :) λw h=>kn<|λ_ r=>xE<|qq r<|ev_ 11 7 rfl (vB (!qU))<|ev_ 10 8 rfl (vB (!qU))<|λ_ r=>eos 9 11 rfl (PB r (nF Ra)) r<|?_;refine λ_ r=>eos 8 13 rfl (PB r (nF Ra)) r<|?_;refine λ_ r=>eos 7 9 rfl (PB r (nF Ra)) r<|?_;refine λ_ r=>eos 6 10 rfl (PB r (nF Ra)) r<|?_;refine λ_ r=>eos 5 12 rfl (PB r (nF Ra)) r<|?_;refine λ_ r=>eos 4 14 rfl (PB r (nF Ra)) r<|?_;refine λ_ r=>eos 3 15 rfl (PB r (nF Ra)) r<|?_;refine λ_ r=>N3 16 rfl<|adO (PB r (nF Ra)) r<|?_;refine kn<|λ_ r=>xE<|eos 1 17 rfl (PB r (nF Ra)) r<|?_;refine λ_ r=>ON 0 18 rfl (wn rfl) r (vB true) (hrun:=λw=>W5 (b:=(!qU)) rfl (by kernel_rfl) (nF Ra) (by kernel_rfl))<|?_;refine λ_ r=>O4<|qq r<|tn<|λ_ r=>Oh r (b:=true) rfl<|qq r<|ks<|ko mT<|qh h.m1 λh=>kA h (pts b2 (.cells #[vI 52,vI rE,vI UR] 95)) λw h=>kn<|wr<|br<|tr<|tr<|br<|tr<|br<|tr<|tr<|br<|tr<|kC h<|?_;replace H:=Q6 H Zk;replace H:=Q6 H abN;replace H:=Q6 H abM;cases H;exact⟨rfl,h.se 3 []⟩
       refine wx<|te<|te<|bh<|tn<|?_;exact λ_ r=>⟨(),On H,r.fj h⟩
     clear h r;rintro _ a w ⟨rfl,j,r,h⟩;replace H:=U4 Zk;refine qq r<|ks<|kM (h.pick 2)<|Oj H λnN XU H=>N5 (Rv (M1:=((MV rE.toNat).1)) (M8:=((MV rE.toNat).2)) (Ni:=(jJ.up 3 (MY.Rj Qt))) (H:=XU) (h:=h) :) λw h=>ko [U]<|kn<|ks<|ko [U,vB (!nN)]<|kn<|Vb H (λVC H=>?_) λVC H=>?_
     ·refine wk<|bn<|tn<|?_;exact λ_ r=>⟨(),On H,r.fj (h.se 3 [0,1])⟩
     refine ks<|ko Zy<|kL (h.pick 2) 3<|ko [vI (((ag p0.aB rE.toNat).Code.length:Nat):Int),vI (wi ((((ag p0.aB rE.toNat).Code.length:Nat):Int)-1)),.agg #[vI 53,vI rE,vI (wi ((((ag p0.aB rE.toNat).Code.length:Nat):Int)-1))]]<|qh h.m1 λh=>kA h (pts b2 (.cells #[vI 53,vI rE,vI (wi ((((ag p0.aB rE.toNat).Code.length:Nat):Int)-1))] 95)) λw h=>kn<|wr<|br<|tr<|tr<|br<|tr<|kC h<|?_;replace H:=Q6 H abN;replace H:=Q6 H abM;cases H;exact⟨rfl,h.se 3 []⟩
    clear h r;rintro _ a w ⟨rfl,j,r,h⟩;replace H:=U4 abN;refine qq r<|wl<|ko [U,vI (wi (rE+1)),vI (wi (rE+1))]<|kn<|?_;exact λ_ r=>⟨_,⟨(wi (rE+1)),H,r.fj h⟩,afl _⟩
   refine wx<|te<|te<|bh<|tn<|?_;exact λ_ r=>⟨(),On H,r.fj h⟩
 clear h r;rintro _ a w ⟨rfl,j,r,h⟩;replace H:=U4 abM;refine qq r<|wq<|ks<|ko [U]<|kn<|wb<|λ_ r=>NB (β:=Nat) id (λm a w=>∃oL:Int,(fD K p0 m oL)=some r0/\∃j,Gk 131 (lk [(1,pA b1 0),(2,pA b2 0),(9,vI oL)] j) a/\Fit z (cQ (pts b1 (.cells #[.slice M2 p0.aB.length Na] 24)::pts b2 (.cells #[vI 0,vI 0,vI 0] 95)::L)) w) K ⟨0,H,r.fj h⟩<|?_;clear h r H;rintro k4 a w ⟨oL,H,j,r,h⟩;cases k4 with
 | zero=>exact absurd H (by simp[fD])
 | succ k4 =>
  rw[fD]at H;refine qq r<|wq<|ks<|ko Zy<|kL h 0<|ko [vI ((p0.aB.length:Nat):Int),vB (decide (oL<((p0.aB.length:Nat):Int)))]<|kn<|NN H (λXc H=>?_) λXc H=>?_
  ·refine wk<|tn<|?_;obtain⟨o40,H,adn⟩:=U3 H;refine λ_ r=>Nn (β:=Unit) (λ_ a w=>.inl ()=o40/\∃j,Gk 131 (lk [(1,pA b1 0),(2,pA b2 0),(9,vI oL)] j) a/\Fit z (cQ (pts b1 (.cells #[.slice M2 p0.aB.length Na] 24)::pts b2 (.cells #[vI 0,vI 0,vI 0] 95)::L)) w) ?_ ?_
   ·refine qq r<|wb<|ks<|ko [U]<|kL h 0<|qg H λSF H=>ko [U]<|kp (pA (Cp M2) (sJ M2+oL.toNat*4)) (afq 99 Na rfl rfl MY SF)<|λ_ r=>RI (wn rfl) r (.agg #[vI (ag p0.aB oL.toNat).MW,vI (ag p0.aB oL.toNat).dA,vI (ag p0.aB oL.toNat).cA,.slice ((MV oL.toNat).1) (ag p0.aB oL.toNat).Code.length ((MV oL.toNat).2)]) (cs:=[vI (ag p0.aB oL.toNat).MW,vI (ag p0.aB oL.toNat).dA,vI (ag p0.aB oL.toNat).cA,.slice ((MV oL.toNat).1) (ag p0.aB oL.toNat).Code.length ((MV oL.toNat).2)]) ⟨MY.cell SF (h.dn 2) 0 rfl,MY.cell SF (h.dn 2) 1 rfl,MY.cell SF (h.dn 2) 2 rfl,MY.cell SF (h.dn 2) 3 rfl,CH⟩<|?_;refine kN h (#[vI 0,vI 0,vI 0,.slice none 0 0]) 99 λb42 w h=>kA h (Qd b42 (ag p0.aB oL.toNat) ((MV oL.toNat).1) ((MV oL.toNat).2)) λw h=>kn<|ks<|kM h<|Oj H λYM e44 H=>xc2 (T5 (M1:=((MV oL.toNat).1)) (M8:=((MV oL.toNat).2)) (Ni:=(jJ.up 3 (MY.Rj SF))) (H:=e44) (h:=h) :) λx45 x46 w h=>ko [U]<|kn<|ks<|ko [U]<|kn<|wb<|λ_ r=>NB (β:=Nat) id (λm a w=>∃rD:Int,(eG K p0 oL YM m rD)=some o40/\∃j,Gk 131 (lk [(1,pA b1 0),(2,pA b2 0),(9,vI oL),(10,pA b42 0),(11,.slice x45 YM.length x46),(12,vI rD)] j) a/\Fit z (cQ (pts b1 (.cells #[.slice M2 p0.aB.length Na] 24)::pts b2 (.cells #[vI 0,vI 0,vI 0] 95)::Qd b42 (ag p0.aB oL.toNat) ((MV oL.toNat).1) ((MV oL.toNat).2)::XO x45 x46 YM::L)) w) K ⟨0,H,r.fj (h.se 4 [2,3,1,0])⟩<|?_;clear h r H;rintro k5 a w ⟨rD,H,j,r,h⟩;cases k5 with
    | zero=>exact absurd H (by simp[eG])
    | succ k5 =>
     rw[eG]at H;refine qq r<|wq<|ks<|ko Zy<|kL (h.pick 2) 3<|ko [vI (((ag p0.aB oL.toNat).Code.length:Nat):Int),vB (decide (rD<(((ag p0.aB oL.toNat).Code.length:Nat):Int)))]<|kn<|NN H (λc48 H=>?_) λc48 H=>?_
     ·refine wk<|tn<|wq<|wb<|wq<|qg H λVI H=>qg H λZU H=>?_;obtain⟨afb,h⟩:=h.m3.Pr (zN ZU);obtain⟨VK,VL,e53,h⟩:=PE (h.m1);subst e53;refine Oj H λCs e56 H=>λ_ r=>Ob [(b42,3,[.slice ((MV oL.toNat).1) (ag p0.aB oL.toNat).Code.length ((MV oL.toNat).2)]),(Cp ((MV oL.toNat).1),sJ ((MV oL.toNat).1)+rD.toNat*5,Om (ag (ag p0.aB oL.toNat).Code rD.toNat)),(Cp x45,rD.toNat*1,[.slice VK (ag YM rD.toNat).length VL])] [0,3,7] 11 h (λh=>⟨⟨(h.pick 4).cell 3 rfl,CH⟩,⟨(MY.Rj SF).cell VI (h.dn 5) 0 rfl,(MY.Rj SF).cell VI (h.dn 5) 1 rfl,(MY.Rj SF).cell VI (h.dn 5) 2 rfl,(MY.Rj SF).cell VI (h.dn 5) 3 rfl,(MY.Rj SF).cell VI (h.dn 5) 4 rfl,CH⟩,⟨(h.pick 1).P8 (by decide) (f:=0) rfl,CH⟩,CH⟩) λw h hd =>qq r<|Oi hd 7 [(0,114,pA b42 3),(2,116,vI rD),(5,119,.slice x45 YM.length x46),(6,120,vI rD)]<|eo_ hd 6 7 rfl (pA (Cp x45) (rD.toNat*1)) (λw=>RA (k:=.i64) (E:=28) rfl (by kernel_rfl) (by kernel_rfl) (by kernel_rfl) (by kernel_rfl) (h.pick 1) ZU)<|kx hd 0 5 1 rfl rfl<|eo_ hd 4 3 rfl (pA (Cp ((MV oL.toNat).1)) (sJ ((MV oL.toNat).1)+rD.toNat*5)) (λw=>afF 146 ((MV oL.toNat).2) rfl rfl (MY.Rj SF) VI)<|RJ hd 1 3 4 rfl rfl<|kx hd 2 2 8 rfl rfl<|λ_ r=>N3 9 rfl<|qq r<|N5 (Sg (W1:=VK) (Xd:=VL) (Yj:=(jJ.V8 rm h (λh=>h))) (H:=e56) (h:=h) :) λw h=>kn<|λ_ r=>xE<|qq r<|ev_ 0 10 rfl (vI Cs)<|λ_ r=>O4<|qq r<|tn<|ks<|ko [U,vB (Cs != 0)]<|kn<|Qf H (λc57 H=>?_) λc57 H=>?_
      ·refine wk<|bn<|tn<|wl<|ko [U,vI (wi (rD+1)),vI (wi (rD+1))]<|kn<|?_;replace h:=OJ (x:=(ag YM rD.toNat)) h;replace h:=(h.m1).OC;exact λ_ r=>⟨_,⟨(wi (rD+1)),H,r.fj (h.se 4 [1,2,3,0])⟩,afl _⟩
      refine ks<|ko ue<|qh h.m3 λh=>kA h (pts b2 (.cells #[vI Cs,vI oL,vI rD] 95)) λw h=>kn<|wr<|br<|tr<|tr<|br<|br<|tr<|tr<|br<|tr<|kC h<|qh h.m2.m2 λh=>?_;replace h:=OJ (x:=(ag YM rD.toNat)) h;replace h:=(h.m1).OC;replace H:=Q6 H adn;cases H;exact⟨rfl,h.se 4 []⟩
     refine wx<|te<|te<|bh<|bn<|tn<|?_;exact λ_ r=>⟨(),On H,r.fj (h.se 4 [0,1])⟩
   clear h r;rintro _ a w ⟨rfl,j,r,h⟩;replace H:=U4 adn;refine qq r<|wl<|ko [U,vI (wi (oL+1)),vI (wi (oL+1))]<|kn<|?_;exact λ_ r=>⟨_,⟨(wi (oL+1)),H,r.fj h⟩,afl _⟩
  refine wx<|te<|te<|bh<|tn<|ks<|ko [U]<|qh h.m1 λh=>kA h (pts b2 (.cells #[vI 0,vI 0,vI 0] 95)) λw h=>kn<|wr<|kC h<|?_;cases H;exact⟨rfl,h.se 2 []⟩
def gV(K:Nat)(p0:ay)(p1:List Int)(p2:Int)(p3:bY):Option (Int):=
 bH (iW K p0) (λr3=>(if r3.AX=0 then if aZ (0:Int) p0.aB.length then(if((p1.length:Nat):Int)=(ag p0.aB 0).MW then(if p2<1 then some 110 else(if p2>64 then some 110 else bH (eU p3) (λpq=>(if pq=true then some 111 else some 0))))else some 61)else none else some 60))
theorem SG{K:Nat}{p0:ay}{p1:List Int}{p2 r0:Int}{p3:bY}{M2 W1:Option Addr}{Na Xd:Nat}{MV:Nat->Option Addr×Nat}(H:gV K p0 p1 p2 p3=some r0)(h:ft_ z (L) w)(MY:T3 L M2 MV p0.aB)(Yj:jJ L 1 oE W1 p1) :
 c0_ 16 #[.agg #[.slice M2 p0.aB.length Na],.slice W1 p1.length Xd,vI p2,O7 p3] w z (vI r0) (L):=by
 unfold gV at H;refine ke Tryz.func16 35 rfl λj=>ks<|kN h (#[.slice M2 p0.aB.length Na]) 24 λb1 w h=>kN h (Pb p3) 27 λb2 w h=>ko [U]<|kn<|ks<|λ_ r=>RI (wn rfl) r (.agg #[.slice M2 p0.aB.length Na]) (cs:=[.slice M2 p0.aB.length Na]) ⟨(h.pick 1).cell 0 rfl,CH⟩<|?_;refine Oj H λr3 e4 H=>N5 (TD (M2:=M2) (Na:=Na) (MY:=(wC.up 2 MY)) (MV:=MV) (H:=e4) (h:=h) :) λw h=>kN h (#[vI 0,vI 0,vI 0]) 95 λb5 w h=>kA h (adW b5 r3) λw h=>kn<|wq<|wb<|ks<|ko [U]<|kL h 0<|ko [vB (r3.AX != 0),vB (r3.AX != 0)]<|kn<|Qf H (λc6 H=>?_) λc6 H=>?_
 ·refine ks<|ko [U,vI ((p1.length:Nat):Int),U]<|kL (h.pick 2) 0<|qg H λc7 H=>kp (pA (Cp M2) (sJ M2+0*4)) (afq 99 Na rfl rfl MY c7)<|ko [U]<|λ_ r=>ld (wn rfl) r (vI (ag p0.aB 0).MW) (MY.cell c7 (h.dn 3) 0 rfl)<|?_;refine ko [vB (((p1.length:Nat):Int) != (ag p0.aB 0).MW),vB (((p1.length:Nat):Int) != (ag p0.aB 0).MW)]<|kn<|Qf H (λc8 H=>?_) λc8 H=>?_
  ·refine ks<|ko [U,vB (decide (p2<1)),vB (decide (p2<1))]<|qI H (λc9 H=>?_) λc9 H=>?_
   ·refine Nh (dT c9) [29,30]<|PT (dT c9) (vB true)<|ko [U]<|kn<|λ_ r=>Oh r (b:=true) rfl<|qq r<|ks<|ko [U]<|kn<|wr<|br<|tr<|?_;cases H;exact Ox (h.se 3 [])
   refine Nl (dF c9) [29,30] [vI p2,vB (decide (p2>64))]<|PM (dF c9) (vB (decide (p2>64)))<|ko [vB (decide (p2>64))]<|kn<|NN H (λPX H=>?_) λPX H=>?_
   ·refine ks<|ko [U]<|kn<|wr<|br<|tr<|?_;cases H;exact Ox (h.se 3 [])
   refine ks<|kM (h.pick 1)<|Oj H λpq Vd H=>N5 (RZ (H:=Vd) (h:=h) :) λw h=>ko [U]<|kn<|V4 H (λSC H=>?_) λSC H=>?_
   ·refine ks<|ko [U]<|kn<|wr<|br<|tr<|?_;cases H;exact Ox (h.se 3 [])
   refine wk<|bn<|tn<|ks<|ko [U]<|kn<|wr<|?_;cases H;exact Ox (h.se 3 [])
  refine ks<|ko [U]<|kn<|wr<|br<|tr<|?_;cases H;exact Ox (h.se 3 [])
 refine ks<|ko [U]<|kn<|wr<|br<|tr<|?_;cases H;exact Ox (h.se 3 [])
def lp(p0:ax):Option (Bool):=
 kQ ((if p0.MW<0 then some (.inr false)else(if p0.MW>8 then some (.inr false)else(if p0.dA<1 then some (.inr false)else(if p0.dA<p0.MW then some (.inr false)else(if p0.dA>16 then some (.inr false)else some (.inl ()))))))) ((if p0.cA>=0 then(if p0.cA<=8 then(if((p0.Code.length:Nat):Int)>=1 then some (decide (((p0.Code.length:Nat):Int)<=512))else some false)else some false)else some false))
theorem VM{p0:ax}{M1:Option Addr}{M8:Nat}{r0:Bool}(H:lp p0=some r0)(h:ft_ z (L) w)(Ni:jJ L 5 gJ M1 p0.Code) :
 c0_ 114 #[.agg #[vI p0.MW,vI p0.dA,vI p0.cA,.slice M1 p0.Code.length M8]] w z (vB r0) (L):=by
 unfold lp at H;refine ke Tryz.func114 48 rfl λj=>ks<|kN h (#[vI p0.MW,vI p0.dA,vI p0.cA,.slice M1 p0.Code.length M8]) 99 λb1 w h=>ko [U]<|kn<|?_;obtain⟨o3,H,VB⟩:=U3 H;refine λ_ r=>Nn (β:=Unit) (λ_ a w=>.inl ()=o3/\∃j,Gk 48 (lk [(1,pA b1 0)] j) a/\Fit z (cQ (Qd b1 p0 M1 M8::L)) w) ?_ ?_
 ·refine qq r<|ks<|ko [U]<|kL h 0<|ko [vB (decide (p0.MW<0)),vB (decide (p0.MW<0))]<|qI H (λc4 H=>?_) λc4 H=>?_
  ·refine Nh (dT c4) [7,8,9]<|PT (dT c4) (vB true)<|ko [U]<|Nh (rfl:true=true) [12,13,14]<|ko Zy<|Nh (rfl:true=true) [17,18,19,20,21]<|ko Zy<|Nh (rfl:true=true) [24,25,26]<|ko [U]<|kn<|λ_ r=>Oh r (b:=true) rfl<|qq r<|ks<|ko [U]<|kn<|wr<|tr<|λ_ r=>afn (vB false) rfl r<|?_;replace H:=Q6 H VB;cases H;exact⟨rfl,h.se 1 []⟩
  refine Nl (dF c4) [7] [pA b1 0]<|Q7 (dF c4) h 0<|Nl (dF c4) [9] [vB (decide (p0.MW>8))]<|PM (dF c4) (vB (decide (p0.MW>8)))<|ko [vB (decide (p0.MW>8))]<|qI H (λc5 H=>?_) λc5 H=>?_
  ·refine Nh (dT c5) [12,13,14]<|PT (dT c5) (vB true)<|ko [U]<|Nh (rfl:true=true) [17,18,19,20,21]<|ko Zy<|Nh (rfl:true=true) [24,25,26]<|ko [U]<|kn<|λ_ r=>Oh r (b:=true) rfl<|qq r<|ks<|ko [U]<|kn<|wr<|tr<|λ_ r=>afn (vB false) rfl r<|?_;replace H:=Q6 H VB;cases H;exact⟨rfl,h.se 1 []⟩
  refine Nl (dF c5) [12] [pA b1 1]<|Q7 (dF c5) h 1<|Nl (dF c5) [14] [vB (decide (p0.dA<1))]<|PM (dF c5) (vB (decide (p0.dA<1)))<|ko [vB (decide (p0.dA<1))]<|qI H (λc6 H=>?_) λc6 H=>?_
  ·refine Nh (dT c6) [17,18,19,20,21]<|PT (dT c6) (vB true)<|ko [U]<|Nh (rfl:true=true) [24,25,26]<|ko [U]<|kn<|λ_ r=>Oh r (b:=true) rfl<|qq r<|ks<|ko [U]<|kn<|wr<|tr<|λ_ r=>afn (vB false) rfl r<|?_;replace H:=Q6 H VB;cases H;exact⟨rfl,h.se 1 []⟩
  refine Nl (dF c6) [17] [pA b1 1]<|Q7 (dF c6) h 1<|Nl (dF c6) [19] [pA b1 0]<|Q7 (dF c6) h 0<|Nl (dF c6) [21] [vB (decide (p0.dA<p0.MW))]<|PM (dF c6) (vB (decide (p0.dA<p0.MW)))<|ko [vB (decide (p0.dA<p0.MW))]<|qI H (λc7 H=>?_) λc7 H=>?_
  ·refine Nh (dT c7) [24,25,26]<|PT (dT c7) (vB true)<|kn<|λ_ r=>Oh r (b:=true) rfl<|qq r<|ks<|ko [U]<|kn<|wr<|tr<|λ_ r=>afn (vB false) rfl r<|?_;replace H:=Q6 H VB;cases H;exact⟨rfl,h.se 1 []⟩
  refine Nl (dF c7) [24] [pA b1 1]<|Q7 (dF c7) h 1<|Nl (dF c7) [26] [vB (decide (p0.dA>16))]<|PM (dF c7) (vB (decide (p0.dA>16)))<|kn<|NN H (λc8 H=>?_) λc8 H=>?_
  ·refine ks<|ko [U]<|kn<|wr<|tr<|λ_ r=>afn (vB false) rfl r<|?_;replace H:=Q6 H VB;cases H;exact⟨rfl,h.se 1 []⟩
  refine wk<|tn<|?_;exact λ_ r=>⟨(),On H,r.fj h⟩
 clear h r;rintro _ a w ⟨rfl,j,r,h⟩;replace H:=U4 VB;refine qq r<|ks<|ko [U]<|kL h 2<|ko [vB (decide (p0.cA>=0)),vB (decide (p0.cA>=0))]<|qI H (λc9 H=>?_) λc9 H=>?_
 ·refine Nl (dT c9) [32] [pA b1 2]<|Q7 (dT c9) h 2<|Nl (dT c9) [34] [vB (decide (p0.cA<=8))]<|PT (dT c9) (vB (decide (p0.cA<=8)))<|ko [vB (decide (p0.cA<=8))]<|qI H (λPX H=>?_) λPX H=>?_
  ·refine Nl (dT PX) [37] [pA b1 3]<|Q7 (dT PX) h 3<|Nl (dT PX) [39,40] [vI ((p0.Code.length:Nat):Int),vB (decide (((p0.Code.length:Nat):Int)>=1))]<|PT (dT PX) (vB (decide (((p0.Code.length:Nat):Int)>=1)))<|ko [vB (decide (((p0.Code.length:Nat):Int)>=1))]<|qI H (λRg H=>?_) λRg H=>?_
   ·refine Nl (dT Rg) [43] [pA b1 3]<|Q7 (dT Rg) h 3<|Nl (dT Rg) [45,46] [vI ((p0.Code.length:Nat):Int),vB (decide (((p0.Code.length:Nat):Int)<=512))]<|PT (dT Rg) (vB (decide (((p0.Code.length:Nat):Int)<=512)))<|ko [vB (decide (((p0.Code.length:Nat):Int)<=512))]<|kn<|wr<|?_;cases H;exact Ox (h.se 1 [])
   refine Nh (dF Rg) [43,44,45,46]<|PM (dF Rg) (vB false)<|ko [U]<|kn<|wr<|?_;cases H;exact Ox (h.se 1 [])
  refine Nh (dF PX) [37,38,39,40]<|PM (dF PX) (vB false)<|ko [U]<|Nh (rfl:false=false) [43,44,45,46]<|ko Zy<|kn<|wr<|?_;cases H;exact Ox (h.se 1 [])
 refine Nh (dF c9) [32,33,34]<|PM (dF c9) (vB false)<|ko [U]<|Nh (rfl:false=false) [37,38,39,40]<|ko Zy<|Nh (rfl:false=false) [43,44,45,46]<|ko Zy<|kn<|wr<|?_;cases H;exact Ox (h.se 1 [])
def mF(p0:Int)(p1:Int)(p2:ax)(p3:Int):Option (Bool):=
 (if p0=0 then some true else(if p0=1 then(if p1>=0 then some (decide (p1<p2.dA))else some false)else(if p0=2 then(if p1>=0 then some (decide (p1<p2.cA))else some false)else(if p0=3 then(if p1>=0 then some (decide (p1<((p2.Code.length:Nat):Int)))else some false)else(if p0=5 then(if p1>=0 then some (decide (p1<16))else some false)else(if p0=4 then(if p3<0 then some true else(if p1>=0 then some (decide (p1<p3))else some false))else(if p1>=0 then some (decide (p1<0))else some false)))))))
theorem SV{p0 p1 p3:Int}{p2:ax}{SH:Option Addr}{TE:Nat}{r0:Bool}(H:mF p0 p1 p2 p3=some r0)(h:ft_ z (L) w)(Wo:jJ L 5 gJ SH p2.Code) :
 c0_ 197 #[vI p0,vI p1,.agg #[vI p2.MW,vI p2.dA,vI p2.cA,.slice SH p2.Code.length TE],vI p3] w z (vB r0) (L):=by
 unfold mF at H;refine ke Tryz.func197 40 rfl λj=>ks<|kN h (#[vI p2.MW,vI p2.dA,vI p2.cA,.slice SH p2.Code.length TE]) 99 λb1 w h=>ko [U]<|kn<|ks<|ko [U]<|kn<|wq<|ks<|ko [U]<|kn<|wb<|ks<|ko [vB (p0==0),vB (p0==0)]<|kn<|NN H (λc2 H=>?_) λc2 H=>?_
 ·refine ks<|ko [U]<|kn<|wr<|br<|tr<|?_;cases H;exact Ox (h.se 1 [])
 refine ks<|ko [vB (p0==1),vB (p0==1)]<|kn<|NN H (λc3 H=>?_) λc3 H=>?_
 ·refine wl<|ko [U]<|kL h 1<|ko [U]<|kl<|bn<|tn<|ks<|ko [U,vB (decide (p1>=0)),vB (decide (p1>=0))]<|qI H (λc4 H=>?_) λc4 H=>?_
  ·refine Nl (dT c4) [36,37,38] [vI p1,vI p2.dA,vB (decide (p1<p2.dA))]<|PT (dT c4) (vB (decide (p1<p2.dA)))<|ko [vB (decide (p1<p2.dA))]<|kn<|wr<|?_;cases H;exact Ox (h.se 1 [])
  refine Nh (dF c4) [36,37,38]<|PM (dF c4) (vB false)<|ko [U]<|kn<|wr<|?_;cases H;exact Ox (h.se 1 [])
 refine ks<|ko [vB (p0==2),vB (p0==2)]<|kn<|NN H (λc5 H=>?_) λc5 H=>?_
 ·refine wl<|ko [U]<|kL h 2<|ko [U]<|kl<|bn<|tn<|ks<|ko [U,vB (decide (p1>=0)),vB (decide (p1>=0))]<|qI H (λc6 H=>?_) λc6 H=>?_
  ·refine Nl (dT c6) [36,37,38] [vI p1,vI p2.cA,vB (decide (p1<p2.cA))]<|PT (dT c6) (vB (decide (p1<p2.cA)))<|ko [vB (decide (p1<p2.cA))]<|kn<|wr<|?_;cases H;exact Ox (h.se 1 [])
  refine Nh (dF c6) [36,37,38]<|PM (dF c6) (vB false)<|ko [U]<|kn<|wr<|?_;cases H;exact Ox (h.se 1 [])
 refine ks<|ko [vB (p0==3),vB (p0==3)]<|kn<|NN H (λc7 H=>?_) λc7 H=>?_
 ·refine wl<|ko [U]<|kL h 3<|ko [vI ((p2.Code.length:Nat):Int),vI ((p2.Code.length:Nat):Int)]<|kl<|bn<|tn<|ks<|ko [U,vB (decide (p1>=0)),vB (decide (p1>=0))]<|qI H (λc8 H=>?_) λc8 H=>?_
  ·refine Nl (dT c8) [36,37,38] [vI p1,vI ((p2.Code.length:Nat):Int),vB (decide (p1<((p2.Code.length:Nat):Int)))]<|PT (dT c8) (vB (decide (p1<((p2.Code.length:Nat):Int))))<|ko [vB (decide (p1<((p2.Code.length:Nat):Int)))]<|kn<|wr<|?_;cases H;exact Ox (h.se 1 [])
  refine Nh (dF c8) [36,37,38]<|PM (dF c8) (vB false)<|ko [U]<|kn<|wr<|?_;cases H;exact Ox (h.se 1 [])
 refine ks<|ko [vB (p0==5),vB (p0==5)]<|kn<|NN H (λc9 H=>?_) λc9 H=>?_
 ·refine wl<|ko [U]<|kl<|bn<|tn<|ks<|ko [U,vB (decide (p1>=0)),vB (decide (p1>=0))]<|qI H (λPX H=>?_) λPX H=>?_
  ·refine Nl (dT PX) [36,37,38] [vI p1,vI 16,vB (decide (p1<16))]<|PT (dT PX) (vB (decide (p1<16)))<|ko [vB (decide (p1<16))]<|kn<|wr<|?_;cases H;exact Ox (h.se 1 [])
  refine Nh (dF PX) [36,37,38]<|PM (dF PX) (vB false)<|ko [U]<|kn<|wr<|?_;cases H;exact Ox (h.se 1 [])
 refine ks<|ko [vB (p0==4),vB (p0==4)]<|kn<|NN H (λRg H=>?_) λRg H=>?_
 ·refine wq<|ks<|ko [U,vB (decide (p3<0))]<|kn<|NN H (λUm H=>?_) λUm H=>?_
  ·refine ks<|ko [U]<|kn<|wr<|tr<|br<|tr<|?_;cases H;exact Ox (h.se 1 [])
  refine wk<|tn<|wl<|ko Zy<|kl<|bn<|tn<|ks<|ko [U,vB (decide (p1>=0)),vB (decide (p1>=0))]<|qI H (λSC H=>?_) λSC H=>?_
  ·refine Nl (dT SC) [36,37,38] [vI p1,vI p3,vB (decide (p1<p3))]<|PT (dT SC) (vB (decide (p1<p3)))<|ko [vB (decide (p1<p3))]<|kn<|wr<|?_;cases H;exact Ox (h.se 1 [])
  refine Nh (dF SC) [36,37,38]<|PM (dF SC) (vB false)<|ko [U]<|kn<|wr<|?_;cases H;exact Ox (h.se 1 [])
 refine wk<|bn<|tn<|ks<|ko [U,vB (decide (p1>=0)),vB (decide (p1>=0))]<|qI H (λRE H=>?_) λRE H=>?_
 ·refine Nl (dT RE) [36,37,38] [vI p1,vI 0,vB (decide (p1<0))]<|PT (dT RE) (vB (decide (p1<0)))<|ko [vB (decide (p1<0))]<|kn<|wr<|?_;cases H;exact Ox (h.se 1 [])
 refine Nh (dF RE) [36,37,38]<|PM (dF RE) (vB false)<|ko [U]<|kn<|wr<|?_;cases H;exact Ox (h.se 1 [])
def lq(p0:bC)(p1:ax)(p2:List ax):Option (Bool):=
 kQ ((if p0.aQ<0 then some (.inr false)else(if p0.aQ>=10 then some (.inr false)else some (.inl ())))) (if aZ p0.aQ pF.length then wo (if 0<p2.length then some ()else none) (kQ (bH (mF (ag pF p0.aQ.toNat).a p0.A p1 ((p2.length:Nat):Int)) (λiw=>(if iw=true then bH (mF (ag pF p0.aQ.toNat).b p0.B p1 ((p2.length:Nat):Int)) (λum=>(if um=true then bH (mF (ag pF p0.aQ.toNat).c p0.C p1 ((p2.length:Nat):Int)) (λSW=>(if SW=true then some (.inl ())else some (.inr false)))else some (.inr false)))else some (.inr false)))) (kQ ((if(ag pF p0.aQ.toNat).k=5 then(if p0.K<0 then some (.inr false)else(if p0.K>=16 then some (.inr false)else some (.inl ())))else some (.inl ()))) (bH ((if p0.aQ=5 then if 0<p2.length then some true else none else some false)) (λKc=>(if Kc=true then if aZ p0.B p2.length then(if(ag p2 p0.B.toNat).MW=0 then some true else(if p0.C>=0 then some (decide (p0.C<=(wi (p1.dA-(ag p2 p0.B.toNat).MW))))else some false))else none else some true)))))else none)
end
noncomputable section
variable {z w:World}{L:List M5}
theorem Tb{p0:bC}{p1:ax}{p2:List ax}{Nk R4:Option Addr}{Np Si:Nat}{hs2:Nat->Option Addr×Nat}{r0:Bool}(H:lq p0 p1 p2=some r0)(h:ft_ z (L) w)(NP:jJ L 5 gJ Nk p1.Code)(VN:T3 L R4 hs2 p2)(MP:jJ L 5 kJ (some ⟨1,0,none⟩) pF) :
 c0_ 168 #[OQ p0,.agg #[vI p1.MW,vI p1.dA,vI p1.cA,.slice Nk p1.Code.length Np],.slice R4 p2.length Si] w z (vB r0) (L):=by
 unfold lq at H;refine ke Tryz.func168 96 rfl λj=>ks<|kN h (PD p0) 146 λb1 w h=>kN h (#[vI p1.MW,vI p1.dA,vI p1.cA,.slice Nk p1.Code.length Np]) 99 λb2 w h=>ko [U]<|kn<|?_;obtain⟨o4,H,Zj⟩:=U3 H;refine λ_ r=>Nn (β:=Unit) (λ_ a w=>.inl ()=o4/\∃j,Gk 96 (lk [(2,.slice R4 p2.length Si),(3,pA b1 0),(4,pA b2 0)] j) a/\Fit z (cQ (RM b1 p0::Qd b2 p1 Nk Np::L)) w) ?_ ?_
 ·refine qq r<|ks<|ko [U]<|kL (h.pick 1) 0<|ko [vB (decide (p0.aQ<0)),vB (decide (p0.aQ<0))]<|qI H (λc5 H=>?_) λc5 H=>?_
  ·refine Nh (dT c5) [14,15,16]<|PT (dT c5) (vB true)<|kn<|λ_ r=>Oh r (b:=true) rfl<|qq r<|ks<|ko [U]<|kn<|wr<|tr<|λ_ r=>afn (vB false) rfl r<|?_;replace H:=Q6 H Zj;cases H;exact⟨rfl,h.se 2 []⟩
  refine Nl (dF c5) [14] [pA b1 0]<|Q7 (dF c5) (h.pick 1) 0<|Nl (dF c5) [16] [vB (decide (p0.aQ>=10))]<|PM (dF c5) (vB (decide (p0.aQ>=10)))<|kn<|NN H (λc6 H=>?_) λc6 H=>?_
  ·refine ks<|ko [U]<|kn<|wr<|tr<|λ_ r=>afn (vB false) rfl r<|?_;replace H:=Q6 H Zj;cases H;exact⟨rfl,h.se 2 []⟩
  refine wk<|tn<|?_;exact λ_ r=>⟨(),On H,r.fj (h.se 2 [1,0])⟩
 clear h r;rintro _ a w ⟨rfl,j,r,h⟩;replace H:=U4 Zj;refine qq r<|ks<|ko [U]<|kL h 0<|qg H λc7 H=>kp (pA (Cp (some ⟨1,0,none⟩)) (p0.aQ.toNat*5)) (Za (xs:=pF) (k:=.i64) (E:=249) rfl (by kernel_rfl) (by kernel_rfl) (by kernel_rfl) (by kernel_rfl) rfl c7)<|λ_ r=>RI (wn rfl) r (XQ (ag pF p0.aQ.toNat)) (cs:=XP (ag pF p0.aQ.toNat)) ⟨MP.Wc c7 (h.dn 2) 0 rfl,MP.Wc c7 (h.dn 2) 1 rfl,MP.Wc c7 (h.dn 2) 2 rfl,MP.Wc c7 (h.dn 2) 3 rfl,MP.Wc c7 (h.dn 2) 4 rfl,CH⟩<|?_;refine kN h (#[vI 0,vI 0,vI 0,vI 0,vB false]) 249 λb8 w h=>kA h (aa1 b8 (ag pF p0.aQ.toNat)) λw h=>kn<|ks<|ko [U,vI ((p2.length:Nat):Int),vI ((p2.length:Nat):Int)]<|kn<|qd0 H λo10 H hK9=>λ_ r=>Nn (β:=Unit) (λ_ a w=>()=o10/\∃j,Gk 96 (lk [(2,.slice R4 p2.length Si),(3,pA b1 0),(4,pA b2 0),(7,pA b8 0),(8,vI ((p2.length:Nat):Int))] j) a/\Fit z (cQ (RM b1 p0::Qd b2 p1 Nk Np::aa1 b8 (ag pF p0.aQ.toNat)::L)) w) ?_ ?_
 ·refine qq r<|ks<|qg H λRg H=>ko [U]<|kp (vB false) (abB (n0:=p2.length) (cc:=Si) rfl (by kernel_rfl) (by kernel_rfl) (E:=99) (by kernel_rfl) (VN.ne Rg))<|kn<|λ_ r=>O3 r (b:=false) rfl<|qq r<|wk<|tn<|?_;exact λ_ r=>⟨(),On H,r.fj (h.se 3 [1,2,0])⟩
 clear h r;rintro _ a w ⟨rfl,j,r,h⟩;replace H:=kk0 hK9;obtain⟨o13,H,abO⟩:=U3 H;refine Nn (β:=Unit) (λ_ a w=>.inl ()=o13/\∃j,Gk 96 (lk [(2,.slice R4 p2.length Si),(3,pA b1 0),(4,pA b2 0),(7,pA b8 0)] j) a/\Fit z (cQ (RM b1 p0::Qd b2 p1 Nk Np::aa1 b8 (ag pF p0.aQ.toNat)::L)) w) ?_ ?_
 ·refine qq r<|ks<|ko [U]<|kL (h.pick 2) 0<|ko [U]<|kL h 1<|kM (h.pick 1)<|Oj H λiw XY H=>ko [vI ((p2.length:Nat):Int)]<|N5 (SV (SH:=Nk) (TE:=Np) (Wo:=(jJ.up 3 NP)) (H:=XY) (h:=h) :) λw h=>ko [vB (!iw),vB (!iw)]<|qI H (λR0 H=>?_) λR0 H=>?_
  ·refine Nl (nT R0) [35] [pA b8 1]<|Q7 (nT R0) (h.pick 2) 1<|Nl (nT R0) [37] [pA b1 2]<|Q7 (nT R0) h 2<|λ_ r=>RI (PB r (nT R0)) r (.agg #[vI p1.MW,vI p1.dA,vI p1.cA,.slice Nk p1.Code.length Np]) (cs:=[vI p1.MW,vI p1.dA,vI p1.cA,.slice Nk p1.Code.length Np]) ((h.pick 1).held 0 rfl)<|?_;refine Oj H λum UQ H=>Nl (nT R0) [40] [vI ((p2.length:Nat):Int)]<|xg0 (nT R0) (SV (SH:=Nk) (TE:=Np) (Wo:=(jJ.up 3 NP)) (H:=UQ) (h:=h) :) λw h=>Nl (nT R0) [42] [vB (!um)]<|PM (nT R0) (vB (!um))<|ko [vB (!um)]<|qI H (λQO H=>?_) λQO H=>?_
   ·refine Nl (nT QO) [45] [pA b8 2]<|Q7 (nT QO) (h.pick 2) 2<|Nl (nT QO) [47] [pA b1 3]<|Q7 (nT QO) h 3<|λ_ r=>RI (PB r (nT QO)) r (.agg #[vI p1.MW,vI p1.dA,vI p1.cA,.slice Nk p1.Code.length Np]) (cs:=[vI p1.MW,vI p1.dA,vI p1.cA,.slice Nk p1.Code.length Np]) ((h.pick 1).held 0 rfl)<|?_;refine Oj H λSW YO H=>Nl (nT QO) [50] [vI ((p2.length:Nat):Int)]<|xg0 (nT QO) (SV (SH:=Nk) (TE:=Np) (Wo:=(jJ.up 3 NP)) (H:=YO) (h:=h) :) λw h=>Nl (nT QO) [52] [vB (!SW)]<|PM (nT QO) (vB (!SW))<|kn<|Vb H (λUn H=>?_) λUn H=>?_
    ·refine wk<|tn<|?_;exact λ_ r=>⟨(),On H,r.fj h⟩
    refine ks<|ko [U]<|kn<|wr<|tr<|λ_ r=>afn (vB false) rfl r<|?_;replace H:=Q6 H abO;cases H;exact⟨rfl,h.se 3 []⟩
   refine Nh (nF QO) [45,46,47,48,49,50,51,52]<|PT (nF QO) (vB true)<|kn<|λ_ r=>Oh r (b:=true) rfl<|qq r<|ks<|ko [U]<|kn<|wr<|tr<|λ_ r=>afn (vB false) rfl r<|?_;replace H:=Q6 H abO;cases H;exact⟨rfl,h.se 3 []⟩
  refine Nh (nF R0) [35,36,37,38,39,40,41,42]<|PT (nF R0) (vB true)<|ko [U]<|Nh (rfl:true=true) [45,46,47,48,49,50,51,52]<|ko [U]<|kn<|λ_ r=>Oh r (b:=true) rfl<|qq r<|ks<|ko [U]<|kn<|wr<|tr<|λ_ r=>afn (vB false) rfl r<|?_;replace H:=Q6 H abO;cases H;exact⟨rfl,h.se 3 []⟩
 clear h r;rintro _ a w ⟨rfl,j,r,h⟩;replace H:=U4 abO;obtain⟨o24,H,Zk⟩:=U3 H;refine Nn (β:=Unit) (λ_ a w=>.inl ()=o24/\∃j,Gk 96 (lk [(2,.slice R4 p2.length Si),(3,pA b1 0),(4,pA b2 0)] j) a/\Fit z (cQ (RM b1 p0::Qd b2 p1 Nk Np::L)) w) ?_ ?_
 ·refine qq r<|ks<|ko [U]<|kL (h.pick 2) 3<|ko [vB ((ag pF p0.aQ.toNat).k==5),vB ((ag pF p0.aQ.toNat).k==5)]<|qI H (λSD H=>?_) λSD H=>?_
  ·refine Nl (beq_iff_eq.mpr SD) [58] [pA b1 4]<|λ_ r=>ld (PB r (beq_iff_eq.mpr SD)) r (vI p0.K) (h.cell 4 rfl)<|?_;refine Nl (beq_iff_eq.mpr SD) [60,61] [vB (decide (p0.K<0)),vB (decide (p0.K<0))]<|qI H (λTs H=>?_) λTs H=>?_
   ·refine Nh (dT Ts) [62,63,64]<|λ_ r=>Y0 (PB r (beq_iff_eq.mpr SD)) r (vB true) (W5 (b:=(decide (p0.K<0))) rfl (by kernel_rfl) (dT Ts) (by kernel_rfl))<|?_;refine PT (beq_iff_eq.mpr SD) (vB true)<|kn<|λ_ r=>Oh r (b:=true) rfl<|qq r<|ks<|ko [U]<|kn<|wr<|tr<|λ_ r=>afn (vB false) rfl r<|?_;replace H:=Q6 H Zk;cases H;exact⟨rfl,h.se 3 []⟩
   refine Nl (dF Ts) [62] [pA b1 4]<|Q7 (dF Ts) h 4<|Nl (dF Ts) [64] [vB (decide (p0.K>=16))]<|λ_ r=>Y0 (PB r (beq_iff_eq.mpr SD)) r (vB (decide (p0.K>=16))) (XH (b:=(decide (p0.K<0))) rfl (by kernel_rfl) (dF Ts) (by kernel_rfl))<|?_;refine PT (beq_iff_eq.mpr SD) (vB (decide (p0.K>=16)))<|kn<|NN H (λQk H=>?_) λQk H=>?_
   ·refine ks<|ko [U]<|kn<|wr<|tr<|λ_ r=>afn (vB false) rfl r<|?_;replace H:=Q6 H Zk;cases H;exact⟨rfl,h.se 3 []⟩
   refine wk<|tn<|?_;exact λ_ r=>⟨(),On H,r.fj (h.se 3 [0,1])⟩
  refine Nh (bN SD) [58,59,60,61]<|Wi false [62,63,64]<|Nh (bN SD) [65]<|PM (bN SD) (vB false)<|kn<|λ_ r=>O3 r (b:=false) rfl<|qq r<|wk<|tn<|?_;exact λ_ r=>⟨(),On H,r.fj (h.se 3 [0,1])⟩
 clear h r;rintro _ a w ⟨rfl,j,r,h⟩;replace H:=U4 Zk;refine qq r<|wq<|VA H λo30 H adZ=>λ_ r=>Nn (β:=Unit) (λ_ a w=>∃Kc:Bool,Kc=o30/\∃j,Gk 96 (lk [(2,.slice R4 p2.length Si),(3,pA b1 0),(4,pA b2 0),(73,vB Kc)] j) a/\Fit z (cQ (RM b1 p0::Qd b2 p1 Nk Np::L)) w) ?_ ?_
 ·refine qq r<|wl<|ko [U]<|kL h 0<|ko [vB (p0.aQ==5),vB (p0.aQ==5)]<|qI H (λRw H=>?_) λRw H=>?_
  ·refine qg H λUO H=>Nl (beq_iff_eq.mpr Rw) [71] [.slice R4 p2.length Si]<|λ_ r=>Y0 (PB r (beq_iff_eq.mpr Rw)) r (vB true) (aaC (n0:=p2.length) (cc:=Si) rfl (by kernel_rfl) (by kernel_rfl) (E:=99) (by kernel_rfl) (VN.ne UO))<|?_;refine PT (beq_iff_eq.mpr Rw) (vB true)<|kn<|?_;exact λ_ r=>⟨(),true,On H,r.fj h⟩
  refine Nh (bN Rw) [71,72]<|PM (bN Rw) (vB false)<|kn<|?_;exact λ_ r=>⟨(),false,On H,r.fj h⟩
 clear h r;rintro _ a w ⟨Kc,rfl,j,r,h⟩;replace H:=Vy adZ;refine qq r<|V4 H (λSs H=>?_) λSs H=>?_
 ·refine ks<|ko Zy<|kL h 2<|qg H λUC H=>kp (pA (Cp R4) (sJ R4+p0.B.toNat*4)) (afq 99 Si rfl rfl VN UC)<|ko [U]<|λ_ r=>ld (wn rfl) r (vI (ag p2 p0.B.toNat).MW) (VN.cell UC (h.dn 2) 0 rfl)<|?_;refine ko [U]<|kn<|ks<|ko [U,vB ((ag p2 p0.B.toNat).MW==0),vB ((ag p2 p0.B.toNat).MW==0)]<|qI H (λUS H=>?_) λUS H=>?_
  ·refine Nh (beq_iff_eq.mpr US) [83,84,85,86]<|Wi true [87,88,89,90,91,92,93]<|Nh (beq_iff_eq.mpr US) [94]<|PT (beq_iff_eq.mpr US) (vB true)<|ko [U]<|kn<|wr<|tr<|?_;cases H;exact Ox (h.se 2 [])
  refine Nl (bN US) [83] [pA b1 3]<|Q7 (bN US) h 3<|Nl (bN US) [85,86] [vB (decide (p0.C>=0)),vB (decide (p0.C>=0))]<|qI H (λVC H=>?_) λVC H=>?_
  ·refine Nl (dT VC) [87] [pA b1 3]<|Q7 (dT VC) h 3<|Nl (dT VC) [89] [pA b2 1]<|Q7 (dT VC) (h.pick 1) 1<|Nl (dT VC) [91,92,93] [vI (ag p2 p0.B.toNat).MW,vI (wi (p1.dA-(ag p2 p0.B.toNat).MW)),vB (decide (p0.C<=(wi (p1.dA-(ag p2 p0.B.toNat).MW))))]<|λ_ r=>Y0 (PB r (bN US)) r (vB (decide (p0.C<=(wi (p1.dA-(ag p2 p0.B.toNat).MW))))) (W5 (b:=(decide (p0.C>=0))) rfl (by kernel_rfl) (dT VC) (by kernel_rfl))<|?_;refine PM (bN US) (vB (decide (p0.C<=(wi (p1.dA-(ag p2 p0.B.toNat).MW)))))<|ko [vB (decide (p0.C<=(wi (p1.dA-(ag p2 p0.B.toNat).MW))))]<|kn<|wr<|tr<|?_;cases H;exact Ox (h.se 2 [])
  refine Nh (dF VC) [87,88,89,90,91,92,93]<|λ_ r=>Y0 (PB r (bN US)) r (vB false) (XH (b:=(decide (p0.C>=0))) rfl (by kernel_rfl) (dF VC) (by kernel_rfl))<|?_;refine PM (bN US) (vB false)<|ko [U]<|kn<|wr<|tr<|?_;cases H;exact Ox (h.se 2 [])
 refine wk<|tn<|ks<|ko [U]<|kn<|wr<|?_;cases H;exact Ox (h.se 2 [])
def me(p0:ax):Option (Bool):=
 if aZ (wi (((p0.Code.length:Nat):Int)-1)) p0.Code.length then(if(ag p0.Code (wi (((p0.Code.length:Nat):Int)-1)).toNat).aQ=3 then some true else some ((ag p0.Code (wi (((p0.Code.length:Nat):Int)-1)).toNat).aQ==9))else none
theorem TF{p0:ax}{M1:Option Addr}{M8:Nat}{r0:Bool}(H:me p0=some r0)(h:ft_ z (L) w)(Ni:jJ L 5 gJ M1 p0.Code) :
 c0_ 169 #[.agg #[vI p0.MW,vI p0.dA,vI p0.cA,.slice M1 p0.Code.length M8]] w z (vB r0) (L):=by
 unfold me at H;refine ke Tryz.func169 19 rfl λj=>ks<|kN h (#[vI p0.MW,vI p0.dA,vI p0.cA,.slice M1 p0.Code.length M8]) 99 λb1 w h=>ko [U]<|kn<|ks<|ko [U]<|kL h 3<|ko [U]<|kL h 3<|qg H λc2 H=>ko [vI ((p0.Code.length:Nat):Int),vI (wi (((p0.Code.length:Nat):Int)-1))]<|kj 146 M8 Ni c2<|ko [pA (Cp M1) (sJ M1+(wi (((p0.Code.length:Nat):Int)-1)).toNat*5)]<|λ_ r=>ld (wn rfl) r (vI (ag p0.Code (wi (((p0.Code.length:Nat):Int)-1)).toNat).aQ) (Ni.cell c2 (h.dn 1) 0 rfl)<|?_;refine ko [vI (ag p0.Code (wi (((p0.Code.length:Nat):Int)-1)).toNat).aQ]<|kn<|ks<|ko [vI (ag p0.Code (wi (((p0.Code.length:Nat):Int)-1)).toNat).aQ,vB ((ag p0.Code (wi (((p0.Code.length:Nat):Int)-1)).toNat).aQ==3),vB ((ag p0.Code (wi (((p0.Code.length:Nat):Int)-1)).toNat).aQ==3)]<|qI H (λc3 H=>?_) λc3 H=>?_
 ·refine Nh (beq_iff_eq.mpr c3) [16,17]<|PT (beq_iff_eq.mpr c3) (vB true)<|ko [U]<|kn<|wr<|?_;cases H;exact Ox (h.se 1 [])
 refine Nl (bN c3) [16,17] [vI (ag p0.Code (wi (((p0.Code.length:Nat):Int)-1)).toNat).aQ,vB ((ag p0.Code (wi (((p0.Code.length:Nat):Int)-1)).toNat).aQ==9)]<|PM (bN c3) (vB ((ag p0.Code (wi (((p0.Code.length:Nat):Int)-1)).toNat).aQ==9))<|ko [vB ((ag p0.Code (wi (((p0.Code.length:Nat):Int)-1)).toNat).aQ==9)]<|kn<|wr<|?_;cases H;exact Ox (h.se 1 [])
def eH(K:Nat)(p0:Int)(p1:ax)(p2:List ax):Nat->Int->Option ((Unit)⊕((Unit)⊕gA))
 | 0,_=>none
 | k1+1,g4=>(if g4<((p1.Code.length:Nat):Int)then if aZ g4 p1.Code.length then bH (lq (ag p1.Code g4.toNat) p1 p2) (λr8=>(if r8=true then(eH K p0 p1 p2 k1 (wi (g4+1)))else some (.inr (.inr (⟨52,p0,g4⟩:gA)))))else none else some (.inl ()))
def kz(K:Nat)(p0:Int)(p1:ax)(p2:List ax):Option ((Unit)⊕gA):=
 kQ ((eH K p0 p1 p2 K 0)) (bH (me p1) (λpq=>(if pq=true then some (.inl ())else some (.inr (⟨53,p0,wi (((p1.Code.length:Nat):Int)-1)⟩:gA)))))
abbrev u5_:List Value:=[U,U,U,U,U]
theorem Tg{K:Nat}{p0:Int}{p1:ax}{p2:List ax}{Nk R4:Option Addr}{Np Si:Nat}{hs2:Nat->Option Addr×Nat}(H:kz K p0 p1 p2=some (.inl ()))(h:ft_ z (L) w)(NP:jJ L 5 gJ Nk p1.Code)(VN:T3 L R4 hs2 p2)(MP:jJ L 5 kJ (some ⟨1,0,none⟩) pF) :
 c0_ 115 #[vI p0,.agg #[vI p1.MW,vI p1.dA,vI p1.cA,.slice Nk p1.Code.length Np],.slice R4 p2.length Si] w z (.tuple #[]) (L):=by
 unfold kz at H;refine ke Tryz.func115 38 rfl λj=>ks<|kN h (#[vI p1.MW,vI p1.dA,vI p1.cA,.slice Nk p1.Code.length Np]) 99 λb1 w h=>kn<|?_;obtain⟨o3,H,VB⟩:=U3 H;refine λ_ r=>Nn (β:=Unit) (λ_ a w=>.inl ()=o3/\∃j,Gk 38 (lk [(0,vI p0),(4,pA b1 0)] j) a/\Fit z (cQ (Qd b1 p1 Nk Np::L)) w) ?_ ?_
 ·refine qq r<|ks<|ko [U]<|kL h 3<|ko [vI ((p1.Code.length:Nat):Int),U]<|kn<|wb<|λ_ r=>NB (β:=Nat) id (λm a w=>∃g4:Int,(eH K p0 p1 p2 m g4)=some o3/\∃j,Gk 38 (lk [(0,vI p0),(2,.slice R4 p2.length Si),(4,pA b1 0),(9,.slice Nk p1.Code.length Np),(10,vI ((p1.Code.length:Nat):Int)),(11,vI g4)] j) a/\Fit z (cQ (Qd b1 p1 Nk Np::L)) w) K ⟨0,H,r.fj h⟩<|?_;clear h r H;rintro k1 a w ⟨g4,H,j,r,h⟩;cases k1 with
  | zero=>exact absurd H (by simp[eH])
  | succ k1 =>
   rw[eH]at H;refine qq r<|ks<|ko [vB (decide (g4<((p1.Code.length:Nat):Int)))]<|kn<|wq<|NN H (λc5 H=>?_) λc5 H=>?_
   ·refine wk<|tn<|wq<|wb<|ks<|qg H λc6 H=>ko [U]<|kj 146 Np NP c6<|λ_ r=>RI (wn rfl) r (OQ (ag p1.Code g4.toNat)) (cs:=Om (ag p1.Code g4.toNat)) ⟨NP.cell c6 (h.dn 1) 0 rfl,NP.cell c6 (h.dn 1) 1 rfl,NP.cell c6 (h.dn 1) 2 rfl,NP.cell c6 (h.dn 1) 3 rfl,NP.cell c6 (h.dn 1) 4 rfl,CH⟩<|?_;refine kN h (agJ) 146 λb7 w h=>ko [U]<|kA h (RM b7 (ag p1.Code g4.toNat)) λw h=>kn<|ks<|kM h<|kM (h.pick 1)<|Oj H λr8 e9 H=>ko [U]<|N5 (Tb (R4:=R4) (Si:=Si) (VN:=(wC.up 2 VN)) (Nk:=Nk) (Np:=Np) (NP:=(jJ.up 2 NP)) (MP:=jJ.up 2 MP) (hs2:=hs2) (H:=e9) (h:=h) :) λw h=>ko [vB (!r8)]<|kn<|Vb H (λPX H=>?_) λPX H=>?_
    ·refine wk<|bn<|tn<|wl<|ko [vI (wi (g4+1)),vI (wi (g4+1))]<|kn<|?_;exact λ_ r=>⟨_,⟨(wi (g4+1)),H,r.fj (h.se 2 [1])⟩,afl _⟩
    refine wl<|ko u5_<|λ_ r=>Va (wn rfl) r rfl (T:=194) (u:=.agg #[vI 52,vI p0,vI g4]) (by kernel_rfl)<|QL<|PJ<|PJ<|QL<|PJ<|TX r<|?_;replace H:=Q6 H VB;cases H
   refine wx<|te<|te<|bh<|tn<|?_;exact λ_ r=>⟨(),On H,r.fj h⟩
 clear h r;rintro _ a w ⟨rfl,j,r,h⟩;replace H:=U4 VB;refine qq r<|ks<|kM h<|Oj H λpq Vd H=>N5 (TF (M1:=Nk) (M8:=Np) (Ni:=(jJ.up 1 NP)) (H:=Vd) (h:=h) :) λw h=>ko [vB (!pq)]<|kn<|Vb H (λSC H=>?_) λSC H=>?_
 ·refine wk<|?_;cases H;exact ZR (h.se 1 [])
 refine wl<|ko Zy<|kL h 3<|ko [vI ((p1.Code.length:Nat):Int),vI (wi (((p1.Code.length:Nat):Int)-1)),.agg #[vI 53,vI p0,vI (wi (((p1.Code.length:Nat):Int)-1))],.agg #[vI 53,vI p0,vI (wi (((p1.Code.length:Nat):Int)-1))],.iface 194 (.agg #[vI 53,vI p0,vI (wi (((p1.Code.length:Nat):Int)-1))])]<|λ_ r=>Va (wn rfl) r rfl (T:=194) (u:=.agg #[vI 53,vI p0,vI (wi (((p1.Code.length:Nat):Int)-1))]) (by kernel_rfl)<|TX r<|?_;cases H
theorem Ti{K:Nat}{p0:Int}{p1:ax}{p2:List ax}{Nk R4:Option Addr}{Np Si:Nat}{hs2:Nat->Option Addr×Nat}{rP:gA}(H:kz K p0 p1 p2=some (.inr rP))(h:ft_ z (L) w)(NP:jJ L 5 gJ Nk p1.Code)(VN:T3 L R4 hs2 p2)(MP:jJ L 5 kJ (some ⟨1,0,none⟩) pF) :
 Calls Tryz.prog 115 #[vI p0,.agg #[vI p1.MW,vI p1.dA,vI p1.cA,.slice Nk p1.Code.length Np],.slice R4 p2.length Si] w λe w=>e=.panicked [{v:=.iface 194 (Ta rP),recovered:=false}]/\Fit z (cQ (L)) w:=by
 unfold kz at H;refine ke Tryz.func115 38 rfl λj=>ks<|kN h (#[vI p1.MW,vI p1.dA,vI p1.cA,.slice Nk p1.Code.length Np]) 99 λb1 w h=>kn<|?_;obtain⟨o3,H,VB⟩:=U3 H;refine λ_ r=>Nn (β:=Unit) (λ_ a w=>.inl ()=o3/\∃j,Gk 38 (lk [(0,vI p0),(4,pA b1 0)] j) a/\Fit z (cQ (Qd b1 p1 Nk Np::L)) w) ?_ ?_
 ·refine qq r<|ks<|ko [U]<|kL h 3<|ko [vI ((p1.Code.length:Nat):Int),U]<|kn<|wb<|λ_ r=>NB (β:=Nat) id (λm a w=>∃g4:Int,(eH K p0 p1 p2 m g4)=some o3/\∃j,Gk 38 (lk [(0,vI p0),(2,.slice R4 p2.length Si),(4,pA b1 0),(9,.slice Nk p1.Code.length Np),(10,vI ((p1.Code.length:Nat):Int)),(11,vI g4)] j) a/\Fit z (cQ (Qd b1 p1 Nk Np::L)) w) K ⟨0,H,r.fj h⟩<|?_;clear h r H;rintro k1 a w ⟨g4,H,j,r,h⟩;cases k1 with
  | zero=>exact absurd H (by simp[eH])
  | succ k1 =>
   rw[eH]at H;refine qq r<|ks<|ko [vB (decide (g4<((p1.Code.length:Nat):Int)))]<|kn<|wq<|NN H (λc5 H=>?_) λc5 H=>?_
   ·refine wk<|tn<|wq<|wb<|ks<|qg H λc6 H=>ko [U]<|kj 146 Np NP c6<|λ_ r=>RI (wn rfl) r (OQ (ag p1.Code g4.toNat)) (cs:=Om (ag p1.Code g4.toNat)) ⟨NP.cell c6 (h.dn 1) 0 rfl,NP.cell c6 (h.dn 1) 1 rfl,NP.cell c6 (h.dn 1) 2 rfl,NP.cell c6 (h.dn 1) 3 rfl,NP.cell c6 (h.dn 1) 4 rfl,CH⟩<|?_;refine kN h (agJ) 146 λb7 w h=>ko [U]<|kA h (RM b7 (ag p1.Code g4.toNat)) λw h=>kn<|ks<|kM h<|kM (h.pick 1)<|Oj H λr8 e9 H=>ko [U]<|N5 (Tb (R4:=R4) (Si:=Si) (VN:=(wC.up 2 VN)) (Nk:=Nk) (Np:=Np) (NP:=(jJ.up 2 NP)) (MP:=jJ.up 2 MP) (hs2:=hs2) (H:=e9) (h:=h) :) λw h=>ko [vB (!r8)]<|kn<|Vb H (λPX H=>?_) λPX H=>?_
    ·refine wk<|bn<|tn<|wl<|ko [vI (wi (g4+1)),vI (wi (g4+1))]<|kn<|?_;exact λ_ r=>⟨_,⟨(wi (g4+1)),H,r.fj (h.se 2 [1])⟩,afl _⟩
    refine wl<|ko u5_<|λ_ r=>Va (wn rfl) r rfl (T:=194) (u:=.agg #[vI 52,vI p0,vI g4]) (by kernel_rfl)<|QL<|PJ<|PJ<|QL<|PJ<|TX r<|?_;replace H:=Q6 H VB;replace H:=ejR H;subst H;exact⟨rfl,h.se 2 []⟩
   refine wx<|te<|te<|bh<|tn<|?_;exact λ_ r=>⟨(),On H,r.fj h⟩
 clear h r;rintro _ a w ⟨rfl,j,r,h⟩;replace H:=U4 VB;refine qq r<|ks<|kM h<|Oj H λpq Vd H=>N5 (TF (M1:=Nk) (M8:=Np) (Ni:=(jJ.up 1 NP)) (H:=Vd) (h:=h) :) λw h=>ko [vB (!pq)]<|kn<|Vb H (λSC H=>?_) λSC H=>?_
 ·refine wk<|λ_ r=>ve rfl r<|?_;cases H
 refine wl<|ko Zy<|kL h 3<|ko [vI ((p1.Code.length:Nat):Int),vI (wi (((p1.Code.length:Nat):Int)-1)),.agg #[vI 53,vI p0,vI (wi (((p1.Code.length:Nat):Int)-1))],.agg #[vI 53,vI p0,vI (wi (((p1.Code.length:Nat):Int)-1))],.iface 194 (.agg #[vI 53,vI p0,vI (wi (((p1.Code.length:Nat):Int)-1))])]<|λ_ r=>Va (wn rfl) r rfl (T:=194) (u:=.agg #[vI 53,vI p0,vI (wi (((p1.Code.length:Nat):Int)-1))]) (by kernel_rfl)<|TX r<|?_;replace H:=ejR H;subst H;exact⟨rfl,h.se 1 []⟩
def mQ(p0:aM):Option (Bool):=
 some false
theorem Ve{p0:aM}{r0:Bool}(H:mQ p0=some r0)(h:ft_ z (L) w) :
 c0_ 199 #[Rt p0] w z (vB r0) (L):=by
 unfold mQ at H;refine ke Tryz.func199 3 rfl λj=>ks<|kN h (VG p0) 255 λb1 w h=>ko [U]<|kn<|ks<|ko [U]<|kn<|wr<|?_;cases H;exact Ox (h.se 1 [])
def mg(p0:bC)(p1:Int)(p2:Int):Option (Int):=
 (if p0.aQ=5 then(if p0.A=p1 then some 2 else(if p0.aQ=6 then(if p2=2 then some 4 else some p2)else some p2))else(if p0.aQ=6 then(if p2=2 then some 4 else some p2)else some p2))
theorem Wp{p0:bC}{p1 p2 r0:Int}(H:mg p0 p1 p2=some r0)(h:ft_ z (L) w) :
 c0_ 220 #[OQ p0,vI p1,vI p2] w z (vI r0) (L):=by
 unfold mg at H;refine ke Tryz.func220 26 rfl λj=>ks<|kN h (PD p0) 146 λb1 w h=>ko [U]<|kn<|wq<|wb<|ks<|ko [U]<|kL h 0<|ko [vB (p0.aQ==5),vB (p0.aQ==5)]<|qI H (λc2 H=>?_) λc2 H=>?_
 ·refine Nl (beq_iff_eq.mpr c2) [12] [pA b1 1]<|λ_ r=>ld (PB r (beq_iff_eq.mpr c2)) r (vI p0.A) (h.cell 1 rfl)<|?_;refine Nl (beq_iff_eq.mpr c2) [14,15] [vI p1,vB (p0.A==p1)]<|PT (beq_iff_eq.mpr c2) (vB (p0.A==p1))<|ko [vB (p0.A==p1)]<|kn<|NN H (λc3 H=>?_) λc3 H=>?_
  ·refine ks<|ko [U]<|kn<|wr<|br<|tr<|?_;cases H;exact Ox (h.se 1 [])
  refine ks<|ko [U]<|kL h 0<|ko [vB (p0.aQ==6),vB (p0.aQ==6)]<|qI H (λc4 H=>?_) λc4 H=>?_
  ·refine Nl (beq_iff_eq.mpr c4) [22,23] [vI p2,vB (p2==2)]<|PT (beq_iff_eq.mpr c4) (vB (p2==2))<|ko [vB (p2==2)]<|kn<|NN H (λc5 H=>?_) λc5 H=>?_
   ·refine ks<|ko [U]<|kn<|wr<|br<|tr<|?_;cases H;exact Ox (h.se 1 [])
   refine wk<|bn<|tn<|ks<|ko Zy<|kn<|wr<|?_;cases H;exact Ox (h.se 1 [])
  refine Nh (bN c4) [22,23]<|PM (bN c4) (vB false)<|ko [U]<|kn<|λ_ r=>O3 r (b:=false) rfl<|qq r<|wk<|bn<|tn<|ks<|ko Zy<|kn<|wr<|?_;cases H;exact Ox (h.se 1 [])
 refine Nh (bN c2) [12,13,14,15]<|PM (bN c2) (vB false)<|ko [U]<|kn<|λ_ r=>O3 r (b:=false) rfl<|qq r<|ks<|ko [U]<|kL h 0<|ko [vB (p0.aQ==6),vB (p0.aQ==6)]<|qI H (λc6 H=>?_) λc6 H=>?_
 ·refine Nl (beq_iff_eq.mpr c6) [22,23] [vI p2,vB (p2==2)]<|PT (beq_iff_eq.mpr c6) (vB (p2==2))<|ko [vB (p2==2)]<|kn<|NN H (λc7 H=>?_) λc7 H=>?_
  ·refine ks<|ko [U]<|kn<|wr<|br<|tr<|?_;cases H;exact Ox (h.se 1 [])
  refine wk<|bn<|tn<|ks<|ko Zy<|kn<|wr<|?_;cases H;exact Ox (h.se 1 [])
 refine Nh (bN c6) [22,23]<|PM (bN c6) (vB false)<|ko [U]<|kn<|λ_ r=>O3 r (b:=false) rfl<|qq r<|wk<|bn<|tn<|ks<|ko Zy<|kn<|wr<|?_;cases H;exact Ox (h.se 1 [])
def mh(p0:ax)(p1:Int):Option ((List Int)):=
 if aZ p1 p0.Code.length then bH (if aZ (ag p0.Code p1.toNat).aQ pF.length then(if(ag pF (ag p0.Code p1.toNat).aQ.toNat).next=true then(if(wi (p1+1))<((p0.Code.length:Nat):Int)then if(([]:List Int).length+1)*8<=140737488355328 then some (([]:List Int)++[wi (p1+1)])else none else some ([]:List Int))else some ([]:List Int))else none) (λl6=>(if(ag p0.Code p1.toNat).aQ=3 then if(l6.length+1)*8<=140737488355328 then some (l6++[(ag p0.Code p1.toNat).A])else none else(if(ag p0.Code p1.toNat).aQ=4 then if(l6.length+1)*8<=140737488355328 then some (l6++[(ag p0.Code p1.toNat).B])else none else some l6)))else none
theorem Wq{p0:ax}{p1:Int}{M1:Option Addr}{M8:Nat}{r0:List Int}(H:mh p0 p1=some r0)(h:ft_ z (L) w)(Ni:jJ L 5 gJ M1 p0.Code)(MP:jJ L 5 kJ (some ⟨1,0,none⟩) pF) :
 Calls Tryz.prog 221 #[.agg #[vI p0.MW,vI p0.dA,vI p0.cA,.slice M1 p0.Code.length M8],vI p1] w λe w=>∃y1 y2,e=.returned (.slice y1 r0.length y2)/\Fit z (cQ (R8 y1 y2 r0::L)) w:=by
 unfold mh at H;refine ke Tryz.func221 47 rfl λj=>ks<|kN h (#[vI p0.MW,vI p0.dA,vI p0.cA,.slice M1 p0.Code.length M8]) 99 λb1 w h=>ko [U]<|kn<|ks<|ko [U]<|kL h 3<|qg H λc2 H=>ko [U]<|kj 146 M8 Ni c2<|λ_ r=>RI (wn rfl) r (OQ (ag p0.Code p1.toNat)) (cs:=Om (ag p0.Code p1.toNat)) ⟨Ni.cell c2 (h.dn 1) 0 rfl,Ni.cell c2 (h.dn 1) 1 rfl,Ni.cell c2 (h.dn 1) 2 rfl,Ni.cell c2 (h.dn 1) 3 rfl,Ni.cell c2 (h.dn 1) 4 rfl,CH⟩<|?_;refine kN h (agJ) 146 λb3 w h=>kA h (RM b3 (ag p0.Code p1.toNat)) λw h=>kn<|ks<|ko [U]<|kn<|VA H λo8 H YN=>λ_ r=>Nn (β:=Unit) (λ_ a w=>∃VO:Option Addr,∃VP:Nat,∃l6:List Int,l6=o8/\∃j,Gk 47 (lk [(5,pA b3 0),(6,.slice VO l6.length VP)] j) a/\Fit z (cQ (RM b3 (ag p0.Code p1.toNat)::R8 VO VP l6::L)) w) ?_ ?_
 ·refine qq r<|ks<|ko [U]<|kL h 0<|qg H λc9 H=>kp (pA (Cp (some ⟨1,0,none⟩)) ((ag p0.Code p1.toNat).aQ.toNat*5)) (Za (xs:=pF) (k:=.i64) (E:=249) rfl (by kernel_rfl) (by kernel_rfl) (by kernel_rfl) (by kernel_rfl) rfl c9)<|ko [U]<|λ_ r=>ld (wn rfl) r (vB (ag pF (ag p0.Code p1.toNat).aQ.toNat).next) (MP.Wc c9 (h.dn 2) 4 rfl)<|?_;refine ko [U]<|qI H (λPX H=>?_) λPX H=>?_
  ·refine Nl (PX) [18,19,20] [vI p1,vI (wi (p1+1)),pA b1 3]<|λ_ r=>ld (PB r (PX)) r (.slice M1 p0.Code.length M8) ((h.pick 1).cell 3 rfl)<|?_;refine Nl (PX) [22,23] [vI ((p0.Code.length:Nat):Int),vB (decide ((wi (p1+1))<((p0.Code.length:Nat):Int)))]<|PT (PX) (vB (decide ((wi (p1+1))<((p0.Code.length:Nat):Int))))<|kn<|NN H (λRg H=>?_) λRg H=>?_
   ·refine wl<|ko [U,U,vI (wi (p1+1))]<|kV h (#[vI (wi (p1+1))]) 3 λQu w h=>?_;replace h:=h.ua (e:=3) (sz:=1) (enc:=oE);refine qg H λQb H=>λ_ r=>O9 (n0:=0) (c:=1) (bytes:=8) (wn rfl) rfl rfl r rfl (by kernel_rfl) (by kernel_rfl) rm (E:=3) (xs:=([]:List Int)) (by kernel_rfl) (by kernel_rfl) h (news:=[wi (p1+1)]) (m:=1) rfl ((h.pick 1).news rfl) Qb rfl λPL QE w _ h r=>qq r<|ko [.slice PL (([]:List Int)++[wi (p1+1)]).length QE]<|kn<|?_;exact λ_ r=>⟨(),PL,QE,(([]:List Int)++[wi (p1+1)]),On H,r.fj (h.se 4 [2,0])⟩
   refine wk<|tn<|?_;replace h:=h.ua (e:=3) (sz:=1) (enc:=oE);exact λ_ r=>⟨(),none,0,([]:List Int),On H,r.fj (h.se 3 [1,0])⟩
  refine Nh (bF PX) [18,19,20,21,22,23]<|PM (bF PX) (vB false)<|kn<|λ_ r=>O3 r (b:=false) rfl<|qq r<|wk<|tn<|?_;replace h:=h.ua (e:=3) (sz:=1) (enc:=oE);exact λ_ r=>⟨(),none,0,([]:List Int),On H,r.fj (h.se 3 [1,0])⟩
 clear h r;rintro _ a w ⟨VO,VP,l6,rfl,j,r,h⟩;replace H:=Vy YN;refine qq r<|wq<|ks<|ko [U]<|kL h 0<|kn<|wb<|ks<|ko [vB ((ag p0.Code p1.toNat).aQ==3),vB ((ag p0.Code p1.toNat).aQ==3)]<|kn<|NN H (λR0 H=>?_) λR0 H=>?_
 ·refine wl<|ko Zy<|kL h 1<|kV h (#[vI (ag p0.Code p1.toNat).A]) 3 λb17 w h=>qh h.m2 λh=>qg H λPx H=>λ_ r=>O9 (n0:=l6.length) (c:=1) (bytes:=8) (wn rfl) rfl rfl r rfl (by kernel_rfl) (by kernel_rfl) rm (E:=3) (xs:=l6) (by kernel_rfl) (by kernel_rfl) h (news:=[(ag p0.Code p1.toNat).A]) (m:=1) rfl ((h.pick 1).news rfl) Px rfl λVf Vg w _ h r=>qq r<|ko [U]<|kl<|bn<|tn<|ks<|ko Zy<|kn<|wr<|?_;cases H;exact xy2 Vf Vg (h.se 3 [0])
 refine ks<|ko [vB ((ag p0.Code p1.toNat).aQ==4),vB ((ag p0.Code p1.toNat).aQ==4)]<|kn<|NN H (λQt H=>?_) λQt H=>?_
 ·refine wl<|ko Zy<|kL h 2<|kV h (#[vI (ag p0.Code p1.toNat).B]) 3 λSh w h=>qh h.m2 λh=>qg H λSD H=>λ_ r=>O9 (n0:=l6.length) (c:=1) (bytes:=8) (wn rfl) rfl rfl r rfl (by kernel_rfl) (by kernel_rfl) rm (E:=3) (xs:=l6) (by kernel_rfl) (by kernel_rfl) h (news:=[(ag p0.Code p1.toNat).B]) (m:=1) rfl ((h.pick 1).news rfl) SD rfl λad0 ad1 w _ h r=>qq r<|ko [U]<|kl<|bn<|tn<|ks<|ko Zy<|kn<|wr<|?_;cases H;exact xy2 ad0 ad1 (h.se 3 [0])
 refine wk<|bn<|tn<|ks<|ko Zy<|kn<|wr<|?_;cases H;exact xy2 VO VP (h.se 2 [1])
def eP(K:Nat)(l8:List aM)(sF:Int)(lQ:List Int):Nat->(List (aM×aM))->(List aM)->Int->Option ((List (aM×aM))×(List aM))
 | 0,_,_,_=>none
 | k2+1,Du,FM,oL=>(if oL<((lQ.length:Nat):Int)then if aZ oL lQ.length then(if(pE Du (⟨(ag lQ oL.toNat),sF⟩:aM)).isSome=true then(eP K l8 sF lQ k2 Du FM (wi (oL+1)))else if pE Du (⟨(ag lQ oL.toNat),sF⟩:aM)=none then if(FM.length+1)*16<=140737488355328 then(eP K l8 sF lQ k2 (Du++[((⟨(ag lQ oL.toNat),sF⟩:aM),ag l8 0)]) (FM++[(⟨(ag lQ oL.toNat),sF⟩:aM)]) (wi (oL+1)))else none else none)else none else some (Du,FM))
def gb(K:Nat)(p0:ax)(p1:Int):Nat->(List (aM×aM))->(List aM)->Option ((List (aM×aM)))
 | 0,_,_=>none
 | k1+1,l5,l8=>(if((l8.length:Nat):Int)>0 then if aZ (0:Int) l8.length then if 0<=(1:Int)/\(1:Int)<=((l8.length:Nat):Int)then if 0<l8.length then bH (mQ (ag l8 0)) (λum=>(if um=true then some l5 else if aZ (ag l8 0).ag p0.Code.length then bH (mg (ag p0.Code (ag l8 0).ag.toNat) p1 (ag l8 0).state) (λsF=>bH (mh p0 (ag l8 0).ag) (λlQ=>iQ ((eP K l8 sF lQ K l5 (l8.drop 1) 0)) (λGW U5=>(gb K p0 p1 k1 GW U5))))else none))else none else none else none else some l5)
def jy(K:Nat)(p0:ax)(p1:Int):Option ((List (aM×aM))):=
 (gb K p0 p1 K (([]:List (aM×aM))++[((⟨0,1⟩:aM),(⟨-1,0⟩:aM))]) ([(⟨0,1⟩:aM)]))
abbrev afs:aM:=⟨0,1⟩
abbrev agc:aM:=⟨-1,0⟩
abbrev afQ:aM:=⟨0,0⟩
theorem T6{K:Nat}{p0:ax}{p1:Int}{M1:Option Addr}{M8:Nat}{r0:List (aM×aM)}(H:jy K p0 p1=some r0)(h:ft_ z (L) w)(Ni:jJ L 5 gJ M1 p0.Code)(MP:jJ L 5 kJ (some ⟨1,0,none⟩) pF) :
 Calls Tryz.prog 198 #[.agg #[vI p0.MW,vI p0.dA,vI p0.cA,.slice M1 p0.Code.length M8],vI p1,.func (.func 199) #[] #[]] w λe w=>∃Bn0,e=.returned (.map (some Bn0))/\Fit z (cQ (mapOf NC NC Bn0 r0::L)) w:=by
 unfold jy at H;refine ke Tryz.func198 73 rfl λj=>ks<|kN h (#[vI p0.MW,vI p0.dA,vI p0.cA,.slice M1 p0.Code.length M8]) 99 λb1 w h=>ko [U]<|kn<|λ_ r=>wp_scope_straight<|qq r<|ks<|ko [U]<|kN h (#[vI 0,vI 0]) 255 λb2 w h=>kA h (pts b2 (.cells #[vI 0,vI 1] 255)) λw h=>kn<|ks<|λ_ r=>aaN (wn rfl) rfl rfl r rfl NC NC h λb3 w _ h r=>qq r<|kM (h.pick 1)<|ko [U]<|λ_ r=>aaO (t:=252) (et:=255) (wn rfl) rfl r (Or.inr rfl) (by kernel_rfl) afs agc (by kernel_rfl) (by kernel_rfl) (by kernel_rfl) XR rfl h λw h=>qq r<|ko Zy<|kn<|ks<|kM (h.pick 1)<|kV h (#[vI 0,vI 1]) 255 λb4 w h=>?_;replace h:=Fit.TV (n:=1) (l:=[afs]) (by rfl) (by rfl) PK (by decide) h;refine ko [U]<|kn<|wq<|λ_ r=>wp_label<|qq r<|tn<|wq<|wb<|qh h.ZS λh=>?_;have hn8:1=([afs]).length:=h.aaT;replace h:=Fit.Wa hn8 (λq_=>Ut 255 2 NC (.slice (some ⟨b4,0,none⟩) q_ 1) ([afs])) h;intro _ r;replace r:=r.re 9 (afr (λq_=>Value.slice (some ⟨b4,0,none⟩) q_ 1) hn8);refine NB (β:=Nat) id (λm a w=>∃U6:Option Addr,∃cc7:Nat,∃l5:List (aM×aM),∃l8:List aM,(gb K p0 p1 m l5 l8)=some r0/\∃j,Gk 73 (lk [(1,vI p1),(2,.func (.func 199) #[] #[]),(3,pA b1 0),(8,.map (some b3)),(9,.slice U6 l8.length cc7)] j) a/\Fit z (cQ (Qd b1 p0 M1 M8::mapOf NC NC b3 l5::Ut 255 2 NC (.slice U6 l8.length cc7) l8::L)) w) K ⟨(some ⟨b4,0,none⟩),1,(([]:List (aM×aM))++[(afs,agc)]),([afs]),H,r.fj (h.se 4 [3,1,0])⟩<|?_;clear h r H;rintro k1 a w ⟨U6,cc7,l5,l8,H,j,r,h⟩;cases k1 with
 | zero=>exact absurd H (by simp[gb])
 | succ k1 =>
  rw[gb]at H;refine qq r<|wq<|ks<|ko [U,vI ((l8.length:Nat):Int),vB (decide (((l8.length:Nat):Int)>0))]<|kn<|NN H (λPX H=>?_) λPX H=>?_
  ·refine wk<|tn<|wb<|ks<|qg H λRg H=>ko [U]<|kp (pA (Cp U6) (sJ U6+0*2)) (adU (i:=(0:Int)) (k:=.i64) (E:=255) rfl (by kernel_rfl) (by kernel_rfl) (by kernel_rfl) (by kernel_rfl) (h.pick 2) Rg)<|λ_ r=>RI (wn rfl) r (Rt (ag l8 0)) (cs:=VF (ag l8 0)) ⟨(h.pick 2).YC PK (f:=0) (zN Rg) rfl,(h.pick 2).YC PK (f:=1) (zN Rg) rfl,CH⟩<|?_;refine kN h (#[vI 0,vI 0]) 255 λQu w h=>kA h (ZT Qu (ag l8 0)) λw h=>kn<|ks<|qg H λSC H=>qg H λRE H=>ko [U]<|qh h.m3 λh=>λ_ r=>abL (k:=.i64) (wn rfl) rfl rfl r rfl (by kernel_rfl) (by kernel_rfl) (E:=255) (by kernel_rfl) (by kernel_rfl) PK h SC RE λSX ad2 a h r =>qq r<|ko [U]<|kn<|wq<|ks<|ko [U]<|kM (h.pick 1)<|Oj H λum UQ H=>N5 (Ve (H:=UQ) (h:=h) :) λw h=>kn<|V4 H (λQO H=>?_) λQO H=>?_
   ·refine wx<|te<|λ_ r=>U9 (by decide)<|qq r<|te<|bh<|tn<|ks<|ko Zy<|kn<|wr<|λ_ r=>aaL<|qq r<|?_;cases H;exact xy1 b3 (h.se 4 [3])
   refine wk<|tn<|wq<|qg H λPx H=>Oj H λsF Zm H=>λ_ r=>Ob [(b1,3,[.slice M1 p0.Code.length M8]),(Qu,0,[vI (ag l8 0).ag]),(Cp M1,sJ M1+(ag l8 0).ag.toNat*5,Om (ag p0.Code (ag l8 0).ag.toNat)),(Qu,1,[vI (ag l8 0).state])] [0,2,4,7] 11 h (λh=>⟨⟨(h.pick 2).cell 3 rfl,CH⟩,⟨(h.pick 1).cell 0 rfl,CH⟩,⟨Ni.cell Px (h.dn 4) 0 rfl,Ni.cell Px (h.dn 4) 1 rfl,Ni.cell Px (h.dn 4) 2 rfl,Ni.cell Px (h.dn 4) 3 rfl,Ni.cell Px (h.dn 4) 4 rfl,CH⟩,⟨(h.pick 1).cell 1 rfl,CH⟩,CH⟩) λw h hd =>qq r<|Oi hd 7 [(0,35,pA b1 3),(2,37,pA Qu 0),(6,41,vI p1),(7,42,pA Qu 1)]<|kx hd 0 6 1 rfl rfl<|kx hd 1 5 3 rfl rfl<|eo_ hd 4 4 rfl (pA (Cp M1) (sJ M1+(ag l8 0).ag.toNat*5)) (λw=>afF 146 M8 rfl rfl Ni Px)<|RJ hd 2 3 5 rfl rfl<|kx hd 3 2 8 rfl rfl<|λ_ r=>N3 9 rfl<|qq r<|N5 (Wp (H:=Zm) (h:=h) :) λw h=>kn<|λ_ r=>xE<|qq r<|ev_ 0 10 rfl (vI sF)<|λ_ r=>O4<|qq r<|tn<|ks<|kM (h.pick 2)<|ko [U]<|kL (h.pick 1) 0<|Oj H λlQ e24 H=>xc2 (Wq (M1:=M1) (M8:=M8) (Ni:=(jJ.up 4 Ni)) (MP:=jJ.up 4 MP) (H:=e24) (h:=h) :) λU8 Xf w h=>ko [vI ((lQ.length:Nat):Int),U]<|kn<|qd2 H λo32 H ad3=>λ_ r=>Qh (λa w=>∃abP:Option Addr,∃abQ:Nat,∃GW:List (aM×aM),∃U5:List aM,(GW,U5)=o32/\∃j,Gk 73 (lk [(1,vI p1),(2,.func (.func 199) #[] #[]),(3,pA b1 0),(8,.map (some b3)),(9,.slice abP U5.length abQ)] j) a/\Fit z (cQ (Qd b1 p0 M1 M8::mapOf NC NC b3 GW::Ut 255 2 NC (.slice abP U5.length abQ) U5::L)) w) ?_ ?_
   ·refine qq r<|wb<|λ_ r=>NB (β:=Nat) id (λm a w=>∃Xb:Option Addr,∃XX:Nat,∃Du:List (aM×aM),∃FM:List aM,∃oL:Int,(eP K l8 sF lQ m Du FM oL)=some o32/\∃j,Gk 73 (lk [(1,vI p1),(2,.func (.func 199) #[] #[]),(3,pA b1 0),(8,.map (some b3)),(9,.slice Xb FM.length XX),(10,pA Qu 0),(11,vI sF),(48,.slice U8 lQ.length Xf),(49,vI ((lQ.length:Nat):Int)),(50,vI oL)] j) a/\Fit z (cQ (Qd b1 p0 M1 M8::mapOf NC NC b3 Du::Ut 255 2 NC (.slice Xb FM.length XX) FM::ZT Qu (ag l8 0)::R8 U8 Xf lQ::L)) w) K ⟨SX,ad2,l5,(l8.drop 1),0,H,r.fj (h.se 5 [3,4,1,2,0])⟩<|?_;clear h r H;rintro k2 a w ⟨Xb,XX,Du,FM,oL,H,j,r,h⟩;cases k2 with
    | zero=>exact absurd H (by simp[eP])
    | succ k2 =>
     rw[eP]at H;refine qq r<|ks<|ko [vB (decide (oL<((lQ.length:Nat):Int)))]<|kn<|wq<|NN H (λXc H=>?_) λXc H=>?_
     ·refine wk<|tn<|wq<|wb<|ks<|qg H λXB H=>ki (h.pick 4) XB<|λ_ r=>ld (wn rfl) r (vI (ag lQ oL.toNat)) ((h.pick 4).Ng rm (f:=0) (zN XB) rfl)<|?_;refine ko [U]<|kn<|ks<|ko mT<|kN h (#[vI 0,vI 0]) 255 λb40 w h=>kA h (pts b40 (.cells #[vI (ag lQ oL.toNat),vI sF] 255)) λw h=>kn<|wq<|ks<|ko [U]<|kM h<|λ_ r=>abG (et:=255) (wn rfl) rfl rfl r rfl (by kernel_rfl) (⟨(ag lQ oL.toNat),sF⟩:aM) (by kernel_rfl) (by kernel_rfl) XR (v0:=afQ) (by kernel_rfl) (h.pick 2)<|?_;refine ko [.tuple #[Rt ((pE Du (⟨(ag lQ oL.toNat),sF⟩:aM)).getD afQ),vB (pE Du (⟨(ag lQ oL.toNat),sF⟩:aM)).isSome],U,U]<|kN h (#[vI 0,vI 0]) 255 λb41 w h=>kA h (ZT b41 ((pE Du (⟨(ag lQ oL.toNat),sF⟩:aM)).getD afQ)) λw h=>ko [U]<|kn<|ks<|ko [U]<|kn<|V4 H (λSY H=>?_) λSY H=>?_
      ·refine wx<|te<|bh<|tn<|wl<|ko [vI (wi (oL+1)),vI (wi (oL+1))]<|kn<|?_;exact λ_ r=>⟨_,⟨Xb,XX,Du,FM,(wi (oL+1)),H,r.fj (h.se 7 [2,3,4,5,6])⟩,afl _⟩
      refine wk<|tn<|ks<|ko [U]<|kM (h.pick 1)<|kM (h.pick 5)<|qh h.m3 λh=>qg H λW2 H=>λ_ r=>aaO (t:=252) (et:=255) (wn rfl) rfl r (Or.inl rfl) (by kernel_rfl) (⟨(ag lQ oL.toNat),sF⟩:aM) (ag l8 0) (by kernel_rfl) (by kernel_rfl) (by kernel_rfl) XR W2 h λw h=>qq r<|kn<|wl<|ko [U]<|kM (h.pick 2)<|kV h (#[vI (ag lQ oL.toNat),vI sF]) 255 λZV w h=>qh h.m5 λh=>qg H λY2 H=>λ_ r=>YE (n0:=FM.length) (c:=1) (bytes:=16) (wn rfl) rfl rfl r rfl (by kernel_rfl) (by kernel_rfl) PK (E:=255) (xs:=FM) (by kernel_rfl) (by kernel_rfl) h (news:=[(⟨(ag lQ oL.toNat),sF⟩:aM)]) (m:=1) rfl ((h.pick 1).news rfl) Y2 rfl λZn Zo w _ h r=>qq r<|ko [U]<|kl<|bn<|tn<|wl<|ko [vI (wi (oL+1)),vI (wi (oL+1))]<|kn<|?_;exact λ_ r=>⟨_,⟨Zn,Zo,(Du++[((⟨(ag lQ oL.toNat),sF⟩:aM),ag l8 0)]),(FM++[(⟨(ag lQ oL.toNat),sF⟩:aM)]),(wi (oL+1)),H,r.fj (h.se 8 [5,2,0,6,7])⟩,afl _⟩
     refine wx<|te<|te<|bh<|tn<|?_;exact λ_ r=>⟨Xb,XX,Du,FM,On H,r.fj (h.se 5 [0,1,2])⟩
   clear h r;rintro a w ⟨abP,abQ,GW,U5,rfl,j,r,h⟩;replace H:=kk2 ad3;refine qq r<|bn<|tn<|?_;exact λ_ r=>⟨_,⟨abP,abQ,GW,U5,H,r.fj h⟩,afl _⟩
  refine wx<|te<|te<|bh<|tn<|ks<|ko Zy<|kn<|wr<|λ_ r=>aaL<|qq r<|?_;cases H;exact xy1 b3 (h.se 3 [1])
def iX(K:Nat)(p0:ax):Nat->(List (List Int))->Int->Option ((List (List Int)))
 | 0,_,_=>none
 | k1+1,l7,g8=>(if g8<(((List.replicate p0.Code.length ([]:List Int)).length:Nat):Int)then if 0<=p0.cA/\p0.cA*8<=140737488355328 then if aZ g8 l7.length then(iX K p0 k1 (l7.set g8.toNat (List.replicate p0.cA.toNat (0:Int))) (wi (g8+1)))else none else none else some l7)
def gW(K:Nat)(uo:Int)(Ct:(aM×aM)):(List (List Int))->Option ((List (List Int)))
 | wL=>if aZ Ct.1.ag wL.length then if aZ uo (ag wL Ct.1.ag.toNat).length then some (wL.set Ct.1.ag.toNat ((ag wL Ct.1.ag.toNat).set uo.toNat (FF (ag (ag wL Ct.1.ag.toNat) uo.toNat) Ct.1.state)))else none else none
def iY(K:Nat)(p0:ax):Nat->(List (List Int))->Int->Option ((List (List Int)))
 | 0,_,_=>none
 | k2+1,wM,uo=>(if uo<p0.cA then bH (bH (jy K p0 uo) (λlQ=>(bH (jK (gW K uo) wM lQ) (λwL=>some wL)))) (λzU=>(iY K p0 k2 zU (wi (uo+1))))else some wM)
def mj(K:Nat)(p0:ax):Option ((List (List Int))):=
 if 0<=((p0.Code.length:Nat):Int)/\((p0.Code.length:Nat):Int)*24<=140737488355328 then bH ((iX K p0 K (List.replicate p0.Code.length ([]:List Int)) 0)) (λl4=>(iY K p0 K l4 0))else none
theorem TG{K:Nat}{p0:ax}{M1:Option Addr}{M8:Nat}{r0:List (List Int)}(H:mj K p0=some r0)(h:ft_ z (L) w)(Ni:jJ L 5 gJ M1 p0.Code)(MP:jJ L 5 kJ (some ⟨1,0,none⟩) pF) :
 Calls Tryz.prog 170 #[.agg #[vI p0.MW,vI p0.dA,vI p0.cA,.slice M1 p0.Code.length M8]] w λe w=>∃y1 y2,e=.returned (.slice y1 r0.length y2)/\Fit z (cQ (XO y1 y2 r0::L)) w:=by
 unfold mj at H;refine ke Tryz.func170 50 rfl λj=>ks<|kN h (#[vI p0.MW,vI p0.dA,vI p0.cA,.slice M1 p0.Code.length M8]) 99 λb1 w h=>ko [U]<|kn<|ks<|ko [U]<|kL h 3<|qg H λc2 H=>ko [vI ((p0.Code.length:Nat):Int)]<|λ_ r=>UH (own:=O2) (i:=((p0.Code.length:Nat):Int)) (bytes:=24) (zc:=#[.slice none 0 0]) ([]:List Int) (wn rfl) rfl rfl r rfl (by kernel_rfl) (by kernel_rfl) c2 rfl (by simp[Value.oneCell']) (by decide) (E:=28) (by kernel_rfl) (by kernel_rfl) rfl (λh=>OJ (x:=([]:List Int)) (QM:=none) (QN:=0) (h.ua)) h λNG w _ h r=>qq r<|ko [U]<|kn<|VA H λo6 H hK5=>λ_ r=>Nn (β:=Unit) (λ_ a w=>∃l4:List (List Int),l4=o6/\∃j,Gk 50 (lk [(1,pA b1 0),(3,.slice NG (List.replicate p0.Code.length ([]:List Int)).length p0.Code.length)] j) a/\Fit z (cQ (Qd b1 p0 M1 M8::Qw 28 1 O2 (.slice NG (List.replicate p0.Code.length ([]:List Int)).length p0.Code.length) l4::L)) w) ?_ ?_
 ·refine qq r<|ks<|ko [U,vI (((List.replicate p0.Code.length ([]:List Int)).length:Nat):Int),U]<|kn<|wb<|λ_ r=>NB (β:=Nat) id (λm a w=>∃l7:List (List Int),∃g8:Int,(iX K p0 m l7 g8)=some o6/\∃j,Gk 50 (lk [(1,pA b1 0),(3,.slice NG (List.replicate p0.Code.length ([]:List Int)).length p0.Code.length),(12,vI (((List.replicate p0.Code.length ([]:List Int)).length:Nat):Int)),(13,vI g8)] j) a/\Fit z (cQ (Qd b1 p0 M1 M8::Qw 28 1 O2 (.slice NG (List.replicate p0.Code.length ([]:List Int)).length p0.Code.length) l7::L)) w) K ⟨(List.replicate p0.Code.length ([]:List Int)),0,H,r.fj (h.se 2 [1,0])⟩<|?_;clear h r H;rintro k1 a w ⟨l7,g8,H,j,r,h⟩;cases k1 with
  | zero=>exact absurd H (by simp[iX])
  | succ k1 =>
   rw[iX]at H;refine qq r<|ks<|ko [vB (decide (g8<(((List.replicate p0.Code.length ([]:List Int)).length:Nat):Int)))]<|kn<|wq<|NN H (λc9 H=>?_) λc9 H=>?_
   ·refine wk<|tn<|wq<|wb<|ks<|ko Zy<|kn<|wl<|ko mT<|kL h 2<|qg H λPX H=>λ_ r=>PS (i:=p0.cA) (bytes:=8) (zc:=#[vI 0]) (0:Int) (wn rfl) rfl rfl r rfl (by kernel_rfl) (by kernel_rfl) PX rm (E:=3) (by kernel_rfl) (by kernel_rfl) rfl rfl h λMS w _ h r=>qq r<|qg H λUm H=>kp (pA (Cp NG) (g8.toNat*1)) (V1 (k:=.i64) (E:=28) rfl (by kernel_rfl) (by kernel_rfl) (by kernel_rfl) (by kernel_rfl) (h.pick 2) Um)<|?_;obtain⟨afc,h⟩:=h.m2.Pr (zN Um);obtain⟨PL,QE,XY,h⟩:=PE (h.m1);subst XY;refine qh h.m1 λh=>λ_ r=>Uj (wn rfl) rfl r rfl (by kernel_rfl) (by kernel_rfl) (v:=.slice MS (List.replicate p0.cA.toNat (0:Int)).length p0.cA.toNat) rfl rfl (by kernel_rfl) (by kernel_rfl) h (i:=g8.toNat) (f:=0) (by decide) λw h=>qq r<|kl<|bn<|tn<|wl<|ko [vI (wi (g8+1)),vI (wi (g8+1))]<|kn<|qh h.m2 λh=>?_;replace h:=OJ (x:=(List.replicate p0.cA.toNat (0:Int))) h;replace h:=(h.m1).Sz;exact λ_ r=>⟨_,⟨(l7.set g8.toNat (List.replicate p0.cA.toNat (0:Int))),(wi (g8+1)),H,r.fj (h.se 3 [2,0])⟩,afl _⟩
   refine wx<|te<|te<|bh<|tn<|?_;exact λ_ r=>⟨(),l7,On H,r.fj h⟩
 clear h r;rintro _ a w ⟨l4,rfl,j,r,h⟩;replace H:=Vy hK5;refine qq r<|wq<|ks<|ko [U]<|kL h 2<|ko [U]<|kn<|wb<|λ_ r=>NB (β:=Nat) id (λm a w=>∃wM:List (List Int),∃uo:Int,(iY K p0 m wM uo)=some r0/\∃j,Gk 50 (lk [(1,pA b1 0),(3,.slice NG (List.replicate p0.Code.length ([]:List Int)).length p0.Code.length),(24,vI p0.cA),(25,vI uo)] j) a/\Fit z (cQ (Qd b1 p0 M1 M8::Qw 28 1 O2 (.slice NG (List.replicate p0.Code.length ([]:List Int)).length p0.Code.length) wM::L)) w) K ⟨l4,0,H,r.fj h⟩<|?_;clear h r H;rintro k2 a w ⟨wM,uo,H,j,r,h⟩;cases k2 with
 | zero=>exact absurd H (by simp[iY])
 | succ k2 =>
  rw[iY]at H;refine qq r<|ks<|ko [vB (decide (uo<p0.cA))]<|kn<|wq<|NN H (λQO H=>?_) λQO H=>?_
  ·refine wk<|tn<|VA H λo22 H ad4=>λ_ r=>Nn (β:=Unit) (λ_ a w=>∃zU:List (List Int),zU=o22/\∃j,Gk 50 (lk [(1,pA b1 0),(3,.slice NG (List.replicate p0.Code.length ([]:List Int)).length p0.Code.length),(24,vI p0.cA),(25,vI uo)] j) a/\Fit z (cQ (Qd b1 p0 M1 M8::Qw 28 1 O2 (.slice NG (List.replicate p0.Code.length ([]:List Int)).length p0.Code.length) zU::L)) w) ?_ ?_
   ·refine qq r<|wb<|ks<|ko Zy<|kn<|ks<|kM h<|Oj H λlQ e24 H=>ko [U]<|xc1 (T6 (M1:=M1) (M8:=M8) (Ni:=(jJ.up 2 Ni)) (MP:=jJ.up 2 MP) (H:=e24) (h:=h) :) λado w h=>λ_ r=>aaP (kt:=255) (et:=255) (wn rfl) rfl rfl r rfl (by kernel_rfl) (by kernel_rfl) h λb26 w _ h r=>qq r<|kn<|wb<|Oj H λDQ YP H=>λ_ r=>Zd lQ (gW K uo) wM (λadp s_ a w=>∃wL:List (List Int),wL=s_/\∃j,Gk 50 (lk [(1,pA b1 0),(3,.slice NG (List.replicate p0.Code.length ([]:List Int)).length p0.Code.length),(5,vI uo),(24,vI p0.cA),(25,vI uo),(31,pA b26 0)] j) a/\Fit z (cQ (Qd b1 p0 M1 M8::Qw 28 1 O2 (.slice NG (List.replicate p0.Code.length ([]:List Int)).length p0.Code.length) wL::Wg b26 ado lQ.length adp::mapOf NC NC ado lQ::L)) w) ⟨wM,rfl,r.fj (h.se 4 [2,3,0,1])⟩<|?_;clear h r;rintro adp _ a w hs_ ⟨wL,rfl,j,r,h⟩;refine qq r<|ks<|qh h.m3.m3 λh=>λ_ r=>abH (wn rfl) rfl rfl r rfl (by kernel_rfl) rfl h ?_ ?_
    ·clear r;intro adq a r;have e_:=hs_.done YP adq;subst e_;refine qq r<|ko [U]<|kn<|wq<|λ_ r=>O3 r (b:=false) rfl<|qq r<|wx<|te<|te<|bh<|bn<|tn<|?_;exact λ_ r=>⟨(),wL,On H,r.fj (h.se 4 [2,3])⟩
    clear r h;intro afd Ct w a hx_ hi_ h r;obtain⟨s1_,Hs_,hp_⟩:=hs_.push YP hx_ hi_;clear H;have H:=Hs_;rw[gW]at H;refine qq r<|ko [U]<|kn<|wq<|λ_ r=>Oh r (b:=true) rfl<|qq r<|wk<|tn<|wb<|ks<|λ_ r=>aaQ (wn rfl) rfl rfl r rfl (by kernel_rfl) rfl h hx_<|?_;refine ko [U]<|kN h (#[vI 0,vI 0]) 255 λXZ w h=>kA h (ZT XZ Ct.1) λw h=>kn<|qg H λUC H=>?_;obtain⟨afe,h⟩:=h.m4.Pr (zN UC);obtain⟨aaj,acw,GJ,h⟩:=PE (h.m1);subst GJ;refine qg H λXB H=>λ_ r=>Ob [(XZ,0,[vI Ct.1.ag]),(Cp NG,Ct.1.ag.toNat*1,[.slice aaj (ag wL Ct.1.ag.toNat).length acw]),(Cp aaj,uo.toNat*1,[vI (ag (ag wL Ct.1.ag.toNat) uo.toNat)]),(XZ,1,[vI Ct.1.state])] [1,3,6,8] 13 h (λh=>⟨⟨(h.pick 2).cell 0 rfl,CH⟩,⟨(h.pick 1).P8 (by decide) (f:=0) rfl,CH⟩,⟨h.Ng rm (f:=0) (zN XB) rfl,CH⟩,⟨(h.pick 2).cell 1 rfl,CH⟩,CH⟩) λw h hd =>qq r<|Oi hd 9 [(0,36,.slice NG (List.replicate p0.Code.length ([]:List Int)).length p0.Code.length),(1,37,pA XZ 0),(5,41,vI uo),(8,44,pA XZ 1)]<|kx hd 0 8 2 rfl rfl<|eo_ hd 7 3 rfl (pA (Cp NG) (Ct.1.ag.toNat*1)) (λw=>RA (k:=.i64) (E:=28) rfl (by kernel_rfl) (by kernel_rfl) (by kernel_rfl) (by kernel_rfl) (h.pick 1) UC)<|kx hd 1 6 4 rfl rfl<|eo_ hd 5 6 rfl (pA (Cp aaj) (uo.toNat*1)) (λw=>ag0 3 rfl h XB)<|kx hd 2 4 7 rfl rfl<|kx hd 3 3 9 rfl rfl<|eo_ hd 2 10 rfl (vI (FF (ag (ag wL Ct.1.ag.toNat) uo.toNat) Ct.1.state)) (λw=>ror rfl (by kernel_rfl) (by kernel_rfl))<|eo_ hd 1 11 rfl (pA (Cp aaj) (uo.toNat*1)) (λw=>ag0 3 rfl h XB)<|λ_ r=>N3 12 rfl<|VD (wn rfl) r rm h uo.toNat 0 (vI (FF (ag (ag wL Ct.1.ag.toNat) uo.toNat) Ct.1.state)) (ag (ag wL Ct.1.ag.toNat) uo.toNat) (FF (ag (ag wL Ct.1.ag.toNat) uo.toNat) Ct.1.state) (zN XB) λw h=>qq r<|kn<|λ_ r=>xE<|O4<|qq r<|bn<|tn<|?_;replace h:=h.oH (λq_=>Tt 28 1 O2 (.slice NG (List.replicate p0.Code.length ([]:List Int)).length p0.Code.length) wL Ct.1.ag.toNat [.slice aaj q_ acw]);replace h:=OJ (x:=((ag wL Ct.1.ag.toNat).set uo.toNat (FF (ag (ag wL Ct.1.ag.toNat) uo.toNat) Ct.1.state))) h;replace h:=(h.m1).Sz;exact λ_ r=>⟨_,_,hp_,(wL.set Ct.1.ag.toNat ((ag wL Ct.1.ag.toNat).set uo.toNat (FF (ag (ag wL Ct.1.ag.toNat) uo.toNat) Ct.1.state))),On H,r.fj (h.se 5 [4,0,2,3])⟩
   clear h r;rintro _ a w ⟨zU,rfl,j,r,h⟩;replace H:=Vy ad4;refine qq r<|wl<|ko [vI (wi (uo+1)),vI (wi (uo+1))]<|kn<|?_;exact λ_ r=>⟨_,⟨zU,(wi (uo+1)),H,r.fj h⟩,afl _⟩
  refine wx<|te<|te<|bh<|tn<|ks<|ko Zy<|kn<|wr<|λ_ r=>afn (.slice NG (List.replicate p0.Code.length ([]:List Int)).length p0.Code.length) rfl r<|qh h.m1 λh=>?_;have aa5:(List.replicate p0.Code.length ([]:List Int)).length=wM.length:=h.Y9;replace h:=Fit.Wa aa5 (λq_=>Qw 28 1 O2 (.slice NG q_ p0.Code.length) wM) h;cases H;exact⟨NG,p0.Code.length,(by first | rfl | simp only[aa5]),h.se 2 [0]⟩
def fU(K:Nat)(r2:List (List Int))(g6:Int):Nat->Int->Int->Option (Int)
 | 0,_,_=>none
 | k2+1,oL,Dv=>(if Dv<(((ag r2 g6.toNat).length:Nat):Int)then if aZ Dv (ag r2 g6.toNat).length then(if(eK (ag (ag r2 g6.toNat) Dv.toNat) (2:Int))=0 then(fU K r2 g6 k2 oL (wi (Dv+1)))else(fU K r2 g6 k2 56 (wi (Dv+1))))else none else some oL)
def iy(K:Nat)(p0:Int)(p1:ax)(r2:List (List Int)):Nat->Int->Option ((Unit)⊕gA)
 | 0,_=>none
 | k1+1,g6=>(if g6<((p1.Code.length:Nat):Int)then kQ (if aZ g6 p1.Code.length then bH ((if(ag p1.Code g6.toNat).aQ=5 then if aZ g6 r2.length then if aZ (ag p1.Code g6.toNat).A (ag r2 g6.toNat).length then(if(eK (ag (ag r2 g6.toNat) (ag p1.Code g6.toNat).A.toNat) (2:Int))=0 then some 0 else some 54)else none else none else(if(ag p1.Code g6.toNat).aQ=7 then if aZ g6 r2.length then if aZ (ag p1.Code g6.toNat).B (ag r2 g6.toNat).length then(if(eK (ag (ag r2 g6.toNat) (ag p1.Code g6.toNat).B.toNat) (3:Int))=0 then some 0 else some 55)else none else none else(if(ag p1.Code g6.toNat).aQ=9 then if aZ g6 r2.length then(fU K r2 g6 K 0 0)else none else some 0)))) (λvk=>(if vk=0 then some (.inl ())else some (.inr (.inr (⟨vk,p0,g6⟩:gA)))))else none) ((iy K p0 p1 r2 k1 (wi (g6+1))))else some (.inl ()))
def oM(K:Nat)(p0:Int)(p1:ax):Option ((Unit)⊕gA):=
 bH (mj K p1) (λr2=>(iy K p0 p1 r2 K 0))
abbrev u6_:List Value:=[U,U,U,U,U,U]
theorem Wr{K:Nat}{p0:Int}{p1:ax}{Nk:Option Addr}{Np:Nat}(H:oM K p0 p1=some (.inl ()))(h:ft_ z (L) w)(NP:jJ L 5 gJ Nk p1.Code)(MP:jJ L 5 kJ (some ⟨1,0,none⟩) pF) :
 c0_ 116 #[vI p0,.agg #[vI p1.MW,vI p1.dA,vI p1.cA,.slice Nk p1.Code.length Np]] w z (.tuple #[]) (L):=by
 unfold oM at H;refine ke Tryz.func116 70 rfl λj=>ks<|kN h (#[vI p1.MW,vI p1.dA,vI p1.cA,.slice Nk p1.Code.length Np]) 99 λb1 w h=>kn<|ks<|kM h<|Oj H λr2 e3 H=>xc2 (TG (M1:=Nk) (M8:=Np) (Ni:=(jJ.up 1 NP)) (MP:=jJ.up 1 MP) (H:=e3) (h:=h) :) λx4 x5 w h=>ko [U]<|kn<|ks<|ko [U]<|kL (h.pick 1) 3<|ko [vI ((p1.Code.length:Nat):Int),U]<|kn<|wb<|λ_ r=>NB (β:=Nat) id (λm a w=>∃g6:Int,(iy K p0 p1 r2 m g6)=some (.inl ())/\∃j,Gk 70 (lk [(0,vI p0),(4,.slice x4 r2.length x5),(13,.slice Nk p1.Code.length Np),(14,vI ((p1.Code.length:Nat):Int)),(15,vI g6)] j) a/\Fit z (cQ (XO x4 x5 r2::L)) w) K ⟨0,H,r.fj (h.se 2 [0])⟩<|?_;clear h r H;rintro k1 a w ⟨g6,H,j,r,h⟩;cases k1 with
 | zero=>exact absurd H (by simp[iy])
 | succ k1 =>
  rw[iy]at H;refine qq r<|ks<|ko [vB (decide (g6<((p1.Code.length:Nat):Int)))]<|kn<|wq<|NN H (λc7 H=>?_) λc7 H=>?_
  ·refine wk<|tn<|?_;obtain⟨o9,H,YL⟩:=U3 H;refine λ_ r=>Nn (β:=Unit) (λ_ a w=>.inl ()=o9/\∃j,Gk 70 (lk [(0,vI p0),(4,.slice x4 r2.length x5),(13,.slice Nk p1.Code.length Np),(14,vI ((p1.Code.length:Nat):Int)),(15,vI g6)] j) a/\Fit z (cQ (XO x4 x5 r2::L)) w) ?_ ?_
   ·refine qq r<|wb<|ks<|qg H λPX H=>ko [U]<|kj 146 Np NP PX<|λ_ r=>RI (wn rfl) r (OQ (ag p1.Code g6.toNat)) (cs:=Om (ag p1.Code g6.toNat)) ⟨NP.cell PX (h.dn 1) 0 rfl,NP.cell PX (h.dn 1) 1 rfl,NP.cell PX (h.dn 1) 2 rfl,NP.cell PX (h.dn 1) 3 rfl,NP.cell PX (h.dn 1) 4 rfl,CH⟩<|?_;refine kN h (agJ) 146 λZh w h=>ko [U]<|kA h (RM Zh (ag p1.Code g6.toNat)) λw h=>kn<|ks<|ko [U]<|kn<|VA H λo14 H acy=>λ_ r=>Nn (β:=Unit) (λ_ a w=>∃vk:Int,vk=o14/\∃j,Gk 70 (lk [(0,vI p0),(4,.slice x4 r2.length x5),(5,vI g6),(7,vI vk),(13,.slice Nk p1.Code.length Np),(14,vI ((p1.Code.length:Nat):Int)),(15,vI g6)] j) a/\Fit z (cQ (XO x4 x5 r2::L)) w) ?_ ?_
    ·refine qq r<|ks<|ko [U]<|kL h 0<|kn<|wb<|ks<|ko [vB ((ag p1.Code g6.toNat).aQ==5),vB ((ag p1.Code g6.toNat).aQ==5)]<|kn<|NN H (λQb H=>?_) λQb H=>?_
     ·refine wq<|qg H λR0 H=>?_;obtain⟨adr,h⟩:=h.m1.Pr (zN R0);obtain⟨Vh,Zp,XA,h⟩:=PE (h.m1);subst XA;refine qg H λQt H=>λ_ r=>Ob [(Cp x4,g6.toNat*1,[.slice Vh (ag r2 g6.toNat).length Zp]),(Zh,1,[vI (ag p1.Code g6.toNat).A]),(Cp Vh,(ag p1.Code g6.toNat).A.toNat*1,[vI (ag (ag r2 g6.toNat) (ag p1.Code g6.toNat).A.toNat)])] [2,4,6] 10 h (λh=>⟨⟨(h.pick 1).P8 (by decide) (f:=0) rfl,CH⟩,⟨(h.pick 2).cell 1 rfl,CH⟩,⟨h.Ng rm (f:=0) (zN Qt) rfl,CH⟩,CH⟩) λw h hd =>qq r<|Oi hd 8 [(0,24,.slice x4 r2.length x5),(1,25,vI g6)]<|eo_ hd 7 2 rfl (pA (Cp x4) (g6.toNat*1)) (λw=>RA (k:=.i64) (E:=28) rfl (by kernel_rfl) (by kernel_rfl) (by kernel_rfl) (by kernel_rfl) (h.pick 1) R0)<|Oi hd 6 [(4,28,pA Zh 1)]<|kx hd 0 5 3 rfl rfl<|kx hd 1 4 5 rfl rfl<|eo_ hd 3 6 rfl (pA (Cp Vh) ((ag p1.Code g6.toNat).A.toNat*1)) (λw=>ag0 3 rfl h Qt)<|kx hd 2 2 7 rfl rfl<|eo_ hd 1 8 rfl (vI (eK (ag (ag r2 g6.toNat) (ag p1.Code g6.toNat).A.toNat) (2:Int))) (λw=>rand rfl (by kernel_rfl) (by kernel_rfl))<|Oi hd 0 [(9,33,vB ((eK (ag (ag r2 g6.toNat) (ag p1.Code g6.toNat).A.toNat) (2:Int)) != 0))]<|λ_ r=>O4<|qq r<|tn<|Qf H (λUn H=>?_) λUn H=>?_
      ·refine wk<|bn<|tn<|?_;replace h:=OJ (x:=(ag r2 g6.toNat)) h;replace h:=(h.m1).OC;exact λ_ r=>⟨(),0,On H,r.fj (h.se 2 [0])⟩
      refine wl<|ko [U]<|kl<|bn<|tn<|?_;replace h:=OJ (x:=(ag r2 g6.toNat)) h;replace h:=(h.m1).OC;exact λ_ r=>⟨(),54,On H,r.fj (h.se 2 [0])⟩
     refine ks<|ko [vB ((ag p1.Code g6.toNat).aQ==7),vB ((ag p1.Code g6.toNat).aQ==7)]<|kn<|NN H (λTj H=>?_) λTj H=>?_
     ·refine wq<|qg H λTH H=>?_;obtain⟨ad5,h⟩:=h.m1.Pr (zN TH);obtain⟨SE,T4,GK,h⟩:=PE (h.m1);subst GK;refine qg H λUo H=>λ_ r=>Ob [(Cp x4,g6.toNat*1,[.slice SE (ag r2 g6.toNat).length T4]),(Zh,2,[vI (ag p1.Code g6.toNat).B]),(Cp SE,(ag p1.Code g6.toNat).B.toNat*1,[vI (ag (ag r2 g6.toNat) (ag p1.Code g6.toNat).B.toNat)])] [2,4,6] 10 h (λh=>⟨⟨(h.pick 1).P8 (by decide) (f:=0) rfl,CH⟩,⟨(h.pick 2).cell 2 rfl,CH⟩,⟨h.Ng rm (f:=0) (zN Uo) rfl,CH⟩,CH⟩) λw h hd =>qq r<|Oi hd 8 [(0,36,.slice x4 r2.length x5),(1,37,vI g6)]<|eo_ hd 7 2 rfl (pA (Cp x4) (g6.toNat*1)) (λw=>RA (k:=.i64) (E:=28) rfl (by kernel_rfl) (by kernel_rfl) (by kernel_rfl) (by kernel_rfl) (h.pick 1) TH)<|Oi hd 6 [(4,40,pA Zh 2)]<|kx hd 0 5 3 rfl rfl<|kx hd 1 4 5 rfl rfl<|eo_ hd 3 6 rfl (pA (Cp SE) ((ag p1.Code g6.toNat).B.toNat*1)) (λw=>ag0 3 rfl h Uo)<|kx hd 2 2 7 rfl rfl<|eo_ hd 1 8 rfl (vI (eK (ag (ag r2 g6.toNat) (ag p1.Code g6.toNat).B.toNat) (3:Int))) (λw=>rand rfl (by kernel_rfl) (by kernel_rfl))<|Oi hd 0 [(9,45,vB ((eK (ag (ag r2 g6.toNat) (ag p1.Code g6.toNat).B.toNat) (3:Int)) != 0))]<|λ_ r=>O4<|qq r<|tn<|Qf H (λRa H=>?_) λRa H=>?_
      ·refine wk<|bn<|tn<|?_;replace h:=OJ (x:=(ag r2 g6.toNat)) h;replace h:=(h.m1).OC;exact λ_ r=>⟨(),0,On H,r.fj (h.se 2 [0])⟩
      refine wl<|ko [U]<|kl<|bn<|tn<|?_;replace h:=OJ (x:=(ag r2 g6.toNat)) h;replace h:=(h.m1).OC;exact λ_ r=>⟨(),55,On H,r.fj (h.se 2 [0])⟩
     refine ks<|ko [vB ((ag p1.Code g6.toNat).aQ==9),vB ((ag p1.Code g6.toNat).aQ==9)]<|kn<|NN H (λRw H=>?_) λRw H=>?_
     ·refine ks<|qg H λUO H=>ko Zy<|kp (pA (Cp x4) (g6.toNat*1)) (V1 (k:=.i64) (E:=28) rfl (by kernel_rfl) (by kernel_rfl) (by kernel_rfl) (by kernel_rfl) (h.pick 1) UO)<|?_;obtain⟨ad6,h⟩:=h.m1.Pr (zN UO);obtain⟨VQ,VR,XU,h⟩:=PE (h.m1);subst XU;refine λ_ r=>ld (wn rfl) r (.slice VQ (ag r2 g6.toNat).length VR) ((h.pick 1).P8 (by decide) (f:=0) rfl)<|?_;refine ko [vI (((ag r2 g6.toNat).length:Nat):Int),U]<|kn<|wb<|λ_ r=>NB (β:=Nat) id (λm a w=>∃oL:Int,∃Dv:Int,(fU K r2 g6 m oL Dv)=some o14/\∃j,Gk 70 (lk [(0,vI p0),(4,.slice x4 r2.length x5),(5,vI g6),(7,vI oL),(13,.slice Nk p1.Code.length Np),(14,vI ((p1.Code.length:Nat):Int)),(15,vI g6),(51,.slice VQ (ag r2 g6.toNat).length VR),(52,vI (((ag r2 g6.toNat).length:Nat):Int)),(53,vI Dv)] j) a/\Fit z (cQ (Tt 28 1 O2 (.slice x4 r2.length x5) r2 g6.toNat [.slice VQ (ag r2 g6.toNat).length VR]::R8 VQ VR (ag r2 g6.toNat)::L)) w) K ⟨0,0,H,r.fj (h.se 3 [1,0])⟩<|?_;clear h r H;rintro k2 a w ⟨oL,Dv,H,j,r,h⟩;cases k2 with
      | zero=>exact absurd H (by simp[fU])
      | succ k2 =>
       rw[fU]at H;refine qq r<|ks<|ko [vB (decide (Dv<(((ag r2 g6.toNat).length:Nat):Int)))]<|kn<|wq<|NN H (λXB H=>?_) λXB H=>?_
       ·refine wk<|tn<|wq<|wb<|ks<|qg H λXC H=>ki (h.pick 1) XC<|λ_ r=>ld (wn rfl) r (vI (ag (ag r2 g6.toNat) Dv.toNat)) ((h.pick 1).Ng rm (f:=0) (zN XC) rfl)<|?_;refine ko [U]<|kn<|ks<|ko [U]<|kp (vI (eK (ag (ag r2 g6.toNat) Dv.toNat) (2:Int))) (rand rfl (by kernel_rfl) (by kernel_rfl))<|ko [vB ((eK (ag (ag r2 g6.toNat) Dv.toNat) (2:Int)) != 0)]<|kn<|Qf H (λSF H=>?_) λSF H=>?_
        ·refine wk<|bn<|tn<|wl<|ko [vI (wi (Dv+1)),vI (wi (Dv+1))]<|kn<|?_;exact λ_ r=>⟨_,⟨oL,(wi (Dv+1)),H,r.fj h⟩,afl _⟩
        refine wl<|ko [U]<|kl<|bn<|tn<|wl<|ko [vI (wi (Dv+1)),vI (wi (Dv+1))]<|kn<|?_;exact λ_ r=>⟨_,⟨56,(wi (Dv+1)),H,r.fj h⟩,afl _⟩
       refine wx<|te<|te<|bh<|bn<|tn<|qh h.m1 λh=>?_;replace h:=OJ (x:=(ag r2 g6.toNat)) h;replace h:=(h.m1).OC;exact λ_ r=>⟨(),oL,On H,r.fj h⟩
     refine wk<|bn<|tn<|?_;exact λ_ r=>⟨(),0,On H,r.fj (h.se 2 [1])⟩
    clear h r;rintro _ a w ⟨vk,rfl,j,r,h⟩;replace H:=Vy acy;refine qq r<|ks<|ko [U,vB (vk != 0)]<|kn<|Qf H (λSY H=>?_) λSY H=>?_
    ·refine wk<|bn<|tn<|?_;exact λ_ r=>⟨(),On H,r.fj h⟩
    refine wl<|ko u6_<|λ_ r=>Va (wn rfl) r rfl (T:=194) (u:=.agg #[vI vk,vI p0,vI g6]) (by kernel_rfl)<|QL<|PJ<|PJ<|QL<|TX r<|?_;replace H:=Q6 H YL;cases H
   clear h r;rintro _ a w ⟨rfl,j,r,h⟩;replace H:=U4 YL;refine qq r<|wl<|ko [vI (wi (g6+1)),vI (wi (g6+1))]<|kn<|?_;exact λ_ r=>⟨_,⟨(wi (g6+1)),H,r.fj h⟩,afl _⟩
  refine wx<|te<|te<|bh<|?_;cases H;exact ZR (h.se 1 [])
theorem Ws{K:Nat}{p0:Int}{p1:ax}{Nk:Option Addr}{Np:Nat}{rP:gA}(H:oM K p0 p1=some (.inr rP))(h:ft_ z (L) w)(NP:jJ L 5 gJ Nk p1.Code)(MP:jJ L 5 kJ (some ⟨1,0,none⟩) pF) :
 Calls Tryz.prog 116 #[vI p0,.agg #[vI p1.MW,vI p1.dA,vI p1.cA,.slice Nk p1.Code.length Np]] w λe w=>e=.panicked [{v:=.iface 194 (Ta rP),recovered:=false}]/\Fit z (cQ (L)) w:=by
 unfold oM at H;refine ke Tryz.func116 70 rfl λj=>ks<|kN h (#[vI p1.MW,vI p1.dA,vI p1.cA,.slice Nk p1.Code.length Np]) 99 λb1 w h=>kn<|ks<|kM h<|Oj H λr2 e3 H=>xc2 (TG (M1:=Nk) (M8:=Np) (Ni:=(jJ.up 1 NP)) (MP:=jJ.up 1 MP) (H:=e3) (h:=h) :) λx4 x5 w h=>ko [U]<|kn<|ks<|ko [U]<|kL (h.pick 1) 3<|ko [vI ((p1.Code.length:Nat):Int),U]<|kn<|wb<|λ_ r=>NB (β:=Nat) id (λm a w=>∃g6:Int,(iy K p0 p1 r2 m g6)=some (.inr rP)/\∃j,Gk 70 (lk [(0,vI p0),(4,.slice x4 r2.length x5),(13,.slice Nk p1.Code.length Np),(14,vI ((p1.Code.length:Nat):Int)),(15,vI g6)] j) a/\Fit z (cQ (XO x4 x5 r2::L)) w) K ⟨0,H,r.fj (h.se 2 [0])⟩<|?_;clear h r H;rintro k1 a w ⟨g6,H,j,r,h⟩;cases k1 with
 | zero=>exact absurd H (by simp[iy])
 | succ k1 =>
  rw[iy]at H;refine qq r<|ks<|ko [vB (decide (g6<((p1.Code.length:Nat):Int)))]<|kn<|wq<|NN H (λc7 H=>?_) λc7 H=>?_
  ·refine wk<|tn<|?_;obtain⟨o9,H,YL⟩:=U3 H;refine λ_ r=>Nn (β:=Unit) (λ_ a w=>.inl ()=o9/\∃j,Gk 70 (lk [(0,vI p0),(4,.slice x4 r2.length x5),(13,.slice Nk p1.Code.length Np),(14,vI ((p1.Code.length:Nat):Int)),(15,vI g6)] j) a/\Fit z (cQ (XO x4 x5 r2::L)) w) ?_ ?_
   ·refine qq r<|wb<|ks<|qg H λPX H=>ko [U]<|kj 146 Np NP PX<|λ_ r=>RI (wn rfl) r (OQ (ag p1.Code g6.toNat)) (cs:=Om (ag p1.Code g6.toNat)) ⟨NP.cell PX (h.dn 1) 0 rfl,NP.cell PX (h.dn 1) 1 rfl,NP.cell PX (h.dn 1) 2 rfl,NP.cell PX (h.dn 1) 3 rfl,NP.cell PX (h.dn 1) 4 rfl,CH⟩<|?_;refine kN h (agJ) 146 λZh w h=>ko [U]<|kA h (RM Zh (ag p1.Code g6.toNat)) λw h=>kn<|ks<|ko [U]<|kn<|VA H λo14 H acy=>λ_ r=>Nn (β:=Unit) (λ_ a w=>∃vk:Int,vk=o14/\∃j,Gk 70 (lk [(0,vI p0),(4,.slice x4 r2.length x5),(5,vI g6),(7,vI vk),(13,.slice Nk p1.Code.length Np),(14,vI ((p1.Code.length:Nat):Int)),(15,vI g6)] j) a/\Fit z (cQ (XO x4 x5 r2::L)) w) ?_ ?_
    ·refine qq r<|ks<|ko [U]<|kL h 0<|kn<|wb<|ks<|ko [vB ((ag p1.Code g6.toNat).aQ==5),vB ((ag p1.Code g6.toNat).aQ==5)]<|kn<|NN H (λQb H=>?_) λQb H=>?_
     ·refine wq<|qg H λR0 H=>?_;obtain⟨adr,h⟩:=h.m1.Pr (zN R0);obtain⟨Vh,Zp,XA,h⟩:=PE (h.m1);subst XA;refine qg H λQt H=>λ_ r=>Ob [(Cp x4,g6.toNat*1,[.slice Vh (ag r2 g6.toNat).length Zp]),(Zh,1,[vI (ag p1.Code g6.toNat).A]),(Cp Vh,(ag p1.Code g6.toNat).A.toNat*1,[vI (ag (ag r2 g6.toNat) (ag p1.Code g6.toNat).A.toNat)])] [2,4,6] 10 h (λh=>⟨⟨(h.pick 1).P8 (by decide) (f:=0) rfl,CH⟩,⟨(h.pick 2).cell 1 rfl,CH⟩,⟨h.Ng rm (f:=0) (zN Qt) rfl,CH⟩,CH⟩) λw h hd =>qq r<|Oi hd 8 [(0,24,.slice x4 r2.length x5),(1,25,vI g6)]<|eo_ hd 7 2 rfl (pA (Cp x4) (g6.toNat*1)) (λw=>RA (k:=.i64) (E:=28) rfl (by kernel_rfl) (by kernel_rfl) (by kernel_rfl) (by kernel_rfl) (h.pick 1) R0)<|Oi hd 6 [(4,28,pA Zh 1)]<|kx hd 0 5 3 rfl rfl<|kx hd 1 4 5 rfl rfl<|eo_ hd 3 6 rfl (pA (Cp Vh) ((ag p1.Code g6.toNat).A.toNat*1)) (λw=>ag0 3 rfl h Qt)<|kx hd 2 2 7 rfl rfl<|eo_ hd 1 8 rfl (vI (eK (ag (ag r2 g6.toNat) (ag p1.Code g6.toNat).A.toNat) (2:Int))) (λw=>rand rfl (by kernel_rfl) (by kernel_rfl))<|Oi hd 0 [(9,33,vB ((eK (ag (ag r2 g6.toNat) (ag p1.Code g6.toNat).A.toNat) (2:Int)) != 0))]<|λ_ r=>O4<|qq r<|tn<|Qf H (λUn H=>?_) λUn H=>?_
      ·refine wk<|bn<|tn<|?_;replace h:=OJ (x:=(ag r2 g6.toNat)) h;replace h:=(h.m1).OC;exact λ_ r=>⟨(),0,On H,r.fj (h.se 2 [0])⟩
      refine wl<|ko [U]<|kl<|bn<|tn<|?_;replace h:=OJ (x:=(ag r2 g6.toNat)) h;replace h:=(h.m1).OC;exact λ_ r=>⟨(),54,On H,r.fj (h.se 2 [0])⟩
     refine ks<|ko [vB ((ag p1.Code g6.toNat).aQ==7),vB ((ag p1.Code g6.toNat).aQ==7)]<|kn<|NN H (λTj H=>?_) λTj H=>?_
     ·refine wq<|qg H λTH H=>?_;obtain⟨ad5,h⟩:=h.m1.Pr (zN TH);obtain⟨SE,T4,GK,h⟩:=PE (h.m1);subst GK;refine qg H λUo H=>λ_ r=>Ob [(Cp x4,g6.toNat*1,[.slice SE (ag r2 g6.toNat).length T4]),(Zh,2,[vI (ag p1.Code g6.toNat).B]),(Cp SE,(ag p1.Code g6.toNat).B.toNat*1,[vI (ag (ag r2 g6.toNat) (ag p1.Code g6.toNat).B.toNat)])] [2,4,6] 10 h (λh=>⟨⟨(h.pick 1).P8 (by decide) (f:=0) rfl,CH⟩,⟨(h.pick 2).cell 2 rfl,CH⟩,⟨h.Ng rm (f:=0) (zN Uo) rfl,CH⟩,CH⟩) λw h hd =>qq r<|Oi hd 8 [(0,36,.slice x4 r2.length x5),(1,37,vI g6)]<|eo_ hd 7 2 rfl (pA (Cp x4) (g6.toNat*1)) (λw=>RA (k:=.i64) (E:=28) rfl (by kernel_rfl) (by kernel_rfl) (by kernel_rfl) (by kernel_rfl) (h.pick 1) TH)<|Oi hd 6 [(4,40,pA Zh 2)]<|kx hd 0 5 3 rfl rfl<|kx hd 1 4 5 rfl rfl<|eo_ hd 3 6 rfl (pA (Cp SE) ((ag p1.Code g6.toNat).B.toNat*1)) (λw=>ag0 3 rfl h Uo)<|kx hd 2 2 7 rfl rfl<|eo_ hd 1 8 rfl (vI (eK (ag (ag r2 g6.toNat) (ag p1.Code g6.toNat).B.toNat) (3:Int))) (λw=>rand rfl (by kernel_rfl) (by kernel_rfl))<|Oi hd 0 [(9,45,vB ((eK (ag (ag r2 g6.toNat) (ag p1.Code g6.toNat).B.toNat) (3:Int)) != 0))]<|λ_ r=>O4<|qq r<|tn<|Qf H (λRa H=>?_) λRa H=>?_
      ·refine wk<|bn<|tn<|?_;replace h:=OJ (x:=(ag r2 g6.toNat)) h;replace h:=(h.m1).OC;exact λ_ r=>⟨(),0,On H,r.fj (h.se 2 [0])⟩
      refine wl<|ko [U]<|kl<|bn<|tn<|?_;replace h:=OJ (x:=(ag r2 g6.toNat)) h;replace h:=(h.m1).OC;exact λ_ r=>⟨(),55,On H,r.fj (h.se 2 [0])⟩
     refine ks<|ko [vB ((ag p1.Code g6.toNat).aQ==9),vB ((ag p1.Code g6.toNat).aQ==9)]<|kn<|NN H (λRw H=>?_) λRw H=>?_
     ·refine ks<|qg H λUO H=>ko Zy<|kp (pA (Cp x4) (g6.toNat*1)) (V1 (k:=.i64) (E:=28) rfl (by kernel_rfl) (by kernel_rfl) (by kernel_rfl) (by kernel_rfl) (h.pick 1) UO)<|?_;obtain⟨ad6,h⟩:=h.m1.Pr (zN UO);obtain⟨VQ,VR,XU,h⟩:=PE (h.m1);subst XU;refine λ_ r=>ld (wn rfl) r (.slice VQ (ag r2 g6.toNat).length VR) ((h.pick 1).P8 (by decide) (f:=0) rfl)<|?_;refine ko [vI (((ag r2 g6.toNat).length:Nat):Int),U]<|kn<|wb<|λ_ r=>NB (β:=Nat) id (λm a w=>∃oL:Int,∃Dv:Int,(fU K r2 g6 m oL Dv)=some o14/\∃j,Gk 70 (lk [(0,vI p0),(4,.slice x4 r2.length x5),(5,vI g6),(7,vI oL),(13,.slice Nk p1.Code.length Np),(14,vI ((p1.Code.length:Nat):Int)),(15,vI g6),(51,.slice VQ (ag r2 g6.toNat).length VR),(52,vI (((ag r2 g6.toNat).length:Nat):Int)),(53,vI Dv)] j) a/\Fit z (cQ (Tt 28 1 O2 (.slice x4 r2.length x5) r2 g6.toNat [.slice VQ (ag r2 g6.toNat).length VR]::R8 VQ VR (ag r2 g6.toNat)::L)) w) K ⟨0,0,H,r.fj (h.se 3 [1,0])⟩<|?_;clear h r H;rintro k2 a w ⟨oL,Dv,H,j,r,h⟩;cases k2 with
      | zero=>exact absurd H (by simp[fU])
      | succ k2 =>
       rw[fU]at H;refine qq r<|ks<|ko [vB (decide (Dv<(((ag r2 g6.toNat).length:Nat):Int)))]<|kn<|wq<|NN H (λXB H=>?_) λXB H=>?_
       ·refine wk<|tn<|wq<|wb<|ks<|qg H λXC H=>ki (h.pick 1) XC<|λ_ r=>ld (wn rfl) r (vI (ag (ag r2 g6.toNat) Dv.toNat)) ((h.pick 1).Ng rm (f:=0) (zN XC) rfl)<|?_;refine ko [U]<|kn<|ks<|ko [U]<|kp (vI (eK (ag (ag r2 g6.toNat) Dv.toNat) (2:Int))) (rand rfl (by kernel_rfl) (by kernel_rfl))<|ko [vB ((eK (ag (ag r2 g6.toNat) Dv.toNat) (2:Int)) != 0)]<|kn<|Qf H (λSF H=>?_) λSF H=>?_
        ·refine wk<|bn<|tn<|wl<|ko [vI (wi (Dv+1)),vI (wi (Dv+1))]<|kn<|?_;exact λ_ r=>⟨_,⟨oL,(wi (Dv+1)),H,r.fj h⟩,afl _⟩
        refine wl<|ko [U]<|kl<|bn<|tn<|wl<|ko [vI (wi (Dv+1)),vI (wi (Dv+1))]<|kn<|?_;exact λ_ r=>⟨_,⟨56,(wi (Dv+1)),H,r.fj h⟩,afl _⟩
       refine wx<|te<|te<|bh<|bn<|tn<|qh h.m1 λh=>?_;replace h:=OJ (x:=(ag r2 g6.toNat)) h;replace h:=(h.m1).OC;exact λ_ r=>⟨(),oL,On H,r.fj h⟩
     refine wk<|bn<|tn<|?_;exact λ_ r=>⟨(),0,On H,r.fj (h.se 2 [1])⟩
    clear h r;rintro _ a w ⟨vk,rfl,j,r,h⟩;replace H:=Vy acy;refine qq r<|ks<|ko [U,vB (vk != 0)]<|kn<|Qf H (λSY H=>?_) λSY H=>?_
    ·refine wk<|bn<|tn<|?_;exact λ_ r=>⟨(),On H,r.fj h⟩
    refine wl<|ko u6_<|λ_ r=>Va (wn rfl) r rfl (T:=194) (u:=.agg #[vI vk,vI p0,vI g6]) (by kernel_rfl)<|QL<|PJ<|PJ<|QL<|TX r<|?_;replace H:=Q6 H YL;replace H:=ejR H;subst H;exact⟨rfl,h.se 1 []⟩
   clear h r;rintro _ a w ⟨rfl,j,r,h⟩;replace H:=U4 YL;refine qq r<|wl<|ko [vI (wi (g6+1)),vI (wi (g6+1))]<|kn<|?_;exact λ_ r=>⟨_,⟨(wi (g6+1)),H,r.fj h⟩,afl _⟩
  refine wx<|te<|te<|bh<|λ_ r=>ve rfl r<|?_;cases H
def iz(K:Nat)(p0:ay):Nat->Int->Option ((Unit)⊕(bG))
 | 0,_=>none
 | k1+1,g9=>(if g9<((p0.aB.length:Nat):Int)then if aZ g9 p0.aB.length then bH (lp (ag p0.aB g9.toNat)) (λsG=>(if sG=true then(iz K p0 k1 (wi (g9+1)))else some (.inr (⟨51,g9,0⟩:bG))))else none else some (.inl ()))
def iA(K:Nat)(p0:ay):Nat->Int->Option ((Unit)⊕(bG))
 | 0,_=>none
 | k2+1,uo=>(if uo<((p0.aB.length:Nat):Int)then if aZ uo p0.aB.length then bH (kz K uo (ag p0.aB uo.toNat) p0.aB) (λZq=>(match Zq with | .inl LS=>(iA K p0 k2 (wi (uo+1))) | .inr GZ=>some (.inr (⟨GZ.pT,GZ.oJ,GZ.rB⟩:bG))))else none else some (.inl ()))
def jB(K:Nat)(p0:ay):Nat->Int->Option (bG)
 | 0,_=>none
 | k3+1,yB=>(if yB<((p0.aB.length:Nat):Int)then if aZ yB p0.aB.length then bH (oM K yB (ag p0.aB yB.toNat)) (λsM=>(match sM with | .inl LU=>(jB K p0 k3 (wi (yB+1))) | .inr G0=>some (⟨G0.pT,G0.oJ,G0.rB⟩:bG)))else none else some (⟨0,0,0⟩:bG))
def mV(K:Nat)(p0:ay):Option (bG):=
 kQ ((if((p0.aB.length:Nat):Int)<1 then some (.inr (⟨50,0,0⟩:bG))else(if((p0.aB.length:Nat):Int)>32 then some (.inr (⟨50,0,0⟩:bG))else some (.inl ())))) (kQ ((iz K p0 K 0)) (kQ ((iA K p0 K 0)) ((jB K p0 K 0))))
theorem Xg{K:Nat}{p0:ay}{M2:Option Addr}{Na:Nat}{MV:Nat->Option Addr×Nat}{r0:bG}(H:mV K p0=some r0)(h:ft_ z (L) w)(MY:T3 L M2 MV p0.aB)(MP:jJ L 5 kJ (some ⟨1,0,none⟩) pF) :
 c0_ 74 #[.agg #[.slice M2 p0.aB.length Na]] w z (Ty r0) (L):=by
 unfold mV at H;refine acr Tryz.func74 rfl 62 rfl rfl [(0,.agg #[.slice M2 p0.aB.length Na])] ⟨rfl,CH⟩ λj _ r=>qq r<|ks<|kN h (#[.slice M2 p0.aB.length Na]) 24 λb1 w h=>kN h (#[vI 0,vI 0,vI 0]) 95 λb2 w h=>kn<|ks<|ko [U]<|λ_ r=>aaR (wn rfl) rfl r (q:={target:=.fn (.func 113) #[pA b2 0],args:=#[]}) (by kernel_rfl)<|?_;refine kn<|?_;obtain⟨o4,H,Zj⟩:=U3 H;refine λ_ r=>Nn (β:=Unit) (λ_ a w=>.inl ()=o4/\∃j,fy [Yz b2] 62 (lk [(1,pA b1 0),(2,pA b2 0)] j) a/\Fit z (cQ (pts b1 (.cells #[.slice M2 p0.aB.length Na] 24)::pts b2 (.cells #[vI 0,vI 0,vI 0] 95)::L)) w) ?_ ?_
 ·refine qq r<|ks<|ko [U]<|kL (h.pick 1) 0<|ko [vI ((p0.aB.length:Nat):Int),vB (decide (((p0.aB.length:Nat):Int)<1)),vB (decide (((p0.aB.length:Nat):Int)<1))]<|qI H (λc5 H=>?_) λc5 H=>?_
  ·refine Nh (dT c5) [15,16,17,18]<|PT (dT c5) (vB true)<|kn<|λ_ r=>Oh r (b:=true) rfl<|qq r<|ks<|ko [U]<|kA h (pts b2 (.cells #[vI 50,vI 0,vI 0] 95)) λw h=>kn<|wr<|tr<|λ_ r=>SU r rfl (by kernel_rfl) h<|?_;replace H:=Q6 H Zj;cases H;exact⟨rfl,h.se 2 []⟩
  refine Nl (dF c5) [15] [pA b1 0]<|Q7 (dF c5) (h.pick 1) 0<|Nl (dF c5) [17,18] [vI ((p0.aB.length:Nat):Int),vB (decide (((p0.aB.length:Nat):Int)>32))]<|PM (dF c5) (vB (decide (((p0.aB.length:Nat):Int)>32)))<|kn<|NN H (λc6 H=>?_) λc6 H=>?_
  ·refine ks<|ko [U]<|kA h (pts b2 (.cells #[vI 50,vI 0,vI 0] 95)) λw h=>kn<|wr<|tr<|λ_ r=>SU r rfl (by kernel_rfl) h<|?_;replace H:=Q6 H Zj;cases H;exact⟨rfl,h.se 2 []⟩
  refine wk<|tn<|?_;exact λ_ r=>⟨(),On H,r.fj (h.se 2 [1,0])⟩
 clear h r;rintro _ a w ⟨rfl,j,r,h⟩;replace H:=U4 Zj;obtain⟨o8,H,YN⟩:=U3 H;refine Nn (β:=Unit) (λ_ a w=>.inl ()=o8/\∃j,fy [Yz b2] 62 (lk [(1,pA b1 0),(2,pA b2 0)] j) a/\Fit z (cQ (pts b1 (.cells #[.slice M2 p0.aB.length Na] 24)::pts b2 (.cells #[vI 0,vI 0,vI 0] 95)::L)) w) ?_ ?_
 ·refine qq r<|ks<|ko [U]<|kL h 0<|ko [vI ((p0.aB.length:Nat):Int),U]<|kn<|wb<|λ_ r=>NB (β:=Nat) id (λm a w=>∃g9:Int,(iz K p0 m g9)=some o8/\∃j,fy [Yz b2] 62 (lk [(1,pA b1 0),(2,pA b2 0),(22,.slice M2 p0.aB.length Na),(23,vI ((p0.aB.length:Nat):Int)),(24,vI g9)] j) a/\Fit z (cQ (pts b1 (.cells #[.slice M2 p0.aB.length Na] 24)::pts b2 (.cells #[vI 0,vI 0,vI 0] 95)::L)) w) K ⟨0,H,r.fj h⟩<|?_;clear h r H;rintro k1 a w ⟨g9,H,j,r,h⟩;cases k1 with
  | zero=>exact absurd H (by simp[iz])
  | succ k1 =>
   rw[iz]at H;refine qq r<|ks<|ko [vB (decide (g9<((p0.aB.length:Nat):Int)))]<|kn<|wq<|NN H (λPX H=>?_) λPX H=>?_
   ·refine wk<|tn<|wq<|wb<|ks<|qg H λRg H=>ko [U]<|kp (pA (Cp M2) (sJ M2+g9.toNat*4)) (afq 99 Na rfl rfl MY Rg)<|λ_ r=>RI (wn rfl) r (.agg #[vI (ag p0.aB g9.toNat).MW,vI (ag p0.aB g9.toNat).dA,vI (ag p0.aB g9.toNat).cA,.slice ((MV g9.toNat).1) (ag p0.aB g9.toNat).Code.length ((MV g9.toNat).2)]) (cs:=[vI (ag p0.aB g9.toNat).MW,vI (ag p0.aB g9.toNat).dA,vI (ag p0.aB g9.toNat).cA,.slice ((MV g9.toNat).1) (ag p0.aB g9.toNat).Code.length ((MV g9.toNat).2)]) ⟨MY.cell Rg (h.dn 2) 0 rfl,MY.cell Rg (h.dn 2) 1 rfl,MY.cell Rg (h.dn 2) 2 rfl,MY.cell Rg (h.dn 2) 3 rfl,CH⟩<|?_;refine kN h (#[vI 0,vI 0,vI 0,.slice none 0 0]) 99 λQu w h=>ko [U]<|kA h (Qd Qu (ag p0.aB g9.toNat) ((MV g9.toNat).1) ((MV g9.toNat).2)) λw h=>kn<|ks<|kM h<|Oj H λsG Xh H=>N5 (VM (M1:=((MV g9.toNat).1)) (M8:=((MV g9.toNat).2)) (Ni:=(jJ.up 3 (MY.Rj Rg))) (H:=Xh) (h:=h) :) λw h=>ko [vB (!sG)]<|kn<|Vb H (λQb H=>?_) λQb H=>?_
    ·refine wk<|bn<|tn<|wl<|ko [vI (wi (g9+1)),vI (wi (g9+1))]<|kn<|?_;exact λ_ r=>⟨_,⟨(wi (g9+1)),H,r.fj (h.se 3 [1,2])⟩,afl _⟩
    refine ks<|ko Zy<|qh h.m2 λh=>kA h (pts b2 (.cells #[vI 51,vI g9,vI 0] 95)) λw h=>kn<|wr<|br<|tr<|tr<|br<|tr<|λ_ r=>SU r rfl (by kernel_rfl) h<|?_;replace H:=Q6 H YN;cases H;exact⟨rfl,h.se 3 []⟩
   refine wx<|te<|te<|bh<|tn<|?_;exact λ_ r=>⟨(),On H,r.fj h⟩
 clear h r;rintro _ a w ⟨rfl,j,r,h⟩;replace H:=U4 YN;obtain⟨o17,H,Xi⟩:=U3 H;refine Nn (β:=Unit) (λ_ a w=>.inl ()=o17/\∃j,fy [Yz b2] 62 (lk [(1,pA b1 0),(2,pA b2 0)] j) a/\Fit z (cQ (pts b1 (.cells #[.slice M2 p0.aB.length Na] 24)::pts b2 (.cells #[vI 0,vI 0,vI 0] 95)::L)) w) ?_ ?_
 ·refine qq r<|ks<|ko [U]<|kL h 0<|ko [vI ((p0.aB.length:Nat):Int),U]<|kn<|wb<|λ_ r=>NB (β:=Nat) id (λm a w=>∃uo:Int,(iA K p0 m uo)=some o17/\∃j,fy [Yz b2] 62 (lk [(1,pA b1 0),(2,pA b2 0),(36,.slice M2 p0.aB.length Na),(37,vI ((p0.aB.length:Nat):Int)),(38,vI uo)] j) a/\Fit z (cQ (pts b1 (.cells #[.slice M2 p0.aB.length Na] 24)::pts b2 (.cells #[vI 0,vI 0,vI 0] 95)::L)) w) K ⟨0,H,r.fj h⟩<|?_;clear h r H;rintro k2 a w ⟨uo,H,j,r,h⟩;cases k2 with
  | zero=>exact absurd H (by simp[iA])
  | succ k2 =>
   rw[iA]at H;refine qq r<|ks<|ko [vB (decide (uo<((p0.aB.length:Nat):Int)))]<|kn<|wq<|NN H (λQO H=>?_) λQO H=>?_
   ·refine wk<|tn<|wq<|wb<|ks<|qg H λPx H=>ko [U]<|kp (pA (Cp M2) (sJ M2+uo.toNat*4)) (afq 99 Na rfl rfl MY Px)<|λ_ r=>RI (wn rfl) r (.agg #[vI (ag p0.aB uo.toNat).MW,vI (ag p0.aB uo.toNat).dA,vI (ag p0.aB uo.toNat).cA,.slice ((MV uo.toNat).1) (ag p0.aB uo.toNat).Code.length ((MV uo.toNat).2)]) (cs:=[vI (ag p0.aB uo.toNat).MW,vI (ag p0.aB uo.toNat).dA,vI (ag p0.aB uo.toNat).cA,.slice ((MV uo.toNat).1) (ag p0.aB uo.toNat).Code.length ((MV uo.toNat).2)]) ⟨MY.cell Px (h.dn 2) 0 rfl,MY.cell Px (h.dn 2) 1 rfl,MY.cell Px (h.dn 2) 2 rfl,MY.cell Px (h.dn 2) 3 rfl,CH⟩<|?_;refine kN h (#[vI 0,vI 0,vI 0,.slice none 0 0]) 99 λb21 w h=>ko [U]<|kA h (Qd b21 (ag p0.aB uo.toNat) ((MV uo.toNat).1) ((MV uo.toNat).2)) λw h=>kn<|wl<|ko [U]<|kM h<|ko [U]<|kL (h.pick 1) 0<|Oj H λZq TI H=>?_;cases Zq with
    | inl LS =>
     refine N5 (Tg (R4:=M2) (Si:=Na) (VN:=(wC.up 3 MY)) (Nk:=((MV uo.toNat).1)) (Np:=((MV uo.toNat).2)) (NP:=(jJ.up 3 (MY.Rj Px))) (MP:=jJ.up 3 MP) (hs2:=MV) (H:=TI) (h:=h) :) λw h=>kl<|bn<|tn<|wl<|ko [vI (wi (uo+1)),vI (wi (uo+1))]<|kn<|?_;exact λ_ r=>⟨_,⟨(wi (uo+1)),H,r.fj (h.se 3 [1,2])⟩,afl _⟩
    | inr GZ =>
     have hc:=Ti (R4:=M2) (Si:=Na) (VN:=(wC.up 3 MY)) (Nk:=((MV uo.toNat).1)) (Np:=((MV uo.toNat).2)) (NP:=(jJ.up 3 (MY.Rj Px))) (MP:=jJ.up 3 MP) (hs2:=MV) (H:=TI) (h:=h);intro _ r;refine Yv (wn rfl) r (f:=115) (args:=#[vI uo,.agg #[vI (ag p0.aB uo.toNat).MW,vI (ag p0.aB uo.toNat).dA,vI (ag p0.aB uo.toNat).cA,.slice ((MV uo.toNat).1) (ag p0.aB uo.toNat).Code.length ((MV uo.toNat).2)],.slice M2 p0.aB.length Na]) (by kernel_rfl) hc ?_;clear hc h;rintro _ w ⟨rfl,h⟩;refine⟨_,rfl,?_⟩;refine QL<|PJ<|PJ<|QL<|PJ<|qh h.m2 λh=>Wh r rfl (by kernel_rfl) h λw h=>?_;replace H:=Q6 H Xi;cases H;exact⟨rfl,h.se 3 []⟩
   refine wx<|te<|te<|bh<|tn<|?_;exact λ_ r=>⟨(),On H,r.fj h⟩
 clear h r;rintro _ a w ⟨rfl,j,r,h⟩;replace H:=U4 Xi;refine qq r<|wq<|ks<|ko [U]<|kL h 0<|ko [vI ((p0.aB.length:Nat):Int),U]<|kn<|wb<|λ_ r=>NB (β:=Nat) id (λm a w=>∃yB:Int,(jB K p0 m yB)=some r0/\∃j,fy [Yz b2] 62 (lk [(2,pA b2 0),(50,.slice M2 p0.aB.length Na),(51,vI ((p0.aB.length:Nat):Int)),(52,vI yB)] j) a/\Fit z (cQ (pts b2 (.cells #[vI 0,vI 0,vI 0] 95)::L)) w) K ⟨0,H,r.fj (h.se 2 [1])⟩<|?_;clear h r H;rintro k3 a w ⟨yB,H,j,r,h⟩;cases k3 with
 | zero=>exact absurd H (by simp[jB])
 | succ k3 =>
  rw[jB]at H;refine qq r<|ks<|ko [vB (decide (yB<((p0.aB.length:Nat):Int)))]<|kn<|wq<|NN H (λQk H=>?_) λQk H=>?_
  ·refine wk<|tn<|wq<|wb<|ks<|qg H λT7 H=>ko [U]<|kp (pA (Cp M2) (sJ M2+yB.toNat*4)) (afq 99 Na rfl rfl MY T7)<|λ_ r=>RI (wn rfl) r (.agg #[vI (ag p0.aB yB.toNat).MW,vI (ag p0.aB yB.toNat).dA,vI (ag p0.aB yB.toNat).cA,.slice ((MV yB.toNat).1) (ag p0.aB yB.toNat).Code.length ((MV yB.toNat).2)]) (cs:=[vI (ag p0.aB yB.toNat).MW,vI (ag p0.aB yB.toNat).dA,vI (ag p0.aB yB.toNat).cA,.slice ((MV yB.toNat).1) (ag p0.aB yB.toNat).Code.length ((MV yB.toNat).2)]) ⟨MY.cell T7 (h.dn 1) 0 rfl,MY.cell T7 (h.dn 1) 1 rfl,MY.cell T7 (h.dn 1) 2 rfl,MY.cell T7 (h.dn 1) 3 rfl,CH⟩<|?_;refine kN h (#[vI 0,vI 0,vI 0,.slice none 0 0]) 99 λb29 w h=>ko [U]<|kA h (Qd b29 (ag p0.aB yB.toNat) ((MV yB.toNat).1) ((MV yB.toNat).2)) λw h=>kn<|wl<|ko [U]<|kM h<|Oj H λsM e31 H=>?_;cases sM with
   | inl LU =>
    refine N5 (Wr (Nk:=((MV yB.toNat).1)) (Np:=((MV yB.toNat).2)) (NP:=(jJ.up 2 (MY.Rj T7))) (MP:=jJ.up 2 MP) (H:=e31) (h:=h) :) λw h=>kl<|bn<|tn<|wl<|ko [vI (wi (yB+1)),vI (wi (yB+1))]<|kn<|?_;exact λ_ r=>⟨_,⟨(wi (yB+1)),H,r.fj (h.se 2 [1])⟩,afl _⟩
   | inr G0 =>
    have hc:=Ws (Nk:=((MV yB.toNat).1)) (Np:=((MV yB.toNat).2)) (NP:=(jJ.up 2 (MY.Rj T7))) (MP:=jJ.up 2 MP) (H:=e31) (h:=h);intro _ r;refine Yv (wn rfl) r (f:=116) (args:=#[vI yB,.agg #[vI (ag p0.aB yB.toNat).MW,vI (ag p0.aB yB.toNat).dA,vI (ag p0.aB yB.toNat).cA,.slice ((MV yB.toNat).1) (ag p0.aB yB.toNat).Code.length ((MV yB.toNat).2)]]) (by kernel_rfl) hc ?_;clear hc h;rintro _ w ⟨rfl,h⟩;refine⟨_,rfl,?_⟩;refine QL<|PJ<|PJ<|QL<|PJ<|qh h.m1 λh=>Wh r rfl (by kernel_rfl) h λw h=>?_;cases H;exact⟨rfl,h.se 2 []⟩
  refine wx<|te<|te<|bh<|tn<|ks<|ko [U]<|kA h (pts b2 (.cells #[vI 0,vI 0,vI 0] 95)) λw h=>kn<|wr<|λ_ r=>SU r rfl (by kernel_rfl) h<|?_;cases H;exact⟨rfl,h.se 1 []⟩
def iZ(p0:Int):Option (Bool):=
 (if p0>=1 then some (decide (p0<=64))else some false)
theorem Sb{p0:Int}{r0:Bool}(H:iZ p0=some r0)(h:ft_ z (L) w) :
 c0_ 75 #[vI p0] w z (vB r0) (L):=by
 unfold iZ at H;refine ke Tryz.func75 9 rfl λj=>ks<|ko [U]<|kn<|ks<|ko [U,vB (decide (p0>=1)),vB (decide (p0>=1))]<|qI H (λc1 H=>?_) λc1 H=>?_
 ·refine Nl (dT c1) [6,7] [vI p0,vB (decide (p0<=64))]<|PT (dT c1) (vB (decide (p0<=64)))<|ko [vB (decide (p0<=64))]<|kn<|wr<|?_;cases H;exact Ox h
 refine Nh (dF c1) [6,7]<|PM (dF c1) (vB false)<|ko [U]<|kn<|wr<|?_;cases H;exact Ox h
def ja(p0:bY):Option (Bool):=
 (if p0.cO>=1 then(if p0.cO<=4096 then(if(1:Int)<=p0.bD then(if p0.bD<=p0.gK then some (decide (p0.gK<=4096))else some false)else some false)else some false)else some false)
theorem Sc{p0:bY}{r0:Bool}(H:ja p0=some r0)(h:ft_ z (L) w) :
 c0_ 76 #[O7 p0] w z (vB r0) (L):=by
 unfold ja at H;refine ke Tryz.func76 28 rfl λj=>ks<|kN h (Pb p0) 27 λb1 w h=>ko [U]<|kn<|ks<|ko [U]<|kL h 0<|ko [vB (decide (p0.cO>=1)),vB (decide (p0.cO>=1))]<|qI H (λc2 H=>?_) λc2 H=>?_
 ·refine Nl (dT c2) [7] [pA b1 0]<|Q7 (dT c2) h 0<|Nl (dT c2) [9] [vB (decide (p0.cO<=4096))]<|PT (dT c2) (vB (decide (p0.cO<=4096)))<|ko [vB (decide (p0.cO<=4096))]<|qI H (λc3 H=>?_) λc3 H=>?_
  ·refine Nl (dT c3) [12] [pA b1 1]<|Q7 (dT c3) h 1<|Nl (dT c3) [14] [vB (decide ((1:Int)<=p0.bD))]<|PT (dT c3) (vB (decide ((1:Int)<=p0.bD)))<|ko [vB (decide ((1:Int)<=p0.bD))]<|qI H (λc4 H=>?_) λc4 H=>?_
   ·refine Nl (dT c4) [17] [pA b1 1]<|Q7 (dT c4) h 1<|Nl (dT c4) [19] [pA b1 2]<|Q7 (dT c4) h 2<|Nl (dT c4) [21] [vB (decide (p0.bD<=p0.gK))]<|PT (dT c4) (vB (decide (p0.bD<=p0.gK)))<|ko [vB (decide (p0.bD<=p0.gK))]<|qI H (λc5 H=>?_) λc5 H=>?_
    ·refine Nl (dT c5) [24] [pA b1 2]<|Q7 (dT c5) h 2<|Nl (dT c5) [26] [vB (decide (p0.gK<=4096))]<|PT (dT c5) (vB (decide (p0.gK<=4096)))<|ko [vB (decide (p0.gK<=4096))]<|kn<|wr<|?_;cases H;exact Ox (h.se 1 [])
    refine Nh (dF c5) [24,25,26]<|PM (dF c5) (vB false)<|ko [U]<|kn<|wr<|?_;cases H;exact Ox (h.se 1 [])
   refine Nh (dF c4) [17,18,19,20,21]<|PM (dF c4) (vB false)<|ko [U]<|Nh (rfl:false=false) [24,25,26]<|ko Zy<|kn<|wr<|?_;cases H;exact Ox (h.se 1 [])
  refine Nh (dF c3) [12,13,14]<|PM (dF c3) (vB false)<|ko [U]<|Nh (rfl:false=false) [17,18,19,20,21]<|ko Zy<|Nh (rfl:false=false) [24,25,26]<|ko Zy<|kn<|wr<|?_;cases H;exact Ox (h.se 1 [])
 refine Nh (dF c2) [7,8,9]<|PM (dF c2) (vB false)<|ko [U]<|Nh (rfl:false=false) [12,13,14]<|ko Zy<|Nh (rfl:false=false) [17,18,19,20,21]<|ko Zy<|Nh (rfl:false=false) [24,25,26]<|ko Zy<|kn<|wr<|?_;cases H;exact Ox (h.se 1 [])
def fV(K:Nat)(p0:ay)(p1:List Int)(p2:Int)(p3:bY):Option (Int):=
 bH (mV K p0) (λr3=>(if r3.AX=0 then if aZ (0:Int) p0.aB.length then(if((p1.length:Nat):Int)=(ag p0.aB 0).MW then bH (iZ p2) (λr8=>(if r8=true then bH (ja p3) (λpq=>(if pq=true then some 0 else some 111))else some 110))else some 61)else none else some 60))
theorem Rb{K:Nat}{p0:ay}{p1:List Int}{p2 r0:Int}{p3:bY}{M2 W1:Option Addr}{Na Xd:Nat}{MV:Nat->Option Addr×Nat}(H:fV K p0 p1 p2 p3=some r0)(h:ft_ z (L) w)(MY:T3 L M2 MV p0.aB)(Yj:jJ L 1 oE W1 p1)(MP:jJ L 5 kJ (some ⟨1,0,none⟩) pF) :
 c0_ 50 #[.agg #[.slice M2 p0.aB.length Na],.slice W1 p1.length Xd,vI p2,O7 p3] w z (vI r0) (L):=by
 unfold fV at H;refine ke Tryz.func50 31 rfl λj=>ks<|kN h (#[.slice M2 p0.aB.length Na]) 24 λb1 w h=>kN h (Pb p3) 27 λb2 w h=>ko [U]<|kn<|wq<|wb<|ks<|λ_ r=>RI (wn rfl) r (.agg #[.slice M2 p0.aB.length Na]) (cs:=[.slice M2 p0.aB.length Na]) ⟨(h.pick 1).cell 0 rfl,CH⟩<|?_;refine Oj H λr3 e4 H=>N5 (Xg (M2:=M2) (Na:=Na) (MY:=(wC.up 2 MY)) (MP:=jJ.up 2 MP) (MV:=MV) (H:=e4) (h:=h) :) λw h=>ko [U,vB (r3.AX != 0),vB (r3.AX != 0)]<|kn<|Qf H (λc5 H=>?_) λc5 H=>?_
 ·refine ks<|ko [U,vI ((p1.length:Nat):Int),U]<|kL (h.pick 1) 0<|qg H λc6 H=>kp (pA (Cp M2) (sJ M2+0*4)) (afq 99 Na rfl rfl MY c6)<|ko [U]<|λ_ r=>ld (wn rfl) r (vI (ag p0.aB 0).MW) (MY.cell c6 (h.dn 2) 0 rfl)<|?_;refine ko [vB (((p1.length:Nat):Int) != (ag p0.aB 0).MW),vB (((p1.length:Nat):Int) != (ag p0.aB 0).MW)]<|kn<|Qf H (λc7 H=>?_) λc7 H=>?_
  ·refine ks<|Oj H λr8 e9 H=>ko [U]<|N5 (Sb (H:=e9) (h:=h) :) λw h=>ko [vB (!r8),vB (!r8)]<|kn<|Vb H (λPX H=>?_) λPX H=>?_
   ·refine ks<|kM h<|Oj H λpq Vd H=>N5 (Sc (H:=Vd) (h:=h) :) λw h=>ko [vB (!pq),vB (!pq)]<|kn<|Vb H (λSC H=>?_) λSC H=>?_
    ·refine wk<|bn<|tn<|ks<|ko [U]<|kn<|wr<|?_;cases H;exact Ox (h.se 2 [])
    refine ks<|ko [U]<|kn<|wr<|br<|tr<|?_;cases H;exact Ox (h.se 2 [])
   refine ks<|ko [U]<|kn<|wr<|br<|tr<|?_;cases H;exact Ox (h.se 2 [])
  refine ks<|ko [U]<|kn<|wr<|br<|tr<|?_;cases H;exact Ox (h.se 2 [])
 refine ks<|ko [U]<|kn<|wr<|br<|tr<|?_;cases H;exact Ox (h.se 2 [])
def Ps(p0:ae)(p1:Int):Option (Int):=
 (if p1<1 then some 21 else(if p1>(wi (p0.n7-p0.dL))then some 22 else some 0))
theorem S1{p0:ae}{p1 r0:Int}{B0 NJ NO:Nat}{NK NG:Option Addr}(H:Ps p0 p1=some r0)(h:ft_ z (aa8 B0 p0 NK NJ NG NO L) w) :
 c0_ 261 #[pA B0 0,vI p1] w z (vI r0) (aa8 B0 p0 NK NJ NG NO L):=by
 unfold Ps at H;refine ke Tryz.func261 22 rfl λj=>ks<|ko [U]<|kn<|wq<|ks<|ko [U,vB (decide (p1<1))]<|kn<|NN H (λc5 H=>?_) λc5 H=>?_
 ·refine ks<|ko [U]<|kn<|wr<|tr<|?_;cases H;exact Ox h
 refine wk<|tn<|wq<|wq<|λ_ r=>Ob [(B0,0,[vI p0.n7]),(B0,1,[vI p0.dL])] [1,5,6,9,10] 15 h (λh=>⟨⟨h.cell 0 rfl,CH⟩,⟨h.cell 1 rfl,CH⟩,CH⟩) λw h hd =>qq r<|Oi hd 12 [(0,7,pA B0 0),(1,8,vB false),(2,9,vB false)]<|λ_ r=>Pj hd 11 3 rfl (PB r (c:=false) rfl) r (vI p1)<|?_;refine λ_ r=>Pj hd 10 4 rfl (PB r (c:=false) rfl) r (pA B0 0)<|?_;refine λ_ r=>Pj hd 9 5 rfl (PB r (c:=false) rfl) r (pA B0 0)<|?_;refine λ_ r=>Pj hd 8 6 rfl (PB r (c:=false) rfl) r (pA B0 0)<|?_;refine λ_ r=>Pj hd 7 8 rfl (PB r (c:=false) rfl) r (pA B0 0)<|?_;refine λ_ r=>Pj hd 6 9 rfl (PB r (c:=false) rfl) r (pA B0 0)<|?_;refine λ_ r=>Pj hd 5 10 rfl (PB r (c:=false) rfl) r (pA B0 1)<|?_;refine λ_ r=>elx hd 0 4 7 r (PB r (c:=false) rfl) rfl rfl<|?_;refine λ_ r=>elx hd 1 3 11 r (PB r (c:=false) rfl) rfl rfl<|?_;refine λ_ r=>Pj hd 2 12 rfl (PB r (c:=false) rfl) r (vI (wi (p0.n7-p0.dL)))<|?_;refine λ_ r=>Pj hd 1 13 rfl (PB r (c:=false) rfl) r (vB (decide (p1>(wi (p0.n7-p0.dL)))))<|?_;refine Oi hd 0 [(14,21,vB (decide (p1>(wi (p0.n7-p0.dL)))))]<|λ_ r=>O4<|qq r<|tn<|NN H (λc6 H=>?_) λc6 H=>?_
 ·refine ks<|ko [U]<|kn<|wr<|tr<|?_;cases H;exact Ox h
 refine wk<|tn<|ks<|ko [U]<|kn<|wr<|?_;cases H;exact Ox h
def jb(p0:ae)(p1:Int):Option (Int×ae):=
 some (p0.dL,{p0 with dL:=wi (p0.dL+p1)})
theorem TJ{p0 q0:ae}{p1 r0:Int}{B0 NJ NO:Nat}{NK NG:Option Addr}(H:jb p0 p1=some (r0,q0))(h:ft_ z (aa8 B0 p0 NK NJ NG NO L) w) :
 c4_ 262 #[pA B0 0,vI p1] w z (vI r0) λx1 x2 x3 x4=>aa8 B0 q0 x1 x2 x3 x4 L:=by
 unfold jb at H;refine ke Tryz.func262 19 rfl λj=>ks<|ko [U]<|kn<|ks<|ko mT<|kL h 1<|ko [U]<|kn<|ks<|ko mT<|kL h 1<|ko [U,vI (wi (p0.dL+p1)),U,U]<|kS h 1 (pts B0 (.cells #[vI p0.n7,vI (wi (p0.dL+p1)),.slice NK p0.cell.length NJ,.slice NG p0.log.length NO,vI p0.lK,vB p0.watched] 92)) λw h=>kn<|ks<|ko Zy<|kn<|wr<|?_;cases H;exact W0 NK NJ NG NO h
def cy(p0:ae)(p1:Int)(p2:Int)(p3:Int)(p4:Int)(p5:Bool):Option (ae):=
 (if p0.watched=true then if(p0.log.length+1)*48<=140737488355328 then some ({p0 with log:=p0.log++[(⟨p0.lK,p1,p2,p3,p4,p5⟩:az)]})else none else some p0)
abbrev agR (B:Nat) (S:ae) (a2:Option Addr) (c2:Nat) (a3:Option Addr) (c3:Nat) (q:Nat):M5:=pts B (.cells #[vI S.n7,vI S.dL,.slice a2 S.cell.length c2,.slice a3 q c3,vI S.lK,vB S.watched] 92)
theorem Pu{p0 q0:ae}{p1 p2 p3 p4:Int}{p5:Bool}{B0 NJ NO:Nat}{NK NG:Option Addr}(H:cy p0 p1 p2 p3 p4 p5=some q0)(h:ft_ z (aa8 B0 p0 NK NJ NG NO L) w) :
 c4_ 260 #[pA B0 0,vI p1,vI p2,vI p3,vI p4,vB p5] w z (.tuple #[]) λx1 x2 x3 x4=>aa8 B0 q0 x1 x2 x3 x4 L:=by
 unfold cy at H;refine ke Tryz.func260 35 rfl λj=>ks<|ko mT<|kL h 5<|kn<|V4 H (λc5 H=>?_) λc5 H=>?_
 ·refine qg H λc9 H=>λ_ r=>Ob [(B0,3,[.slice NG p0.log.length NO]),(B0,4,[vI p0.lK])] [2,3,6,7,14] 20 h (λh=>⟨⟨h.cell 3 rfl,CH⟩,⟨h.cell 4 rfl,CH⟩,CH⟩) λw h hd =>qq r<|Oi hd 8 [(0,16,pA B0 0),(1,17,pA B0 0),(2,18,pA B0 0),(3,19,pA B0 3),(5,21,pA B0 0),(6,22,pA B0 0),(7,23,pA B0 4),(9,25,vI p1),(10,26,vI p2),(11,27,vI p3),(12,28,vI p4),(13,29,vB p5)]<|kx hd 0 7 4 rfl rfl<|kx hd 1 6 8 rfl rfl<|Oi hd 5 [(14,30,.agg #[vI p0.lK,vI p1,vI p2,vI p3,vI p4,vB p5])]<|λ_ r=>N3 15 rfl<|qq r<|kV h (#[vI p0.lK,vI p1,vI p2,vI p3,vI p4,vB p5]) 159 λb6 w h=>kn<|λ_ r=>xE<|N3 16 rfl<|qh h.m3 λh=>O9 (n0:=p0.log.length) (c:=1) (bytes:=48) (wn rfl) rfl rfl r rfl (by kernel_rfl) (by kernel_rfl) Qy (E:=159) (xs:=p0.log) (by kernel_rfl) (by kernel_rfl) h (news:=[(⟨p0.lK,p1,p2,p3,p4,p5⟩:az)]) (m:=1) rfl ((h.pick 1).news rfl) c9 rfl λNR NU w _ h r=>qq r<|kn<|λ_ r=>xE<|qq r<|ev_ 2 17 rfl (pA B0 0)<|ev_ 1 18 rfl (pA B0 3)<|λ_ r=>N3 19 rfl<|qh h.m2 λh=>qq r<|kS h 3 (agR B0 p0 NK NJ NR NU ((p0.log++[(⟨p0.lK,p1,p2,p3,p4,p5⟩:az)]).length)) λw h=>kn<|λ_ r=>xE<|O4<|qq r<|?_;cases H;exact xv4 NK NJ NR NU (h.se 4 [0,3,1])
 refine wk<|?_;cases H;exact xv4 NK NJ NG NO h
def N9(p0:ae)(p1:Int):Option (Int×Int×ae):=
 wo (some ()) (bH (Ps p0 p1) (λr7=>(if r7=0 then iQ (jb p0 p1) (λsN pz=>if 0<=p1/\(pz.cell.length+p1.toNat)*8<=140737488355328 then bH (cy ({pz with cell:=pz.cell++List.replicate p1.toNat (0:Int)}) 4 sN p1 0 true) (λiu=>some (sN,0,iu))else none)else some (0,r7,p0))))
abbrev agp (B:Nat) (S:ae) (a2:Option Addr) (c2:Nat) (a3:Option Addr) (c3:Nat) (q:Nat):M5:=pts B (.cells #[vI S.n7,vI S.dL,.slice a2 q c2,.slice a3 S.log.length c3,vI S.lK,vB S.watched] 92)
theorem Po{p0 q0:ae}{p1 r0 r1:Int}{B0 NJ NO:Nat}{NK NG:Option Addr}(H:N9 p0 p1=some (r0,r1,q0))(h:ft_ z (aa8 B0 p0 NK NJ NG NO L) w) :
 c4_ 257 #[pA B0 0,vI p1] w z (.tuple #[vI r0,vI r1]) λx1 x2 x3 x4=>aa8 B0 q0 x1 x2 x3 x4 L:=by
 unfold N9 at H;refine ke Tryz.func257 37 rfl λj=>ks<|ko Zy<|kn<|ks<|ko [U]<|kn<|qd0 H λo6 H hK5=>λ_ r=>Nn (β:=Unit) (λ_ a w=>()=o6/\∃j,Gk 37 (lk [(0,pA B0 0),(1,vI p1),(6,pA B0 0)] j) a/\Fit z (cQ (aa8 B0 p0 NK NJ NG NO L)) w) ?_ ?_
 ·refine qq r<|ks<|ko Zy<|kn<|λ_ r=>Oh r (b:=true) rfl<|qq r<|wl<|ko ue<|kn<|?_;exact λ_ r=>⟨(),On H,r.fj h⟩
 clear h r;rintro _ a w ⟨rfl,j,r,h⟩;replace H:=kk0 hK5;refine qq r<|wq<|ks<|Oj H λr7 e8 H=>ko Zy<|N5 (S1 (H:=e8) (h:=h) :) λw h=>ko [U]<|kn<|ks<|ko [U,vB (r7 != 0)]<|kn<|Qf H (λc9 H=>?_) λc9 H=>?_
 ·refine wk<|tn<|ks<|RD H λsN pz Vd H=>ko Zy<|GR (TJ (H:=Vd) (h:=h) :) λRm Sj UT T8 w h=>ko [U]<|kn<|ks<|ko ue<|kL h 2<|ko [U]<|qh h.m1 λh=>qg H λQO H=>λ_ r=>Z9 (kx:=.i64) (n0:=pz.cell.length) (i:=p1) (m:=p1.toNat) (bytes:=8) (zc:=#[vI 0]) (0:Int) (wn rfl) rfl rfl r rfl (by kernel_rfl) (by kernel_rfl) (Int.toNat_of_nonneg QO.1).symm rm (E:=2) (xs:=pz.cell) (by kernel_rfl) (by kernel_rfl) (by kernel_rfl) rfl h QO.2 rfl λVh Zp w _ h r=>qq r<|ko Zy<|qh h.m1 λh=>kS h 2 (agp B0 pz Vh Zp UT T8 ((pz.cell++List.replicate p1.toNat (0:Int)).length)) λw h=>kn<|ks<|Oj H λiu YO H=>ko mT<|GR (Pu (H:=YO) (h:=h) :) λPy QX TZ U8 w h=>kn<|ks<|ko mT<|kn<|wr<|?_;cases H;exact Tq Py QX TZ U8 h
 refine ks<|ko mT<|kn<|wr<|tr<|?_;cases H;exact Tq NK NJ NG NO h
def jc(p0:Int):Option (Int):=
 (if p0<1 then some 0 else(if p0>4096 then some 0 else some (wi ((1:Int)+(wi (p0*10))))))
theorem Ru{p0 r0:Int}(H:jc p0=some r0)(h:ft_ z (L) w) :
 c0_ 107 #[vI p0] w z (vI r0) (L):=by
 unfold jc at H;refine ke Tryz.func107 12 rfl λj=>ks<|ko [U]<|kn<|wq<|ks<|ko [U,vB (decide (p0<1)),vB (decide (p0<1))]<|qI H (λc1 H=>?_) λc1 H=>?_
 ·refine Nh (dT c1) [6,7]<|PT (dT c1) (vB true)<|kn<|λ_ r=>Oh r (b:=true) rfl<|qq r<|ks<|ko [U]<|kn<|wr<|tr<|?_;cases H;exact Ox h
 refine Nl (dF c1) [6,7] [vI p0,vB (decide (p0>4096))]<|PM (dF c1) (vB (decide (p0>4096)))<|kn<|NN H (λc2 H=>?_) λc2 H=>?_
 ·refine ks<|ko [U]<|kn<|wr<|tr<|?_;cases H;exact Ox h
 refine wk<|tn<|ks<|ko [U,vI (wi (p0*10)),vI (wi ((1:Int)+(wi (p0*10)))),vI (wi ((1:Int)+(wi (p0*10))))]<|kn<|wr<|?_;cases H;exact Ox h
def cJ(p0:aF)(p1:Int):Option (Int):=
 some (wi ((wi (p0.j1+1))+(wi (p1*10))))
theorem Pa{p0:aF}{p1 r0:Int}(H:cJ p0 p1=some r0)(h:ft_ z (L) w) :
 c0_ 117 #[N7 p0,vI p1] w z (vI r0) (L):=by
 unfold cJ at H;refine ke Tryz.func117 11 rfl λj=>ks<|kN h (Ov p0) 104 λb1 w h=>ko [U]<|kn<|ks<|ko [U]<|kL h 0<|ko [vI (wi (p0.j1+1)),U,vI (wi (p1*10)),vI (wi ((wi (p0.j1+1))+(wi (p1*10)))),vI (wi ((wi (p0.j1+1))+(wi (p1*10))))]<|kn<|wr<|?_;cases H;exact Ox (h.se 1 [])
def jz(p0:ae)(p1:Int):Option (Bool):=
 (if p1>=0 then some (decide (p1<p0.dL))else some false)
theorem T9{p0:ae}{p1:Int}{B0 NJ NO:Nat}{NK NG:Option Addr}{r0:Bool}(H:jz p0 p1=some r0)(h:ft_ z (aa8 B0 p0 NK NJ NG NO L) w) :
 c0_ 263 #[pA B0 0,vI p1] w z (vB r0) (aa8 B0 p0 NK NJ NG NO L):=by
 unfold jz at H;refine ke Tryz.func263 15 rfl λj=>ks<|ko [U]<|kn<|ks<|ko [U,vB (decide (p1>=0)),vB (decide (p1>=0))]<|qI H (λc5 H=>?_) λc5 H=>?_
 ·refine Nl (dT c5) [8,9,10,11] [vI p1,pA B0 0,pA B0 0,pA B0 1]<|Q7 (dT c5) h 1<|Nl (dT c5) [13] [vB (decide (p1<p0.dL))]<|PT (dT c5) (vB (decide (p1<p0.dL)))<|ko [vB (decide (p1<p0.dL))]<|kn<|wr<|?_;cases H;exact Ox h
 refine Nh (dF c5) [8,9,10,11,12,13]<|PM (dF c5) (vB false)<|ko [U]<|kn<|wr<|?_;cases H;exact Ox h
def cZ(p0:ae)(p1:Int):Option (Bool):=
 bH (jz p0 p1) (λr5=>some (!r5))
theorem PO{p0:ae}{p1:Int}{B0 NJ NO:Nat}{NK NG:Option Addr}{r0:Bool}(H:cZ p0 p1=some r0)(h:ft_ z (aa8 B0 p0 NK NJ NG NO L) w) :
 c0_ 259 #[pA B0 0,vI p1] w z (vB r0) (aa8 B0 p0 NK NJ NG NO L):=by
 unfold cZ at H;refine ke Tryz.func259 15 rfl λj=>ks<|ko [U]<|kn<|ks<|Oj H λr5 e6 H=>ko mT<|Nl (rfl:false=false) [8,9,10,11] [pA B0 0,pA B0 0,pA B0 0,vI p1]<|xg0 (rfl:false=false) (T9 (H:=e6) (h:=h) :) λw h=>Nl (rfl:false=false) [13] [vB (!r5)]<|ko [vB (!r5),vB (!r5)]<|kn<|wr<|?_;cases H;exact Ox h
def bt(p0:ae)(p1:Int)(p2:Int):Option (Int×ae):=
 bH (cZ p0 p1) (λr5=>(if r5=true then some (20,p0)else if aZ p1 p0.cell.length then bH (cy ({p0 with cell:=p0.cell.set p1.toNat p2}) 1 p1 p2 0 true) (λY3=>some (0,Y3))else none))
theorem NZ{p0 q0:ae}{p1 p2 r0:Int}{B0 NJ NO:Nat}{NK NG:Option Addr}(H:bt p0 p1 p2=some (r0,q0))(h:ft_ z (aa8 B0 p0 NK NJ NG NO L) w) :
 c4_ 258 #[pA B0 0,vI p1,vI p2] w z (vI r0) λx1 x2 x3 x4=>aa8 B0 q0 x1 x2 x3 x4 L:=by
 unfold bt at H;refine ke Tryz.func258 21 rfl λj=>ks<|ko [U]<|kn<|wq<|ks<|Oj H λr5 e6 H=>ko Zy<|N5 (PO (H:=e6) (h:=h) :) λw h=>kn<|V4 H (λc7 H=>?_) λc7 H=>?_
 ·refine ks<|ko [U]<|kn<|wr<|tr<|?_;cases H;exact W0 NK NJ NG NO h
 refine wk<|tn<|ks<|ko mT<|kL h 2<|qg H λc8 H=>ko Zy<|ki (h.pick 1) c8<|qh h.m1 λh=>λ_ r=>VD (wn rfl) r rm h p1.toNat 0 (vI p2) (ag p0.cell p1.toNat) p2 (zN c8) λw h=>qq r<|kn<|ks<|ko mT<|?_;replace h:=h.oH (λq_=>agp B0 p0 NK NJ NG NO q_);refine Oj H λY3 e11 H=>qh h.m2.m1.m2 λh=>GR (Pu (H:=e11) (h:=h) :) λSP Rm Sj UT w h=>kn<|ks<|ko [U]<|kn<|wr<|?_;cases H;exact W0 SP Rm Sj UT h
def eR(K:Nat)(p1:Int)(pq:Int):Nat->ae->Int->Option (aF×Int×ae)
 | 0,_,_=>none
 | k1+1,pV,yB=>(if yB<p1 then bH (cJ (⟨pq,p1⟩:aF) yB) (λqU=>iQ (bt pV qU 1) (λsM zV=>(if sM=0 then(eR K p1 pq k1 zV (wi (yB+1)))else some ((⟨0,0⟩:aF),sM,zV))))else some ((⟨pq,p1⟩:aF),0,pV))
def ia(K:Nat)(p0:ae)(p1:Int):Option (aF×Int×ae):=
 bH (jc p1) (λr6=>(if r6=0 then some ((⟨0,0⟩:aF),3,p0)else bH (jc p1) (λr9=>gh (N9 p0 r9) (λpq RY sP=>(if RY=0 then(eR K p1 pq K sP 0)else some ((⟨0,0⟩:aF),RY,sP))))))
theorem Ua{K:Nat}{p0 q0:ae}{p1 r1:Int}{B0 NJ NO:Nat}{NK NG:Option Addr}{r0:aF}(H:ia K p0 p1=some (r0,r1,q0))(h:ft_ z (aa8 B0 p0 NK NJ NG NO L) w) :
 c4_ 77 #[.iface 33 (pA B0 0),vI p1] w z (.tuple #[N7 r0,vI r1]) λx1 x2 x3 x4=>aa8 B0 q0 x1 x2 x3 x4 L:=by
 unfold ia at H;refine ke Tryz.func77 53 rfl λj=>ks<|kN h (#[vI 0,vI 0]) 104 λb5 w h=>ko [U]<|kn<|wq<|ks<|ko Zy<|kn<|λ_ r=>O3 r (b:=false) rfl<|qq r<|wk<|tn<|wq<|ks<|Oj H λr6 e7 H=>ko [U]<|N5 (Ru (H:=e7) (h:=h) :) λw h=>ko [vB (r6==0)]<|kn<|NN H (λc8 H=>?_) λc8 H=>?_
 ·refine ks<|ko [U]<|kA h (pts b5 (.cells #[vI 0,vI 0] 104)) λw h=>ko [U]<|kn<|wr<|tr<|λ_ r=>agZ [vI 0,vI 0] (vI 3) rfl r (h.held 0 rfl)<|?_;cases H;exact⟨NK,NJ,NG,NO,rfl,h.se 4 [1,2,3]⟩
 refine wk<|tn<|wq<|Oj H λr9 Xj H=>QW H λpq RY sP Xh H=>λ_ r=>Ob [] [] 12 h (λ_=>trivial) λw h hd =>qq r<|Oi hd 7 [(0,19,.iface 33 (pA B0 0)),(1,20,vI p1),(3,22,.func (.method "Reserve") #[.iface 33 (pA B0 0)] #[]),(4,23,.func (.method "Reserve") #[.iface 33 (pA B0 0)] #[]),(5,24,.iface 33 (pA B0 0))]<|λ_ r=>N3 2 rfl<|qq r<|N5 (Ru (H:=Xj) (h:=h) :) λw h=>kn<|λ_ r=>xE<|N3 6 rfl<|qh h.m3.m3.m3 λh=>qq r<|GR (Po (H:=Xh) (h:=h) :) λUT T8 X0 Wt w h=>kn<|λ_ r=>xE<|qq r<|ev_ 4 7 rfl (.tuple #[vI pq,vI RY])<|ev_ 3 8 rfl (vI pq)<|ev_ 2 9 rfl (vI RY)<|ev_ 1 10 rfl (vI pq)<|ev_ 0 11 rfl (vI RY)<|λ_ r=>O4<|qq r<|tn<|wq<|ks<|ko [U,vB (RY != 0)]<|kn<|Qf H (λQO H=>?_) λQO H=>?_
 ·refine wk<|tn<|ks<|ko mT<|kN h (#[vI 0,vI 0]) 104 λZr w h=>kA h (pts Zr (.cells #[vI pq,vI p1] 104)) λw h=>kn<|wq<|ks<|ko Zy<|kn<|wb<|λ_ r=>NB (β:=Nat) id (λm a w=>∃XS:Option Addr,∃XT:Nat,∃abR:Option Addr,∃abS:Nat,∃pV:ae,∃yB:Int,(eR K p1 pq m pV yB)=some (r0,r1,q0)/\∃j,Gk 53 (lk [(0,.iface 33 (pA B0 0)),(4,pA b5 0),(8,pA Zr 0),(35,vI p1),(36,vI yB)] j) a/\Fit z (cQ (aa8 B0 pV XS XT abR abS (pts b5 (.cells #[vI 0,vI 0] 104)::pts Zr (.cells #[vI pq,vI p1] 104)::L))) w) K ⟨UT,T8,X0,Wt,sP,0,H,r.fj (h.se 5 [1,2,3,4,0])⟩<|?_;clear h r H;rintro k1 a w ⟨XS,XT,abR,abS,pV,yB,H,j,r,h⟩;cases k1 with
  | zero=>exact absurd H (by simp[eR])
  | succ k1 =>
   rw[eR]at H;refine qq r<|ks<|ko [vB (decide (yB<p1))]<|kn<|wq<|NN H (λQk H=>?_) λQk H=>?_
   ·refine wk<|tn<|wq<|wb<|ks<|ko Zy<|kn<|wq<|Oj H λqU e29 H=>RD H λsM zV Zl H=>λ_ r=>Ob [(Zr,0,[vI pq,vI p1])] [3,4,5] 9 h (λh=>⟨((h.pick 4).held 0 rfl),CH⟩) λw h hd =>qq r<|Oi hd 4 [(0,39,.iface 33 (pA B0 0)),(2,41,vI yB),(4,43,.func (.method "Store") #[.iface 33 (pA B0 0)] #[]),(5,44,.func (.method "Store") #[.iface 33 (pA B0 0)] #[]),(6,45,.iface 33 (pA B0 0))]<|RJ hd 0 3 1 rfl rfl<|λ_ r=>N3 3 rfl<|qq r<|N5 (Pa (H:=e29) (h:=h) :) λw h=>kn<|λ_ r=>eE ⟨((h.pick 4).held 0 rfl),CH⟩ λhd =>qq r<|λ_ r=>N3 7 rfl<|qq r<|GR (NZ (H:=Zl) (h:=h) :) λx33 x34 x35 VS w h=>kn<|λ_ r=>xE<|qq r<|ev_ 0 8 rfl (vI sM)<|λ_ r=>O4<|qq r<|tn<|ks<|ko [U,vB (sM != 0)]<|kn<|Qf H (λXD H=>?_) λXD H=>?_
    ·refine wk<|bn<|tn<|wl<|ko [vI (wi (yB+1)),vI (wi (yB+1))]<|kn<|?_;exact λ_ r=>⟨_,⟨x33,x34,x35,VS,zV,(wi (yB+1)),H,r.fj h⟩,afl _⟩
    refine ks<|ko Zy<|qh h.m3 λh=>kA h (pts b5 (.cells #[vI 0,vI 0] 104)) λw h=>ko [U]<|kn<|wr<|br<|tr<|tr<|br<|tr<|λ_ r=>agZ [vI 0,vI 0] (vI sM) rfl r (h.held 0 rfl)<|?_;cases H;exact⟨x33,x34,x35,VS,rfl,h.se 5 [1,2,3]⟩
   refine wx<|te<|te<|bh<|tn<|ks<|kM (h.pick 4)<|qh h.m3 λh=>kA h (pts b5 (.cells #[vI pq,vI p1] 104)) λw h=>ko [U]<|kn<|wr<|λ_ r=>agZ [vI pq,vI p1] (vI 0) rfl r (h.held 0 rfl)<|?_;cases H;exact⟨XS,XT,abR,abS,rfl,h.se 5 [1,2,3]⟩
 refine ks<|ko Zy<|qh h.m3 λh=>kA h (pts b5 (.cells #[vI 0,vI 0] 104)) λw h=>ko [U]<|kn<|wr<|tr<|λ_ r=>agZ [vI 0,vI 0] (vI RY) rfl r (h.held 0 rfl)<|?_;cases H;exact⟨UT,T8,X0,Wt,rfl,h.se 4 [1,2,3]⟩
def fc(p0:Int):Option (Int):=
 (if p0<1 then some 0 else(if p0>64 then some 0 else some (wi ((2:Int)+p0))))
theorem QF{p0 r0:Int}(H:fc p0=some r0)(h:ft_ z (L) w) :
 c0_ 108 #[vI p0] w z (vI r0) (L):=by
 unfold fc at H;refine ke Tryz.func108 11 rfl λj=>ks<|ko [U]<|kn<|wq<|ks<|ko [U,vB (decide (p0<1)),vB (decide (p0<1))]<|qI H (λc1 H=>?_) λc1 H=>?_
 ·refine Nh (dT c1) [6,7]<|PT (dT c1) (vB true)<|kn<|λ_ r=>Oh r (b:=true) rfl<|qq r<|ks<|ko [U]<|kn<|wr<|tr<|?_;cases H;exact Ox h
 refine Nl (dF c1) [6,7] [vI p0,vB (decide (p0>64))]<|PM (dF c1) (vB (decide (p0>64)))<|kn<|NN H (λc2 H=>?_) λc2 H=>?_
 ·refine ks<|ko [U]<|kn<|wr<|tr<|?_;cases H;exact Ox h
 refine wk<|tn<|ks<|ko [U,vI (wi ((2:Int)+p0)),vI (wi ((2:Int)+p0))]<|kn<|wr<|?_;cases H;exact Ox h
def jd(p0:ae)(p1:Int):Option (bU×Int×ae):=
 bH (fc p1) (λr6=>(if r6=0 then some ((⟨0,0⟩:bU),3,p0)else bH (fc p1) (λr9=>gh (N9 p0 r9) (λpq RY sP=>(if RY=0 then some ((⟨pq,p1⟩:bU),0,sP)else some ((⟨0,0⟩:bU),RY,sP))))))
theorem UU{p0 q0:ae}{p1 r1:Int}{B0 NJ NO:Nat}{NK NG:Option Addr}{r0:bU}(H:jd p0 p1=some (r0,r1,q0))(h:ft_ z (aa8 B0 p0 NK NJ NG NO L) w) :
 c4_ 78 #[.iface 33 (pA B0 0),vI p1] w z (.tuple #[Qa r0,vI r1]) λx1 x2 x3 x4=>aa8 B0 q0 x1 x2 x3 x4 L:=by
 unfold jd at H;refine ke Tryz.func78 32 rfl λj=>ks<|kN h (#[vI 0,vI 0]) 106 λb5 w h=>ko [U]<|kn<|wq<|ks<|ko Zy<|kn<|λ_ r=>O3 r (b:=false) rfl<|qq r<|wk<|tn<|wq<|ks<|Oj H λr6 e7 H=>ko [U]<|N5 (QF (H:=e7) (h:=h) :) λw h=>ko [vB (r6==0)]<|kn<|NN H (λc8 H=>?_) λc8 H=>?_
 ·refine ks<|ko [U]<|kA h (pts b5 (.cells #[vI 0,vI 0] 106)) λw h=>ko [U]<|kn<|wr<|tr<|λ_ r=>agZ [vI 0,vI 0] (vI 3) rfl r (h.held 0 rfl)<|?_;cases H;exact⟨NK,NJ,NG,NO,rfl,h.se 4 [1,2,3]⟩
 refine wk<|tn<|wq<|Oj H λr9 Xj H=>QW H λpq RY sP Xh H=>λ_ r=>Ob [] [] 12 h (λ_=>trivial) λw h hd =>qq r<|Oi hd 7 [(0,16,.iface 33 (pA B0 0)),(1,17,vI p1),(3,19,.func (.method "Reserve") #[.iface 33 (pA B0 0)] #[]),(4,20,.func (.method "Reserve") #[.iface 33 (pA B0 0)] #[]),(5,21,.iface 33 (pA B0 0))]<|λ_ r=>N3 2 rfl<|qq r<|N5 (QF (H:=Xj) (h:=h) :) λw h=>kn<|λ_ r=>xE<|N3 6 rfl<|qh h.m3.m3.m3 λh=>qq r<|GR (Po (H:=Xh) (h:=h) :) λUT T8 X0 Wt w h=>kn<|λ_ r=>xE<|qq r<|ev_ 4 7 rfl (.tuple #[vI pq,vI RY])<|ev_ 3 8 rfl (vI pq)<|ev_ 2 9 rfl (vI RY)<|ev_ 1 10 rfl (vI pq)<|ev_ 0 11 rfl (vI RY)<|λ_ r=>O4<|qq r<|tn<|wq<|ks<|ko [U,vB (RY != 0)]<|kn<|Qf H (λQO H=>?_) λQO H=>?_
 ·refine wk<|tn<|ks<|ko mT<|qh h.m3 λh=>kA h (pts b5 (.cells #[vI pq,vI p1] 106)) λw h=>ko [U]<|kn<|wr<|λ_ r=>agZ [vI pq,vI p1] (vI 0) rfl r (h.held 0 rfl)<|?_;cases H;exact⟨UT,T8,X0,Wt,rfl,h.se 4 [1,2,3]⟩
 refine ks<|ko Zy<|qh h.m3 λh=>kA h (pts b5 (.cells #[vI 0,vI 0] 106)) λw h=>ko [U]<|kn<|wr<|tr<|λ_ r=>agZ [vI 0,vI 0] (vI RY) rfl r (h.held 0 rfl)<|?_;cases H;exact⟨UT,T8,X0,Wt,rfl,h.se 4 [1,2,3]⟩
def j2(p0:Int)(p1:Int):Option (Bool):=
 (if(1:Int)<=p0 then(if p0<=p1 then some (decide (p1<=4096))else some false)else some false)
theorem Tc{p0 p1:Int}{r0:Bool}(H:j2 p0 p1=some r0)(h:ft_ z (L) w) :
 c0_ 118 #[vI p0,vI p1] w z (vB r0) (L):=by
 unfold j2 at H;refine ke Tryz.func118 16 rfl λj=>ks<|ko [U]<|kn<|ks<|ko [U,vB (decide ((1:Int)<=p0)),vB (decide ((1:Int)<=p0))]<|qI H (λc1 H=>?_) λc1 H=>?_
 ·refine Nl (dT c1) [8,9,10] [vI p0,vI p1,vB (decide (p0<=p1))]<|PT (dT c1) (vB (decide (p0<=p1)))<|ko [vB (decide (p0<=p1))]<|qI H (λc2 H=>?_) λc2 H=>?_
  ·refine Nl (dT c2) [13,14] [vI p1,vB (decide (p1<=4096))]<|PT (dT c2) (vB (decide (p1<=4096)))<|ko [vB (decide (p1<=4096))]<|kn<|wr<|?_;cases H;exact Ox h
  refine Nh (dF c2) [13,14]<|PM (dF c2) (vB false)<|ko [U]<|kn<|wr<|?_;cases H;exact Ox h
 refine Nh (dF c1) [8,9,10]<|PM (dF c1) (vB false)<|ko [U]<|Nh (rfl:false=false) [13,14]<|ko Zy<|kn<|wr<|?_;cases H;exact Ox h
def iC(p0:ae)(p1:Int)(p2:Int):Option (aT×Int×ae):=
 bH (j2 p1 p2) (λr6=>(if r6=true then gh (N9 p0 (wi ((4:Int)+p1))) (λr9 sN pz=>(if sN=0 then iQ (bt pz (wi (r9+2)) (wi (r9+3))) (λlM mR=>(if lM=0 then iQ (bt mR (wi (r9+3)) p1) (λuj yC=>(if uj=0 then some ((⟨r9,p2⟩:aT),0,yC)else some ((⟨0,0⟩:aT),uj,yC)))else some ((⟨0,0⟩:aT),lM,mR)))else some ((⟨0,0⟩:aT),sN,pz)))else some ((⟨0,0⟩:aT),30,p0)))
end
open Go SL GX
section
variable {K:Nat}
theorem mm{i:Nat}(h:i<4611686018427387904):wi ((i:Int)+1)=((i+1:Nat):Int):=by rw[bz (by omega)];omega
theorem Sd{α:Type}[Inhabited α]{n i:Nat}{x:α}(h:i<n):ag (List.replicate n x) i=x:=by
 unfold ag;rw[List.getD_eq_getElem?_getD,List.getElem?_replicate,au h];rfl
theorem je{α:Type}[Inhabited α]{l:List α}{i:Nat}(h:i<l.length):ag l i∈l:=by
 unfold ag;rw[List.getD_eq_getElem?_getD,List.getElem?_eq_getElem h];exact List.getElem_mem h
theorem qf{α β:Type}[Inhabited α][Inhabited β](f:α->β){l:List α}{i:Nat}(h:i<l.length):ag (l.map f) i=f (ag l i):=by
 unfold ag;rw[List.getD_eq_getElem?_getD,List.getD_eq_getElem?_getD,List.getElem?_map,List.getElem?_eq_getElem h];rfl
abbrev Pt:=Int×Int
def nx(f:ax)(a:Int):List Int:=
 if (ag f.Code a.toNat).aQ=3 then [(ag f.Code a.toNat).A]else if(ag f.Code a.toNat).aQ=9 then []else if(ag f.Code a.toNat).aQ=4 then [a+1,(ag f.Code a.toNat).B]else [a+1]
def vl(f:ax)(sl a st:Int):Int:=
 if (ag f.Code a.toNat).aQ=5/\(ag f.Code a.toNat).A=sl then 2 else if(ag f.Code a.toNat).aQ=6/\st=2 then 4 else st
def nw(V:List Pt)(s:Int):List Int->List Pt
 | []=>[]
 | n::ns=>if(n,s)∈V then nw V s ns else(n,s)::nw (V++[(n,s)]) s ns
def uq(f:ax)(sl:Int):Nat->List Pt->Nat->List Pt
 | 0,V,_=>V
 | d+1,V,k=>if k<V.length then uq f sl d (V++nw V (vl f sl (ag V k).1 (ag V k).2) (nx f (ag V k).1)) (k+1)else V
structure sQ(f:ax):Prop where
 lo:1<=f.Code.length
 hi:f.Code.length<=512
 nx:∀a:Int,0<=a->a<f.Code.length->∀n∈nx f a,0<=n/\n<f.Code.length
 kind:∀a:Int,0<=a->a<f.Code.length->0<=(ag f.Code a.toNat).aQ/\(ag f.Code a.toNat).aQ<10
def vm(s:Int):Prop:=s=1∨s=2∨s=4
structure rF(f:ax)(V:List Pt):Prop where
 yh:∀x∈V,0<=x.1/\x.1<f.Code.length/\vm x.2
 nd:V.Nodup
theorem oN:∀(n:Nat) (l:List Nat),l.Nodup->(∀x∈l,x<n)->l.length<=n
 | 0,l,_,h=>by cases l with | nil=>simp | cons a l=>exact absurd (h a (by simp)) (by omega)
 | n+1,l,hd,h=>by
  by_cases e:n∈l
  ·have:=oN n (l.erase n) (hd.erase n) (λx hx=>by
    have h1:=h x (List.mem_of_mem_erase hx)
    have:x≠n:=λe=>by subst e;exact(List.Nodup.not_mem_erase hd) hx
    omega)
   rw[List.length_erase_of_mem e]at this;omega
  ·have:=oN n l hd (λx hx=>by
    have h1:=h x hx
    have:x≠n:=λe'=>by subst e';exact e hx
    omega)
   omega
def cd(x:Pt):Nat:=x.1.toNat*3+(if x.2=1 then 0 else if x.2=2 then 1 else 2)
theorem rF.len{f:ax}{V:List Pt}(h:rF f V):V.length<=3*f.Code.length:=by
 have:=oN (3*f.Code.length) (V.map cd) (by
  refine List.pairwise_map.2 (h.nd.imp_of_mem λ{x y} hx hy hxy e=>hxy ?_)
  obtain⟨a1,a2,a3⟩:=h.yh x hx
  obtain⟨b1,b2,b3⟩:=h.yh y hy
  obtain⟨x1,x2⟩:=x
  obtain⟨y1,y2⟩:=y
  unfold cd at e
  simp only at *
  rcases a3 with rfl | rfl | rfl<;>rcases b3 with rfl | rfl | rfl<;>simp at e<;>first | omega | (obtain rfl:x1=y1:=(by omega));rfl) (λn hn=>by
  obtain⟨x,hx,rfl⟩:=List.mem_map.1 hn
  obtain⟨a1,a2,a3⟩:=h.yh x hx
  unfold cd
  rcases a3 with h | h | h<;>simp only[h]<;>simp<;>omega)
 simpa using this
theorem X1{f:ax}{s:Int}(hs:vm s):∀(ns:List Int) (V:List Pt),rF f V->(∀n∈ns,0<=n/\n<f.Code.length)->rF f (V++nw V s ns)/\∀n∈ns,(n,s)∈V++nw V s ns
 | [],V,h,_=>by simp[nw];exact h
 | n::ns,V,h,hn=>by
  unfold nw
  split
  ·rename_i e
   obtain⟨a,b⟩:=X1 hs ns V h (λm hm=>hn m (ad7 _ hm))
   refine⟨a,λm hm => ?_⟩
   rcases List.mem_cons.1 hm with rfl | hm
   ·exact List.mem_append_left _ e
   ·exact b m hm
  ·rename_i e
   have h':rF f (V++[(n,s)]):=⟨λx hx=>by
    rcases List.mem_append.1 hx with hx | hx
    ·exact h.yh x hx
    ·rw[List.mem_singleton.1 hx];exact⟨(hn n (by simp)).1,(hn n (by simp)).2,hs⟩,List.nodup_append.2 ⟨h.nd,by simp,λx hx y hy e'=>by rw[List.mem_singleton.1 hy]at e';subst e';exact e hx⟩⟩
   obtain⟨a,b⟩:=X1 hs ns (V++[(n,s)]) h' (λm hm=>hn m (ad7 _ hm))
   rw[aeA,afD]at a b
   refine⟨a,λm hm => ?_⟩
   rcases List.mem_cons.1 hm with rfl | hm
   ·simp
   ·exact b m hm
def mW(f:ax)(sl:Int)(V:List Pt)(k:Nat):Prop:=∀j,j<k->j<V.length->∀n∈nx f (ag V j).1,(n,vl f sl (ag V j).1 (ag V j).2)∈V
theorem Ba{f:ax}{sl a s:Int}(h:vm s):vm (vl f sl a s):=by
 unfold vl;split
 ·exact .inr (.inl rfl)
 ·split
  ·exact .inr (.inr rfl)
  ·exact h
theorem nO{f:ax}(hf:sQ f){sl:Int}{V:List Pt}{k:Nat}(h:rF f V)(hk:k<V.length)(hc:mW f sl V k) :
 rF f (V++nw V (vl f sl (ag V k).1 (ag V k).2) (nx f (ag V k).1))/\mW f sl (V++nw V (vl f sl (ag V k).1 (ag V k).2) (nx f (ag V k).1)) (k+1):=by
 obtain⟨a1,a2,a3⟩:=h.yh _ (je hk)
 obtain⟨a,b⟩:=X1 (Ba (f:=f) (sl:=sl) (a:=(ag V k).1) a3) (nx f (ag V k).1) V h (hf.nx _ a1 a2)
 refine⟨a,λj hj hl n hn => ?_⟩
 have Je:j<V.length:=by omega
 rw[gU Je]at hn⊢
 by_cases e:j=k
 ·subst e;exact b n hn
 ·exact List.mem_append_left _ (hc j (by omega) Je n hn)
theorem wN{f:ax}(hf:sQ f){sl:Int}:∀(d k:Nat) (V:List Pt),k+d=3*f.Code.length->rF f V->mW f sl V k->k<=V.length->
 rF f (uq f sl d V k)/\mW f sl (uq f sl d V k) (uq f sl d V k).length/\(∀x∈V,x∈uq f sl d V k)
 | 0,k,V,hd,h,hc,hk=>by
  unfold uq
  have:=h.len
  obtain rfl:k=V.length:=by omega
  exact⟨h,hc,λ_ h=>h⟩
 | d+1,k,V,hd,h,hc,hk=>by
  unfold uq
  split
  ·rename_i e
   obtain⟨a,b⟩:=nO hf h e hc
   obtain⟨r1,r2,r3⟩:=wN hf d (k+1) _ (by omega) a b (by rw[ad9];omega)
   exact⟨r1,r2,λx hx=>r3 x (List.mem_append_left _ hx)⟩
  ·rename_i e
   obtain rfl:k=V.length:=by omega
   exact⟨h,hc,λ_ h=>h⟩
def wt(V:List Pt)(a:Int):Int:=(if(a,1)∈V then 1 else 0)+(if(a,2)∈V then 2 else 0)+(if(a,4)∈V then 4 else 0)
structure zW(f:ax)(V:List Pt)(met:List Int):Prop where
 len:met.length=f.Code.length
 val:∀a,a<f.Code.length->ag met a=wt V a
theorem Dw:∀(a b c:Bool) (s:Int),vm s->((eK ((if a then 1 else 0)+(if b then 2 else 0)+(if c then 4 else 0)) s=0)↔(s=1/\a=false)∨(s=2/\b=false)∨(s=4/\c=false)):=by
 intro a b c s hs
 rcases hs with rfl | rfl | rfl<;>cases a<;>cases b<;>cases c<;>decide
theorem ow{V:List Pt}{a s:Int}(hs:vm s):eK (wt V a) s=0↔(a,s)∉V:=by
 have:=Dw (decide ((a,1)∈V)) (decide ((a,2)∈V)) (decide ((a,4)∈V)) s hs
 simp only[af7,decide_eq_false_iff_not]at this
 unfold wt;rw[this]
 rcases hs with rfl | rfl | rfl<;>simp
theorem Bb{V:List Pt}{a:Int}:0<=wt V a/\wt V a<=7:=by
 unfold wt;split<;>split<;>split<;>omega
theorem Bc{V:List Pt}{n s:Int}(hs:vm s)(hn:(n,s)∉V)(a:Int):wt (V++[(n,s)]) a=if a=n then wt V a+s else wt V a:=by
 unfold wt
 by_cases e:a=n
 ·subst e;rw[au rfl]
  rcases hs with rfl | rfl | rfl<;>simp[hn]<;>omega
 ·rw[aj e];simp[e]
theorem zW.add{f:ax}{V:List Pt}{met:List Int}{n s:Int}(h:zW f V met)(hs:vm s)(hn:(n,s)∉V)(h0:0<=n)(h1:n<f.Code.length) :
 zW f (V++[(n,s)]) (met.set n.toNat (wi (ag met n.toNat+s))):=by
 refine⟨by rw[acG];exact h.len,λa ha => ?_⟩
 rw[Bc hs hn]
 by_cases e:n.toNat=a
 ·subst e
  rw[iN (by rw[h.len];omega),iQ_,h.val _ ha]
  have:=Bb (V:=V) (a:=((n.toNat:Nat):Int))
  rw[bz];rcases hs with rfl | rfl | rfl<;>omega
 ·rw[Sw e,iO_,h.val a ha]
theorem sR{f:ax}{s:Int}(hs:vm s){ns:List Int}(vg:∀n∈ns,0<=n/\n<f.Code.length)(hlen:f.Code.length<=512)(Dx:ns.length<=2):∀(d k i:Nat) (V:List Pt) (met:List Int),i+d=ns.length->d<k->rF f V->zW f V met->
 ∃met',dy K s ns k met (V.map (·.1)) (V.map (·.2)) (i:Int)=some (met',(V++nw V s (ns.drop i)).map (·.1),(V++nw V s (ns.drop i)).map (·.2))/\zW f (V++nw V s (ns.drop i)) met'
 | d,k,i,V,met,hd,hk,hV,hm=>by
  obtain⟨k,rfl⟩ :∃m,k=m+1:=⟨k-1,by omega⟩
  rw[dy]
  have hL:=hV.len
  by_cases hi:i<ns.length
  ·obtain⟨d,rfl⟩ :∃m,d=m+1:=⟨d-1,by omega⟩
   have G1:ns.drop i=ag ns i::ns.drop (i+1):=by
    rw[aeg hi];unfold ag;rw[List.getD_eq_getElem?_getD,List.getElem?_eq_getElem hi];rfl
   obtain⟨n0,n1⟩:=vg _ (je hi)
   rw[iQ_,au ⟨by omega,by omega⟩,Zi,au ⟨n0,by rw[hm.len];exact n1⟩,hm.val _ (by omega),show(((ag ns i).toNat:Nat):Int)=ag ns i by omega,mm (by omega),G1]
   rw[nw]
   by_cases e:(ag ns i,s)∈V
   ·rw[aj (λh=>(ow hs).1 h e),au e]
    exact sR hs vg hlen Dx d k (i+1) V met (by omega) (by omega) hV hm
   ·rw[au ((ow hs).2 e),aj e,au (by rw[aga];omega),au (by rw[aga];omega)]
    have G2:rF f (V++[(ag ns i,s)]):=⟨λx hx=>by
     rcases List.mem_append.1 hx with hx | hx
     ·exact hV.yh x hx
     ·rw[List.mem_singleton.1 hx];exact⟨n0,n1,hs⟩,List.nodup_append.2 ⟨hV.nd,by simp,λx hx y hy e'=>by rw[List.mem_singleton.1 hy]at e';subst e';exact e hx⟩⟩
    have hm':=hm.add hs e n0 n1
    rw[hm.val _ (by omega),show(((ag ns i).toNat:Nat):Int)=ag ns i by omega]at hm'
    obtain⟨met',r1,r2⟩:=sR hs vg hlen Dx d k (i+1) _ _ (by omega) (by omega) G2 hm'
    refine⟨met',?_,?_⟩
    ·rw[ags,ags,aeA,afD]at r1
     exact r1
    ·rw[aeA,afD]at r2;exact r2
  ·rw[iO_,afR (by omega)]
   simp only[nw,af0]
   exact⟨met,rfl,hm⟩
theorem rG{f:ax}{sl a s:Int}:iU (ag f.Code a.toNat) sl s=some (vl f sl a s)/\mg (ag f.Code a.toNat) sl s=some (vl f sl a s):=by
 unfold iU mg vl
 by_cases h1:(ag f.Code a.toNat).aQ=5
 ·by_cases h2:(ag f.Code a.toNat).A=sl
  ·simp[h1,h2]
  ·simp[h1,h2]
 ·by_cases h2:(ag f.Code a.toNat).aQ=6
  ·by_cases h3:s=2<;>simp[h1,h2,h3]
  ·simp[h1,h2]
theorem wO{f:ax}(hlen:f.Code.length<=512){a:Int}(h0:0<=a)(h1:a<f.Code.length):iV f a=some (nx f a):=by
 unfold iV nx
 rw[au ⟨h0,h1⟩,bz (x:=a+1) (by omega)]
 split
 ·rfl
 ·split
  ·rfl
  ·split<;>rfl
theorem X2{f:ax}{a:Int}:(nx f a).length<=2:=by
 unfold nx
 split
 ·simp
 split
 ·simp
 split<;>simp
theorem wP{f:ax}(hf:sQ f){sl:Int}(hK:3000<K):∀(d j k:Nat) (V:List Pt) (met:List Int),j+d=3*f.Code.length->d<k->j<=V.length->rF f V->mW f sl V j->zW f V met->
 ∃met',dX K f sl k met (V.map (·.1)) (V.map (·.2)) (j:Int)=some met'/\zW f (uq f sl d V j) met'
 | d,j,k,V,met,hd,hk,hj,hV,hc,hm=>by
  obtain⟨k,rfl⟩ :∃m,k=m+1:=⟨k-1,by omega⟩
  rw[dX]
  have hL:=hV.len
  have X3:=hf.hi
  by_cases hi:j<V.length
  ·obtain⟨d,rfl⟩ :∃m,d=m+1:=⟨d-1,by omega⟩
   obtain⟨a1,a2,a3⟩:=hV.yh _ (je hi)
   rw[au (by rw[aga];omega),au ⟨by omega,by rw[aga];omega⟩,Zi,qf _ hi,qf _ hi,au ⟨a1,a2⟩,au ⟨by omega,by rw[aga];omega⟩,rG.1,ai,wO X3 a1 a2,ai,mm (by omega)]
   obtain⟨met',r1,r2⟩:=sR (K:=K) (f:=f) (s:=vl f sl (ag V j).1 (ag V j).2) (Ba a3) (ns:=nx f (ag V j).1) (hf.nx _ a1 a2) X3 X2 (nx f (ag V j).1).length K 0 V met (by omega) (by have:=X2 (f:=f) (a:=(ag V j).1);omega) hV hm
   rw[agQ]at r1;rw[r1,bf,uq,au hi]
   obtain⟨b1,b2⟩:=nO hf hV hi hc
   exact wP hf hK d (j+1) k _ _ (by omega) (by omega) (by rw[ad9];omega) b1 b2 r2
  ·rw[aj (by rw[aga];omega)]
   refine⟨met,rfl,?_⟩
   cases d with
   | zero=>exact hm
   | succ d=>rw[uq,aj hi];exact hm
def reach(f:ax)(sl:Int):List Pt:=uq f sl (3*f.Code.length) [(0,1)] 0
theorem Bd{f:ax}(hf:sQ f):rF f [(0,1)]:=⟨λx hx=>by rw[List.mem_singleton.1 hx];exact⟨by decide,by have:=hf.lo;omega,.inl rfl⟩,by simp⟩
theorem wQ{f:ax}(hf:sQ f)(sl:Int):rF f (reach f sl)/\mW f sl (reach f sl) (reach f sl).length/\(0,1)∈reach f sl:=by
 obtain⟨a,b,c⟩:=wN hf (sl:=sl) (3*f.Code.length) 0 [(0,1)] (by omega) (Bd hf) (λj hj=>by omega) (by simp)
 exact⟨a,b,c _ (by simp)⟩
theorem sS{f:ax}(hf:sQ f)(sl:Int)(hK:3000<K) :∃met,gC K f sl=some met/\zW f (reach f sl) met:=by
 unfold gC
 have h1:=hf.lo
 have h2:=hf.hi
 rw[au ⟨by omega,by omega⟩,au ⟨by decide,by rw[aeb];omega⟩]
 exact wP hf hK (3*f.Code.length) 0 K [(0,1)] _ (by omega) (by omega) (by simp) (Bd hf) (λj hj=>by omega) ⟨by simp,λa ha=>by
  by_cases e:a=0
  ·subst e;rw[iN (by simpa using ha)];simp[wt]
  ·rw[Sw (by omega),Sd ha];unfold wt;rw[aj (by simp;omega),aj (by simp),aj (by simp)];rfl⟩
end
section
variable {K:Nat}
abbrev pt(x:Pt):aM:=⟨x.1,x.2⟩
theorem Be{x y:Pt}(h:pt x=pt y):x=y:=by
 obtain⟨a,b⟩:=x;obtain⟨c,d⟩:=y
 simp only[pt,aM.mk.injEq]at h
 rw[h.1,h.2]
theorem rH{β:Type}:∀(l:List (aM×β)) (k:aM),(pE l k).isSome=true↔k∈l.map (·.1)
 | [],k=>by simp[pE]
 | (a,b)::l,k=>by
  unfold pE
  by_cases e:k=a
  ·simp[e]
  ·rw[aj e,rH l k];simp[e]
theorem mem_keys{V:List Pt}{m:List (aM×aM)}(h:m.map (·.1)=V.map pt)(x:Pt):(pE m (pt x)).isSome=true↔x∈V:=by
 rw[rH,h,List.mem_map]
 exact⟨λ⟨y,hy,e⟩=>Be e▸ hy,λhx=>⟨x,hx,rfl⟩⟩
theorem X4{f:ax}{s:Int}(hs:vm s){ns:List Int}(l8:List aM)(vg:∀n∈ns,0<=n/\n<f.Code.length)(hlen:f.Code.length<=512)(Dx:ns.length<=2):∀(d k i:Nat) (V:List Pt) (m:List (aM×aM)) (W:List aM),i+d=ns.length->d<k->rF f V->m.map (·.1)=V.map pt->W.length<=V.length->
 ∃m',eP K l8 s ns k m W (i:Int)=some (m',W++(nw V s (ns.drop i)).map pt)/\m'.map (·.1)=(V++nw V s (ns.drop i)).map pt
 | d,k,i,V,m,W,hd,hk,hV,hm,hW=>by
  obtain⟨k,rfl⟩ :∃m,k=m+1:=⟨k-1,by omega⟩
  rw[eP]
  have hL:=hV.len
  by_cases hi:i<ns.length
  ·obtain⟨d,rfl⟩ :∃m,d=m+1:=⟨d-1,by omega⟩
   have G1:ns.drop i=ag ns i::ns.drop (i+1):=by
    rw[aeg hi];unfold ag;rw[List.getD_eq_getElem?_getD,List.getElem?_eq_getElem hi];rfl
   obtain⟨n0,n1⟩:=vg _ (je hi)
   rw[iQ_,au ⟨by omega,by omega⟩,Zi,mm (by omega),G1,nw]
   by_cases e:(ag ns i,s)∈V
   ·rw[au ((mem_keys hm (ag ns i,s)).2 e),au e]
    exact X4 hs l8 vg hlen Dx d k (i+1) V m W (by omega) (by omega) hV hm hW
   ·have e0:¬(pE m (⟨ag ns i,s⟩:aM)).isSome=true:=λh=>e ((mem_keys hm (ag ns i,s)).1 h)
    have e1:pE m (⟨ag ns i,s⟩:aM)=none:=by
     cases h:pE m (⟨ag ns i,s⟩:aM)with
     | none=>rfl
     | some x=>rw[h]at e0;exact absurd rfl e0
    rw[aj e0,aj e,au e1,iQ_]
    have G2:rF f (V++[(ag ns i,s)]):=⟨λx hx=>by
     rcases List.mem_append.1 hx with hx | hx
     ·exact hV.yh x hx
     ·rw[List.mem_singleton.1 hx];exact⟨n0,n1,hs⟩,List.nodup_append.2 ⟨hV.nd,by simp,λx hx y hy e'=>by rw[List.mem_singleton.1 hy]at e';subst e';exact e hx⟩⟩
    obtain⟨m',r1,r2⟩:=X4 hs l8 vg hlen Dx d k (i+1) (V++[(ag ns i,s)]) (m++[((⟨ag ns i,s⟩:aM),ag l8 0)]) (W++[(⟨ag ns i,s⟩:aM)]) (by omega) (by omega) G2 (by rw[ags,ags,hm];rfl) (by simp;omega)
    refine⟨m',?_,?_⟩
    ·rw[aeA,afD]at r1;exact r1
    ·rw[aeA,afD]at r2;exact r2
  ·rw[iO_,afR (by omega)]
   simp only[nw,af0,af5]
   exact⟨m,rfl,hm⟩
theorem G3{k:Int}(h0:0<=k)(h1:k<10):(ag pF k.toNat).next = !(decide (k=3)||decide (k=9)):=by
 rcases(by omega:k=0∨k=1∨k=2∨k=3∨k=4∨k=5∨k=6∨k=7∨k=8∨k=9)with rfl | rfl | rfl | rfl | rfl | rfl | rfl | rfl | rfl | rfl<;>rfl
theorem vn{f:ax}(hf:sQ f){a:Int}(h0:0<=a)(h1:a<f.Code.length):mh f a=some (nx f a):=by
 have X3:=hf.hi
 obtain⟨k0,k1⟩:=hf.kind a h0 h1
 have hn:=hf.nx a h0 h1
 unfold mh
 rw[au ⟨h0,h1⟩,au ⟨k0,by exact k1⟩,G3 k0 k1,bz (x:=a+1) (by omega)]
 unfold nx at hn⊢
 by_cases e3:(ag f.Code a.toNat).aQ=3
 ·simp[e3]
 ·by_cases e9:(ag f.Code a.toNat).aQ=9
  ·simp[e9]
  ·by_cases e4:(ag f.Code a.toNat).aQ=4
   ·have:a+1<f.Code.length:=by rw[aj e3,aj e9,au e4]at hn;exact(hn (a+1) (by simp)).2
    simp[e4,this]
   ·have:a+1<f.Code.length:=by rw[aj e3,aj e9,aj e4]at hn;exact(hn (a+1) (by simp)).2
    simp[e3,e4,e9,this]
theorem ur{f:ax}(hf:sQ f){sl:Int}(hK:3000<K):∀(d j k:Nat) (V:List Pt) (m:List (aM×aM)),j+d=3*f.Code.length->d<k->j<=V.length->rF f V->mW f sl V j->m.map (·.1)=V.map pt->
 ∃m',gb K f sl k m ((V.drop j).map pt)=some m'/\m'.map (·.1)=(uq f sl d V j).map pt
 | d,j,k,V,m,hd,hk,hj,hV,hc,hm=>by
  obtain⟨k,rfl⟩ :∃m,k=m+1:=⟨k-1,by omega⟩
  rw[gb]
  have hL:=hV.len
  have X3:=hf.hi
  by_cases hi:j<V.length
  ·obtain⟨d,rfl⟩ :∃m,d=m+1:=⟨d-1,by omega⟩
   obtain⟨a1,a2,a3⟩:=hV.yh _ (je hi)
   have hl:((V.drop j).map pt).length=V.length-j:=by simp
   have h0:ag ((V.drop j).map pt) 0=pt (ag V j):=by
    rw[qf _ (by simp;omega)];congr 1;unfold ag;simp[List.getD_eq_getElem?_getD]
   have h1:((V.drop j).map pt).drop 1=(V.drop (j+1)).map pt:=by rw[<-List.map_drop,List.drop_drop]
   rw[au (by rw[hl];omega),au ⟨by decide,by rw[hl];omega⟩,au ⟨by decide,by rw[hl];omega⟩,au (by rw[hl];omega),h0,h1,mQ,ai,aj (by decide),au ⟨a1,a2⟩,rG.2,ai,vn hf a1 a2,ai]
   obtain⟨m',r1,r2⟩:=X4 (K:=K) (f:=f) (s:=vl f sl (ag V j).1 (ag V j).2) (Ba a3) (ns:=nx f (ag V j).1) ((V.drop j).map pt) (hf.nx _ a1 a2) X3 X2 (nx f (ag V j).1).length K 0 V m ((V.drop (j+1)).map pt) (by omega) (by have:=X2 (f:=f) (a:=(ag V j).1);omega) hV hm (by simp)
   rw[agQ]at r1
   rw[r1,bJ,uq,au hi,afM]
   rw[afM]at r2
   obtain⟨b1,b2⟩:=nO hf hV hi hc
   rw[show(V.drop (j+1)).map pt++(nw V (vl f sl (ag V j).1 (ag V j).2) (nx f (ag V j).1)).map pt=((V++nw V (vl f sl (ag V j).1 (ag V j).2) (nx f (ag V j).1)).drop (j+1)).map pt by rw[agy (by omega),ags]]
   exact ur hf hK d (j+1) k _ m' (by omega) (by omega) (by rw[ad9];omega) b1 b2 r2
  ·have:(V.drop j).map pt=[]:=by rw[afR (by omega)];rfl
   rw[this,aj (by simp)]
   refine⟨m,rfl,?_⟩
   cases d with
   | zero=>exact hm
   | succ d=>rw[uq,aj hi];exact hm
theorem yD{f:ax}(hf:sQ f)(sl:Int)(hK:3000<K) :∃m,jy K f sl=some m/\m.map (·.1)=(reach f sl).map pt:=by
 unfold jy
 have h2:=hf.hi
 exact ur hf hK (3*f.Code.length) 0 K [(0,1)] _ (by omega) (by omega) (by simp) (Bd hf) (λj hj=>by omega) rfl
structure uu(f:ax)(R:List (List Int))(n:Nat):Prop where
 len:R.length=f.Code.length
 wid:∀a,a<f.Code.length->(ag R a).length=f.cA.toNat
 val:∀a,a<f.Code.length->∀c,c<n->c<f.cA.toNat->ag (ag R a) c=wt (reach f c) a
 zero:∀a,a<f.Code.length->∀c,n<=c->c<f.cA.toNat->ag (ag R a) c=0
theorem wR{f:ax}{R Q:List (List Int)}{n:Nat}(h:uu f R n)(k:uu f Q n):R=Q:=by
 have ext:∀{α:Type} [Inhabited α] (x y:List α),x.length=y.length->(∀i,i<x.length->ag x i=ag y i)->x=y:=by
  intro α _ x y hl he
  refine agI hl λi h1 h2 => ?_
  have:=he i h1
  unfold ag at this
  rw[List.getD_eq_getElem?_getD,List.getD_eq_getElem?_getD,List.getElem?_eq_getElem h1,List.getElem?_eq_getElem h2]at this
  exact this
 refine ext R Q (by rw[h.len,k.len]) λi hi => ?_
 rw[h.len]at hi
 exact ext _ _ (by rw[h.wid i hi,k.wid i hi]) λc hc=>by
  rw[h.wid i hi]at hc
  by_cases e:c<n
  ·rw[h.val i hi c e hc,k.val i hi c e hc]
  ·rw[h.zero i hi c (by omega) hc,k.zero i hi c (by omega) hc]
end
section
variable {K:Nat}
theorem eX{α:Type}[Inhabited α]{l:List α}{i k:Nat}{x:α}(h:i<l.length):ag (l.set i x) k=if k=i then x else ag l k:=by
 by_cases e:k=i
 ·subst e;rw[iN h,au rfl]
 ·rw[Sw (λe'=>e e'.symm),aj e]
def Zero(f:ax)(R:List (List Int))(i:Nat):Prop:=R.length=f.Code.length/\∀a,a<i->ag R a=List.replicate f.cA.toNat 0
theorem uv{f:ax}(hf:sQ f)(h0:0<=f.cA)(h8:f.cA<=8):∀(d k i:Nat) (R:List (List Int)),i+d=f.Code.length->d<k->Zero f R i->
 ∃R',fY K f k R (i:Int)=some R'/\iX K f k R (i:Int)=some R'/\Zero f R' f.Code.length
 | d,k,i,R,hd,hk,hz=>by
  obtain⟨k,rfl⟩ :∃m,k=m+1:=⟨k-1,by omega⟩
  rw[fY,iX]
  have h2:=hf.hi
  by_cases hi:i<f.Code.length
  ·obtain⟨d,rfl⟩ :∃m,d=m+1:=⟨d-1,by omega⟩
   rw[au (by rw[aeb];omega),au ⟨h0,by omega⟩,au ⟨by omega,by rw[hz.1];omega⟩,au (by rw[aeb];omega),au ⟨h0,by omega⟩,au ⟨by omega,by rw[hz.1];omega⟩,Zi,mm (by omega)]
   exact uv hf h0 h8 d k (i+1) _ (by omega) (by omega) ⟨by rw[acG];exact hz.1,λa ha=>by
    rw[eX (by rw[hz.1];exact hi)]
    split
    ·rfl
    ·exact hz.2 a (by omega)⟩
  ·rw[aj (by rw[aeb];omega),aj (by rw[aeb];omega)]
   obtain rfl:i=f.Code.length:=by omega
   exact⟨R,rfl,rfl,hz⟩
structure wS(f:ax)(R R':List (List Int))(c:Nat)(i:Nat)(v:Nat->Int):Prop where
 len:R'.length=f.Code.length
 wid:∀a,a<f.Code.length->(ag R' a).length=f.cA.toNat
 lo:∀a,a<i->a<f.Code.length->ag (ag R' a) c=v a
 hi:∀a,i<=a->a<f.Code.length->ag (ag R' a) c=ag (ag R a) c
 yj:∀a,a<f.Code.length->∀b,b≠c->ag (ag R' a) b=ag (ag R a) b
theorem wS.Jf{f:ax}{R R':List (List Int)}{c:Nat}(h:uu f R c)(k:wS f R R' c f.Code.length (λa=>wt (reach f c) a)):uu f R' (c+1):=by
 refine⟨k.len,k.wid,λa ha b hb hs => ?_,λa ha b hb hs => ?_⟩
 ·by_cases e:b=c
  ·subst e;exact k.lo a ha ha
  ·rw[k.yj a ha b e];exact h.val a ha b (by omega) hs
 ·rw[k.yj a ha b (by omega)];exact h.zero a ha b (by omega) hs
theorem uw{f:ax}(hf:sQ f){c:Nat}(hc:c<f.cA.toNat){met:List Int}(hm:met.length=f.Code.length){R:List (List Int)}:∀(d k i:Nat) (Q:List (List Int)),i+d=f.Code.length->d<k->wS f R Q c i (λa=>ag met a)->
 ∃R',fZ K f (c:Int) met k Q (i:Int)=some R'/\wS f R R' c f.Code.length (λa=>ag met a)
 | d,k,i,Q,hd,hk,hz=>by
  obtain⟨k,rfl⟩ :∃m,k=m+1:=⟨k-1,by omega⟩
  rw[fZ]
  have h2:=hf.hi
  by_cases hi:i<f.Code.length
  ·obtain⟨d,rfl⟩ :∃m,d=m+1:=⟨d-1,by omega⟩
   have hl:=hz.len
   have hw:=hz.wid i hi
   rw[au (by rw[aeb];omega),au ⟨by omega,by omega⟩,au ⟨by omega,by omega⟩,Zi,au ⟨by omega,by rw[hw];omega⟩,Zi,mm (by omega)]
   refine uw hf hc hm d k (i+1) _ (by omega) (by omega) ⟨by rw[acG];exact hl,λa ha => ?_,λa ha hb => ?_,λa ha hb => ?_,λa ha b hb => ?_⟩
   ·rw[eX (by omega)];split
    ·rw[acG];exact hw
    ·exact hz.wid a ha
   ·rw[eX (by omega)];split
    ·rename_i e;subst e;rw[iN (by omega)]
    ·exact hz.lo a (by omega) hb
   ·rw[eX (by omega),iO_];exact hz.hi a (by omega) hb
   ·rw[eX (by omega)];split
    ·rename_i e;subst e;rw[Sw (λe=>hb e.symm)];exact hz.yj a ha b hb
    ·exact hz.yj a ha b hb
  ·rw[aj (by rw[aeb];omega)]
   obtain rfl:i=f.Code.length:=by omega
   exact⟨Q,rfl,hz⟩
theorem wS.zero{f:ax}{R:List (List Int)}{c n:Nat}(h:uu f R n)(v:Nat->Int):wS f R R c 0 v:=⟨h.len,h.wid,λa ha=>by omega,λ_ _ _=>rfl,λ_ _ _ _=>rfl⟩
theorem ux{f:ax}(hf:sQ f)(h0:0<=f.cA)(h8:f.cA<=8)(hK:3000<K):∀(d k i:Nat) (R:List (List Int)),i+d=f.cA.toNat->d<k->uu f R i->
 ∃R',ga K f k R (i:Int)=some R'/\uu f R' f.cA.toNat
 | d,k,i,R,hd,hk,hz=>by
  obtain⟨k,rfl⟩ :∃m,k=m+1:=⟨k-1,by omega⟩
  rw[ga]
  have h2:=hf.hi
  by_cases hi:i<f.cA.toNat
  ·obtain⟨d,rfl⟩ :∃m,d=m+1:=⟨d-1,by omega⟩
   obtain⟨met,e1,e2⟩:=sS (K:=K) hf (i:Int) hK
   obtain⟨R',r1,r2⟩:=uw (K:=K) hf hi e2.len f.Code.length K 0 R (by omega) (by omega) (wS.zero hz _)
   rw[iQ_,e1,ai,agQ]at *
   rw[r1,ai,mm (by omega)]
   refine ux hf h0 h8 hK d k (i+1) R' (by omega) (by omega) (wS.Jf hz ⟨r2.len,r2.wid,λa ha hb => ?_,r2.hi,r2.yj⟩)
   rw[r2.lo a ha hb];exact e2.val a hb
  ·rw[iO_]
   obtain rfl:i=f.cA.toNat:=by omega
   exact⟨R,rfl,hz⟩
theorem Bf:∀(a b c:Bool) (s:Int),vm s->(FF ((if a then 1 else 0)+(if b then 2 else 0)+(if c then 4 else 0)) s)=(if a||decide (s=1)then 1 else 0)+(if b||decide (s=2)then 2 else 0)+(if c||decide (s=4)then 4 else 0):=by
 intro a b c s hs
 rcases hs with rfl | rfl | rfl<;>cases a<;>cases b<;>cases c<;>decide
theorem Dy{V:List Pt}{a s:Int}(hs:vm s):FF (wt V a) s=wt (V++[(a,s)]) a:=by
 have:=Bf (decide ((a,1)∈V)) (decide ((a,2)∈V)) (decide ((a,4)∈V)) s hs
 simp only[af7]at this
 unfold wt;rw[this]
 simp only[List.mem_append,List.mem_singleton,Prod.mk.injEq,true_and]
 rcases hs with rfl | rfl | rfl<;>simp
theorem Dz{V:List Pt}{a b s:Int}(h:a≠b):wt (V++[(b,s)]) a=wt V a:=by unfold wt;simp[h]
theorem Bg{V W:List Pt}(h:∀x,x∈V↔x∈W)(a:Int):wt V a=wt W a:=by unfold wt;simp only[h]
theorem uy{f:ax}(hf:sQ f){c:Nat}(hc:c<f.cA.toNat){R:List (List Int)}:∀(l:List (aM×aM)) (U:List Pt) (Q:List (List Int)),(∀x∈l,0<=x.1.ag/\x.1.ag<f.Code.length/\vm x.1.state)->wS f R Q c f.Code.length (λa=>wt U a)->
 ∃R',l.foldlM (λs x=>gW K (c:Int) x s) Q=some R'/\wS f R R' c f.Code.length (λa=>wt (U++l.map (λx=>(x.1.ag,x.1.state))) a)
 | [],U,Q,_,hz=>⟨Q,rfl,by simpa using hz⟩
 | x::l,U,Q,hl,hz=>by
  obtain⟨a1,a2,a3⟩:=hl x (by simp)
  have hL:=hz.len
  have hw:=hz.wid x.1.ag.toNat (by omega)
  rw[List.foldlM_cons,gW,au ⟨a1,by omega⟩,au ⟨by omega,by rw[hw];omega⟩,Zi]
  have hv:ag (ag Q x.1.ag.toNat) c=wt U ((x.1.ag.toNat:Nat):Int):=hz.lo x.1.ag.toNat (by omega) (by omega)
  rw[hv,Dy a3,show((x.1.ag.toNat:Nat):Int)=x.1.ag by omega]
  obtain⟨R',r1,r2⟩:=uy hf hc (R:=R) l (U++[(x.1.ag,x.1.state)]) (Q.set x.1.ag.toNat ((ag Q x.1.ag.toNat).set c (wt (U++[(x.1.ag,x.1.state)]) x.1.ag))) (λy hy=>hl y (ad7 _ hy)) (by
   refine⟨by rw[acG];exact hL,λa ha => ?_,λa ha hb => ?_,λa ha hb=>by omega,λa ha b hb => ?_⟩
   ·rw[eX (by omega)];split
    ·rw[acG];exact hw
    ·exact hz.wid a ha
   ·rw[eX (by omega)];split
    ·rename_i e;subst e;rw[iN (by omega),show((x.1.ag.toNat:Nat):Int)=x.1.ag by omega]
    ·rename_i e;rw[hz.lo a ha hb,Dz (by omega)]
   ·rw[eX (by omega)];split
    ·rename_i e;subst e;rw[Sw (λe=>hb e.symm)];exact hz.yj _ ha b hb
    ·exact hz.yj a ha b hb)
  refine⟨R',r1,?_⟩
  rw[aeA,afD]at r2
  exact r2
theorem pW{f:ax}(hf:sQ f)(h0:0<=f.cA)(h8:f.cA<=8)(hK:3000<K):∀(d k i:Nat) (R:List (List Int)),i+d=f.cA.toNat->d<k->uu f R i->
 ∃R',iY K f k R (i:Int)=some R'/\uu f R' f.cA.toNat
 | d,k,i,R,hd,hk,hz=>by
  obtain⟨k,rfl⟩ :∃m,k=m+1:=⟨k-1,by omega⟩
  rw[iY]
  by_cases hi:i<f.cA.toNat
  ·obtain⟨d,rfl⟩ :∃m,d=m+1:=⟨d-1,by omega⟩
   obtain⟨m,e1,e2⟩:=yD (K:=K) hf (i:Int) hK
   obtain⟨v1,v2,v3⟩:=wQ hf (i:Int)
   have key:∀l':List (aM×aM),l'.Perm m->∃R',l'.foldlM (λs x=>gW K (i:Int) x s) R=some R'/\uu f R' (i+1):=by
    intro l' hp
    have hr:∀x∈l',(x.1.ag,x.1.state)∈reach f (i:Int):=λx hx=>by
     have:x.1∈m.map (·.1):=List.mem_map.2 ⟨x,hp.mem_iff.1 hx,rfl⟩
     rw[e2]at this
     obtain⟨y,hy,e⟩:=List.mem_map.1 this
     rw[<-e];exact hy
    obtain⟨R',r1,r2⟩:=uy (K:=K) hf hi (R:=R) l' [] R (λx hx=>v1.yh _ (hr x hx)) ⟨hz.len,hz.wid,λa _ ha=>by rw[hz.zero a ha i (aea _) hi];rfl,λa _ _=>rfl,λ_ _ _ _=>rfl⟩
    refine⟨R',r1,wS.Jf hz ⟨r2.len,r2.wid,λa ha hb => ?_,r2.hi,r2.yj⟩⟩
    rw[r2.lo a ha hb]
    refine Bg (λx => ?_) a
    rw[afU,List.mem_map]
    refine⟨λ⟨y,hy,e⟩=>e▸ hr y hy,λhx => ?_⟩
    have:pt x∈m.map (·.1):=by rw[e2];exact List.mem_map.2 ⟨x,hx,rfl⟩
    obtain⟨y,hy,e⟩:=List.mem_map.1 this
    exact⟨y,hp.mem_iff.2 hy,by rw[e]⟩
   obtain⟨R',r1,r2⟩:=key m (List.Perm.refl _)
   have DA:jK (gW K (i:Int)) R m=some R':=rA λl' hp=>by
    obtain⟨R2,q1,q2⟩:=key l' hp
    rw[q1,wR q2 r2]
   rw[iQ_,e1,ai,DA,ai,ai,mm (by omega)]
   exact pW hf h0 h8 hK d k (i+1) R' (by omega) (by omega) r2
  ·rw[iO_]
   obtain rfl:i=f.cA.toNat:=by omega
   exact⟨R,rfl,hz⟩
end
section
variable {K:Nat}
def sU(x:Int):Prop:=-9223372036854775808<=x/\x<=9223372036854775807
structure LV(p:ay):Prop where
 f:∀f∈p.aB,sU f.MW/\sU f.dA/\sU f.cA
 c:∀f∈p.aB,∀c∈f.Code,sU c.A/\sU c.B/\sU c.C/\sU c.K
def jC(x n:Int):Bool:=decide (0<=x)&&decide (x<n)
theorem j3{x n:Int}:jC x n=true↔0<=x/\x<n:=by simp[jC]
structure qW(f:ax):Prop where
 p0:0<=f.MW
 p8:f.MW<=8
 r1:1<=f.dA
 rp:f.MW<=f.dA
 r16:f.dA<=16
 s0:0<=f.cA
 s8:f.cA<=8
 c1:1<=f.Code.length
 qk:f.Code.length<=512
theorem rI(f:ax) :∃b,ei f=some b/\lp f=some b/\(b=true->qW f):=by
 have e:lp f=ei f:=rfl
 rw[e]
 unfold ei
 by_cases h1:f.MW<0
 ·rw[au h1];exact⟨false,rfl,rfl,λh=>Bool.noConfusion h⟩
 rw[aj h1]
 by_cases h2:f.MW>8
 ·rw[au h2];exact⟨false,rfl,rfl,λh=>Bool.noConfusion h⟩
 rw[aj h2]
 by_cases h3:f.dA<1
 ·rw[au h3];exact⟨false,rfl,rfl,λh=>Bool.noConfusion h⟩
 rw[aj h3]
 by_cases h4:f.dA<f.MW
 ·rw[au h4];exact⟨false,rfl,rfl,λh=>Bool.noConfusion h⟩
 rw[aj h4]
 by_cases h5:f.dA>16
 ·rw[au h5];exact⟨false,rfl,rfl,λh=>Bool.noConfusion h⟩
 rw[aj h5,bu]
 by_cases h6:f.cA>=0
 ·rw[au h6]
  by_cases h7:f.cA<=8
  ·rw[au h7]
   by_cases h8:((f.Code.length:Nat):Int)>=1
   ·rw[au h8]
    exact⟨_,rfl,rfl,λh=>⟨by omega,by omega,by omega,by omega,by omega,h6,h7,by omega,by have:=of_decide_eq_true h;omega⟩⟩
   ·rw[aj h8];exact⟨false,rfl,rfl,λh=>Bool.noConfusion h⟩
  ·rw[aj h7];exact⟨false,rfl,rfl,λh=>Bool.noConfusion h⟩
 ·rw[aj h6];exact⟨false,rfl,rfl,λh=>Bool.noConfusion h⟩
def gD(f:ax)(c:bC):Bool:=
 if c.aQ=0∨c.aQ=8∨c.aQ=9 then jC c.A f.dA
 else if c.aQ=1 then jC c.A f.dA&&jC c.B f.dA
 else if c.aQ=2 then jC c.A f.dA&&jC c.B f.dA&&jC c.C f.dA&&jC c.K 16
 else if c.aQ=3 then jC c.A f.Code.length
 else if c.aQ=4 then jC c.A f.dA&&jC c.B f.Code.length
 else if c.aQ=5 then jC c.A f.cA
 else if c.aQ=6 then true
 else if c.aQ=7 then jC c.A f.dA&&jC c.B f.cA
 else false
def kB(p:ay)(f:ax)(c:bC):Bool:=
 if c.aQ=5 then jC c.B p.aB.length&&(decide ((ag p.aB c.B.toNat).MW=0)||(decide (0<=c.C)&&decide (c.C<=f.dA-(ag p.aB c.B.toNat).MW)))else true
theorem oO(x n:Int):cH x n=some (jC x n):=by
 unfold cH jC
 by_cases h:0<=x
 ·rw[au h];simp[h]
 ·rw[aj h];simp[h]
theorem jD(x n:Int):(if x>=0 then some (decide (x<n))else some false)=some (jC x n):=by
 unfold jC
 by_cases h:0<=x
 ·rw[au h];simp[h]
 ·rw[aj h];simp[h]
theorem rJ(f:ax)(c:bC):gR f c=some (gD f c):=by
 unfold gR gD
 simp only[oO,ai]
 by_cases h0:c.aQ=0
 ·simp[h0]
 by_cases h8:c.aQ=8
 ·simp[h8]
 by_cases h9:c.aQ=9
 ·simp[h9]
 simp only[h0,h8,h9,if_false,ai,false_or]
 have:((c.aQ==9)=true)=False:=by simp[h9]
 simp only[this,if_false]
 by_cases h1:c.aQ=1
 ·simp only[h1,if_true];cases jC c.A f.dA<;>simp
 by_cases h2:c.aQ=2
 ·simp only[h2,if_true,aj (show ¬(2:Int)=1 by decide)];cases jC c.A f.dA<;>cases jC c.B f.dA<;>cases jC c.C f.dA<;>simp[jC]
  by_cases h:0<=c.K<;>simp[h]
 by_cases h3:c.aQ=3
 ·simp[h3]
 by_cases h4:c.aQ=4
 ·simp only[h4,if_true,aj (show ¬(4:Int)=1 by decide),aj (show ¬(4:Int)=2 by decide),aj (show ¬(4:Int)=3 by decide)];cases jC c.A f.dA<;>simp
 by_cases h5:c.aQ=5
 ·simp[h5]
 by_cases h6:c.aQ=6
 ·simp[h6]
 by_cases h7:c.aQ=7
 ·simp only[h7,if_true,aj (show ¬(7:Int)=1 by decide),aj (show ¬(7:Int)=2 by decide),aj (show ¬(7:Int)=3 by decide),aj (show ¬(7:Int)=4 by decide),aj (show ¬(7:Int)=5 by decide),aj (show ¬(7:Int)=6 by decide)];cases jC c.A f.dA<;>simp
 simp[h1,h2,h3,h4,h5,h6,h7]
theorem vo{p:ay}{f:ax}{c:bC}(hs:∀g∈p.aB,qW g)(hf:qW f):iJ p f c=some (kB p f c):=by
 unfold iJ kB
 by_cases h5:c.aQ=5
 ·rw[au h5,au h5,oO,ai]
  cases hb:jC c.B p.aB.length
  ·simp
  ·have hb':=j3.1 hb
   have hg:=hs _ (je (l:=p.aB) (i:=c.B.toNat) (by omega))
   rw[au rfl,au hb']
   by_cases hn:(ag p.aB c.B.toNat).MW=0
   ·rw[au hn];simp[hn]
   ·rw[aj hn,oO,ai]
    have:=hg.p0
    have:=hg.p8
    have:=hf.r16
    cases hc:jC c.C f.dA
    ·have:¬(0<=c.C/\c.C<=f.dA-(ag p.aB c.B.toNat).MW):=λh=>by
      have:jC c.C f.dA=true:=j3.2 ⟨h.1,by omega⟩
      rw[hc]at this;exact Bool.noConfusion this
     simp[hn];intro h;omega
    ·have Kd:=j3.1 hc
     rw[au rfl,bz (x:=f.dA-c.C) (by omega)]
     simp[hn,Kd.1];omega
 ·rw[aj h5,aj h5]
theorem wT{p:ay}{f:ax}{c:bC}(hs:∀g∈p.aB,qW g)(hf:qW f)(hp:0<p.aB.length):lq c f p.aB=some (gD f c&&kB p f c):=by
 unfold lq gD kB
 by_cases Bh:c.aQ<0
 ·rw[au Bh];simp only[qc];rw[iO_,iO_,iO_,iO_,iO_,iO_,iO_,iO_];rfl
 by_cases Bi:c.aQ>=10
 ·rw[aj Bh,au Bi];simp only[qc];rw[iO_,iO_,iO_,iO_,iO_,iO_,iO_,iO_];rfl
 rw[aj Bh,aj Bi,bu,au ⟨by omega,show c.aQ<10 by omega⟩,au hp,OU]
 have hl:¬((p.aB.length:Nat):Int)<0:=by omega
 have hK:(if c.K<0 then(some (.inr false):Option (Unit⊕Bool))else(if c.K>=16 then some (.inr false)else some (.inl ())))=if jC c.K 16=true then some (.inl ())else some (.inr false):=by
  unfold jC
  by_cases h:c.K<0
  ·rw[au h];simp;omega
  ·rw[aj h]
   by_cases h':c.K>=16
   ·rw[au h'];simp;omega
   ·rw[aj h'];simp;omega
 unfold mF
 rcases(by omega:c.aQ=0∨c.aQ=1∨c.aQ=2∨c.aQ=3∨c.aQ=4∨c.aQ=5∨c.aQ=6∨c.aQ=7∨c.aQ=8∨c.aQ=9)with h | h | h | h | h | h | h | h | h | h
 ·simp only[h,show(ag pF (0:Int).toNat)=⟨1,0,0,0,true⟩from rfl];simp[jD];cases jC c.A f.dA<;>simp[bH,kQ]
 ·simp only[h,show(ag pF (1:Int).toNat)=⟨1,1,0,0,true⟩from rfl];simp[jD];cases jC c.A f.dA<;>cases jC c.B f.dA<;>simp[bH,kQ]
 ·simp only[h,show(ag pF (2:Int).toNat)=⟨1,1,1,5,true⟩from rfl];simp[jD];cases jC c.A f.dA<;>cases jC c.B f.dA<;>cases jC c.C f.dA<;>simp[bH,kQ,hK];cases jC c.K 16<;>simp
 ·simp only[h,show(ag pF (3:Int).toNat)=⟨3,0,0,0,false⟩from rfl];simp[jD];cases jC c.A f.Code.length<;>simp[bH,kQ]
 ·simp only[h,show(ag pF (4:Int).toNat)=⟨1,3,0,0,true⟩from rfl];simp[jD];cases jC c.A f.dA<;>cases jC c.B f.Code.length<;>simp[bH,kQ]
 ·simp only[h,show(ag pF (5:Int).toNat)=⟨2,4,0,0,true⟩from rfl];simp[jD,hl,hp]
  cases hA:jC c.A f.cA
  ·simp[bH,kQ]
  ·cases hB:jC c.B p.aB.length
   ·simp[bH,kQ]
   ·have hb':=j3.1 hB
    have hg:=hs _ (je (l:=p.aB) (i:=c.B.toNat) (by omega))
    have:=hg.p0
    have:=hg.p8
    have:=hf.r16
    have:=hf.r1
    rw[bz (x:=f.dA-(ag p.aB c.B.toNat).MW) (by omega)]
    have Jg:aZ c.B p.aB.length:=⟨hb'.1,hb'.2⟩
    simp[bH,kQ]
    by_cases hn:(ag p.aB c.B.toNat).MW=0
    ·simp[hn];exact Jg
    ·simp[hn];by_cases hc:0<=c.C<;>simp[hc]<;>exact Jg
 ·simp only[h,show(ag pF (6:Int).toNat)=⟨0,0,0,0,true⟩from rfl];simp[jD,bH,kQ]
 ·simp only[h,show(ag pF (7:Int).toNat)=⟨1,2,0,0,true⟩from rfl];simp[jD];cases jC c.A f.dA<;>cases jC c.B f.cA<;>simp[bH,kQ]
 ·simp only[h,show(ag pF (8:Int).toNat)=⟨1,0,0,0,true⟩from rfl];simp[jD];cases jC c.A f.dA<;>simp[bH,kQ]
 ·simp only[h,show(ag pF (9:Int).toNat)=⟨1,0,0,0,false⟩from rfl];simp[jD];cases jC c.A f.dA<;>simp[bH,kQ]
end
section
variable {K:Nat}
def sV(f:ax):Bool:=(decide ((ag f.Code (f.Code.length-1)).aQ=3)||decide ((ag f.Code (f.Code.length-1)).aQ=9))
theorem ql{f:ax}(hf:qW f):gj f=some (sV f)/\me f=some (sV f):=by
 have e:me f=gj f:=rfl
 rw[e,and_self]
 unfold gj sV
 have h1:=hf.c1
 have h2:=hf.qk
 rw[bz (by omega),au ⟨by omega,by omega⟩,show(((f.Code.length:Nat):Int)-1).toNat=f.Code.length-1 by omega]
 split
 ·rename_i h;simp[h]
 ·rename_i h;simp[h];rfl
def uz(p:ay)(f:ax)(c:bC):Prop:=gD f c=true/\kB p f c=true
structure Code(p:ay)(f:ax):Prop where
 ins:∀a,a<f.Code.length->uz p f (ag f.Code a)
 fin:sV f=true
theorem Code.snd{p:ay}{f:ax}(hs:qW f)(h:Code p f):sQ f:=by
 have h1:=hs.c1
 have h2:=hs.qk
 have kd:∀a:Nat,a<f.Code.length->0<=(ag f.Code a).aQ/\(ag f.Code a).aQ<10:=λa ha=>by
  have:=(h.ins a ha).1
  unfold gD at this
  by_cases e:0<=(ag f.Code a).aQ/\(ag f.Code a).aQ<10
  ·exact e
  ·rw[iO_,iO_,iO_,iO_,iO_,iO_,iO_,iO_]at this
   exact Bool.noConfusion this
 have en:=h.fin
 unfold sV at en
 simp only[af6,af7]at en
 refine⟨h1,h2,λa h0 h1 n hn => ?_,λa h0 h1=>kd _ (by omega)⟩
 have hi:=(h.ins a.toNat (by omega)).1
 unfold gD at hi
 have last:¬(ag f.Code a.toNat).aQ=3->¬(ag f.Code a.toNat).aQ=9->a+1<f.Code.length:=λe3 e9=>by
  by_cases e:a.toNat=f.Code.length-1
  ·rw[<-e]at en;rcases en with en | en
   ·exact absurd en e3
   ·exact absurd en e9
  ·omega
 unfold Mo.nx at hn
 split at hn
 ·rename_i e;rw[iO_,iO_,iO_,au e]at hi
  rw[List.mem_singleton.1 hn];exact j3.1 hi
 ·rename_i e3
  split at hn
  ·exact absurd hn (by simp)
  ·rename_i e9
   have:=last e3 e9
   split at hn
   ·rename_i e4;rw[iO_,iO_,iO_,iO_,au e4,aec]at hi
    have:=j3.1 hi.2
    rcases List.mem_cons.1 hn with rfl | hn
    ·omega
    ·rw[List.mem_singleton.1 hn];exact this
   ·rw[List.mem_singleton.1 hn];omega
theorem zX{p:ay}(hn:p.aB.length<=32):∀(d k i:Nat),i+d=p.aB.length->d<k->(∀a,a<i->qW (ag p.aB a))->
 (∃x:bG,eD K p k (i:Int)=some (.inr x)/\iz K p k (i:Int)=some (.inr x)/\x.AX≠0)∨
 (eD K p k (i:Int)=some (.inl ())/\iz K p k (i:Int)=some (.inl ())/\∀a,a<p.aB.length->qW (ag p.aB a))
 | d,k,i,hd,hk,h=>by
  obtain⟨k,rfl⟩ :∃m,k=m+1:=⟨k-1,by omega⟩
  rw[eD,iz]
  by_cases hi:i<p.aB.length
  ·obtain⟨d,rfl⟩ :∃m,d=m+1:=⟨d-1,by omega⟩
   obtain⟨b,e1,e2,e3⟩:=rI (ag p.aB i)
   rw[iQ_,au ⟨by omega,by omega⟩,iQ_,au ⟨by omega,by omega⟩,Zi,e1,ai,e2,ai,mm (by omega)]
   cases b
   ·left;exact⟨⟨51,i,0⟩,rfl,rfl,by show(51:Int)≠0;decide⟩
   ·exact zX hn d k (i+1) (by omega) (by omega) (λa ha=>by
     by_cases e:a=i
     ·subst e;exact e3 rfl
     ·exact h a (by omega))
  ·rw[iO_,iO_]
   right;exact⟨rfl,rfl,λa ha=>h a (by omega)⟩
theorem zY{p:ay}{n:Nat}(hs:∀g∈p.aB,qW g)(hn:n<p.aB.length):∀(d k i:Nat),i+d=(ag p.aB n).Code.length->d<k->(∀a,a<i->uz p (ag p.aB n) (ag (ag p.aB n).Code a))->
 (∃j:Int,OT K p (n:Int) k (i:Int)=some (.inr (.inr (.inr ⟨52,n,j⟩)))/\eH K (n:Int) (ag p.aB n) p.aB k (i:Int)=some (.inr (.inr ⟨52,n,j⟩)))∨
 (OT K p (n:Int) k (i:Int)=some (.inl ())/\eH K (n:Int) (ag p.aB n) p.aB k (i:Int)=some (.inl ())/\∀a,a<(ag p.aB n).Code.length->uz p (ag p.aB n) (ag (ag p.aB n).Code a))
 | d,k,i,hd,hk,h=>by
  obtain⟨k,rfl⟩ :∃m,k=m+1:=⟨k-1,by omega⟩
  have hf:=hs _ (je hn)
  have X3:=hf.qk
  rw[OT,eH]
  by_cases hi:i<(ag p.aB n).Code.length
  ·obtain⟨d,rfl⟩ :∃m,d=m+1:=⟨d-1,by omega⟩
   rw[Zi,iQ_,au ⟨by omega,by omega⟩,iQ_,au ⟨by omega,by omega⟩,Zi,rJ,ai,wT hs hf (by omega),ai,mm (by omega)]
   cases e1:gD (ag p.aB n) (ag (ag p.aB n).Code i)
   ·left;exact⟨i,rfl,rfl⟩
   ·rw[au rfl,vo hs hf,ai]
    cases e2:kB p (ag p.aB n) (ag (ag p.aB n).Code i)
    ·left;exact⟨i,rfl,rfl⟩
    ·rw[au rfl,Bool.true_and,au rfl]
     exact zY hs hn d k (i+1) (by omega) (by omega) (λa ha=>by
      by_cases e:a=i
      ·subst e;exact⟨e1,e2⟩
      ·exact h a (by omega))
  ·rw[Zi,iO_,iO_]
   right;exact⟨rfl,rfl,λa ha=>h a (by omega)⟩
theorem zZ{p:ay}(hn:p.aB.length<=32)(hs:∀g∈p.aB,qW g)(hK:3000<K):∀(d k i:Nat),i+d=p.aB.length->d<k->(∀a,a<i->Code p (ag p.aB a))->
 (∃x:bG,eF K p k (i:Int)=some (.inr x)/\iA K p k (i:Int)=some (.inr x)/\x.AX≠0)∨
 (eF K p k (i:Int)=some (.inl ())/\iA K p k (i:Int)=some (.inl ())/\∀a,a<p.aB.length->Code p (ag p.aB a))
 | d,k,i,hd,hk,h=>by
  obtain⟨k,rfl⟩ :∃m,k=m+1:=⟨k-1,by omega⟩
  rw[eF,iA]
  by_cases hi:i<p.aB.length
  ·obtain⟨d,rfl⟩ :∃m,d=m+1:=⟨d-1,by omega⟩
   have hf:=hs _ (je hi)
   have X3:=hf.qk
   rw[iQ_,au ⟨by omega,by omega⟩,iQ_,au ⟨by omega,by omega⟩,Zi]
   unfold kz
   rcases zY (K:=K) hs hi (ag p.aB i).Code.length K 0 (by omega) (by omega) (λa ha=>by omega)with ⟨j,e1,e2⟩ | ⟨e1,e2,e3⟩
   ·rw[agQ]at e1 e2
    rw[e1,e2];left;exact⟨⟨52,i,j⟩,rfl,rfl,by show(52:Int)≠0;decide⟩
   ·rw[agQ]at e1 e2
    rw[e1,e2,bu,bu,(ql hf).1,(ql hf).2,ai,ai]
    cases e4:sV (ag p.aB i)
    ·left;exact⟨⟨53,i,wi (((ag p.aB i).Code.length:Int)-1)⟩,rfl,rfl,by show(53:Int)≠0;decide⟩
    ·rw[au rfl,au rfl,bu,ai,mm (by omega)]
     exact zZ hn hs hK d k (i+1) (by omega) (by omega) (λa ha=>by
      by_cases e:a=i
      ·subst e;exact⟨e3,e4⟩
      ·exact h a (by omega))
  ·rw[iO_,iO_]
   right;exact⟨rfl,rfl,λa ha=>h a (by omega)⟩
def nP(f:ax)(a:Nat):Prop:=
 ((ag f.Code a).aQ=5->((a:Int),2)∉reach f (ag f.Code a).A)/\
 ((ag f.Code a).aQ=7->((a:Int),1)∉reach f (ag f.Code a).B/\((a:Int),2)∉reach f (ag f.Code a).B)/\
 ((ag f.Code a).aQ=9->∀c:Nat,c<f.cA.toNat->((a:Int),2)∉reach f c)
theorem DB:∀(a b c:Bool),((eK ((if a then 1 else 0)+(if b then 2 else 0)+(if c then 4 else 0)) 3=0)↔a=false/\b=false):=by
 intro a b c;cases a<;>cases b<;>cases c<;>decide
theorem wU{V:List Pt}{a:Int}:eK (wt V a) 3=0↔(a,1)∉V/\(a,2)∉V:=by
 have:=DB (decide ((a,1)∈V)) (decide ((a,2)∈V)) (decide ((a,4)∈V))
 simp only[af7,decide_eq_false_iff_not]at this
 unfold wt;rw[this]
theorem yE{p:ay}{f:ax}(hs:qW f)(hc:Code p f)(hK:3000<K) :∃R,jx K f=some R/\mj K f=some R/\uu f R f.cA.toNat:=by
 have hf:=hc.snd hs
 have h1:=hs.c1
 have h2:=hs.qk
 have Ke:∀(d k i:Nat),i+d=f.Code.length->d<k->eC K f k (i:Int)=some true:=by
  intro d
  induction d with
  | zero =>
   intro k i hd hk
   obtain⟨k,rfl⟩ :∃m,k=m+1:=⟨k-1,by omega⟩
   rw[eC,iO_,(ql hs).1,ai,hc.fin]
  | succ d ih =>
   intro k i hd hk
   obtain⟨k,rfl⟩ :∃m,k=m+1:=⟨k-1,by omega⟩
   rw[eC,iQ_,au ⟨by omega,by omega⟩,rJ,ai,Zi,(hc.ins i (by omega)).1,au rfl,mm (by omega)]
   exact ih k (i+1) (by omega) (by omega)
 obtain⟨b,e1,e2,e3⟩:=rI f
 have hb:b=true:=by
  cases b
  ·exfalso
   unfold ei at e1
   have:=hs.p0;have:=hs.p8;have:=hs.r1;have:=hs.rp;have:=hs.r16;have:=hs.s0;have:=hs.s8
   rw[iO_,iO_,iO_,iO_,iO_,bu,iQ_,iQ_,iQ_,afC (by omega)]at e1
   exact Bool.noConfusion (Option.some.inj e1)
  ·rfl
 unfold jx Qp mj
 have DC:=Ke f.Code.length K 0 (by omega) (by omega)
 rw[agQ]at DC
 rw[e1,ai,hb,au rfl,DC,ai,au rfl,au ⟨by omega,by omega⟩,au ⟨by omega,by omega⟩]
 obtain⟨R,r1,r2,r3⟩:=uv (K:=K) hf hs.s0 hs.s8 f.Code.length K 0 (List.replicate f.Code.length []) (by omega) (by omega) ⟨by simp,λa ha=>by omega⟩
 rw[agQ]at r1 r2
 rw[r1,r2,ai,ai]
 have LW:=hs.s8
 have ht:uu f R 0:=⟨r3.1,λa ha=>by rw[r3.2 a ha];simp,λa ha c hc=>by omega,λa ha c _ hc=>by rw[r3.2 a ha,Sd hc]⟩
 obtain⟨R1,a1,a2⟩:=ux (K:=K) hf hs.s0 hs.s8 hK f.cA.toNat K 0 R (by omega) (by omega) ht
 obtain⟨R2,b1,b2⟩:=pW (K:=K) hf hs.s0 hs.s8 hK f.cA.toNat K 0 R (by omega) (by omega) ht
 rw[agQ]at a1 b1
 have:=wR a2 b2
 subst this
 exact⟨R1,a1,b1,a2⟩
theorem wV{f:ax}{R:List (List Int)}(ht:uu f R f.cA.toNat)(h8:f.cA<=8){a:Nat}(ha:a<f.Code.length):∀(d k i:Nat),i+d=f.cA.toNat->d<k->
 ((∃c,i<=c/\c<f.cA.toNat/\((a:Int),2)∈reach f c)->dD K (ag R a) k (i:Int)=some 56/\∀g,fU K R a k g (i:Int)=some 56)/\
 ((∀c,i<=c->c<f.cA.toNat->((a:Int),2)∉reach f c)->dD K (ag R a) k (i:Int)=some 0/\∀g,fU K R a k g (i:Int)=some g)
 | d,k,i,hd,hk=>by
  obtain⟨k,rfl⟩ :∃m,k=m+1:=⟨k-1,by omega⟩
  have hw:=ht.wid a ha
  simp only[dD,fU,Zi]
  by_cases hi:i<f.cA.toNat
  ·obtain⟨d,rfl⟩ :∃m,d=m+1:=⟨d-1,by omega⟩
   obtain⟨DD,DE⟩:=wV ht h8 ha d k (i+1) (by omega) (by omega)
   have key:eK (ag (ag R a) i) 2=0↔((a:Int),(2:Int))∉reach f i:=by rw[ht.val a ha i hi hi];exact ow (.inr (.inl rfl))
   rw[iQ_,au ⟨by omega,by omega⟩,mm (by omega)]
   by_cases e:((a:Int),(2:Int))∈reach f i
   ·rw[aj (λh=>key.1 h e)]
    refine⟨λ_=>⟨rfl,λg => ?_⟩,λh=>absurd e (h i (aea _) hi)⟩
    rw[iQ_,au ⟨by omega,by omega⟩,aj (λh=>key.1 h e)]
    by_cases e2 :∃c,i+1<=c/\c<f.cA.toNat/\((a:Int),(2:Int))∈reach f c
    ·exact(DD e2).2 56
    ·exact(DE (λc h1 h2 h3=>e2 ⟨c,h1,h2,h3⟩)).2 56
   ·have hb:=key.2 e
    rw[au hb]
    refine⟨λ⟨c,h1,h2,h3⟩ => ?_,λh => ?_⟩
    ·have:c≠i:=λe'=>by subst e';exact e h3
     obtain⟨x,y⟩:=DD ⟨c,by omega,h2,h3⟩
     refine⟨x,λg => ?_⟩
     rw[iQ_,au ⟨by omega,by omega⟩,au hb];exact y g
    ·obtain⟨x,y⟩:=DE (λc h1 h2=>h c (by omega) h2)
     refine⟨x,λg => ?_⟩
     rw[iQ_,au ⟨by omega,by omega⟩,au hb];exact y g
  ·rw[iO_]
   refine⟨λ⟨c,h1,h2,_⟩=>by omega,λ_=>⟨rfl,λg => ?_⟩⟩
   rw[iO_]
theorem uA{p:ay}{n:Nat}(hn:n<p.aB.length)(hs:qW (ag p.aB n))(hc:Code p (ag p.aB n))(hK:3000<K){R:List (List Int)}(ht:uu (ag p.aB n) R (ag p.aB n).cA.toNat):∀(d k i:Nat),i+d=(ag p.aB n).Code.length->d<k->(∀a,a<i->nP (ag p.aB n) a)->
 (∃e j:Int,e≠0/\eG K p (n:Int) R k (i:Int)=some (.inr ⟨e,n,j⟩)/\iy K (n:Int) (ag p.aB n) R k (i:Int)=some (.inr ⟨e,n,j⟩))∨
 (eG K p (n:Int) R k (i:Int)=some (.inl ())/\iy K (n:Int) (ag p.aB n) R k (i:Int)=some (.inl ())/\∀a,a<(ag p.aB n).Code.length->nP (ag p.aB n) a)
 | d,k,i,hd,hk,h=>by
  obtain⟨k,rfl⟩ :∃m,k=m+1:=⟨k-1,by omega⟩
  have X3:=hs.qk
  have h8:=hs.s8
  rw[eG,iy]
  by_cases hi:i<(ag p.aB n).Code.length
  ·obtain⟨d,rfl⟩ :∃m,d=m+1:=⟨d-1,by omega⟩
   have hl:=ht.len
   have hw:=ht.wid i hi
   rw[Zi,iQ_,au ⟨by omega,by omega⟩,au ⟨by omega,by omega⟩,iQ_,au ⟨by omega,by omega⟩,Zi,mm (by omega)]
   have key :∃e:Int,gP K (ag (ag p.aB n).Code i) (ag R i)=some e/\
    (if(ag (ag p.aB n).Code i).aQ=5 then if aZ (i:Int) R.length then if aZ (ag (ag p.aB n).Code i).A (ag R i).length then(if(eK (ag (ag R i) (ag (ag p.aB n).Code i).A.toNat) (2:Int))=0 then some 0 else some 54)else none else none else(if(ag (ag p.aB n).Code i).aQ=7 then if aZ (i:Int) R.length then if aZ (ag (ag p.aB n).Code i).B (ag R i).length then(if(eK (ag (ag R i) (ag (ag p.aB n).Code i).B.toNat) (3:Int))=0 then some 0 else some 55)else none else none else(if(ag (ag p.aB n).Code i).aQ=9 then if aZ (i:Int) R.length then(fU K R i K 0 0)else none else some 0)))=some e/\(e=0->nP (ag p.aB n) i):=by
    have wW:=(hc.ins i hi).1
    unfold gD at wW
    unfold gP
    by_cases k5:(ag (ag p.aB n).Code i).aQ=5
    ·rw[iO_,iO_,iO_,iO_,iO_,au k5]at wW
     have hA:=j3.1 wW
     have key:eK (ag (ag R i) (ag (ag p.aB n).Code i).A.toNat) 2=0↔((i:Int),(2:Int))∉reach (ag p.aB n) (ag (ag p.aB n).Code i).A:=by
      rw[ht.val i hi _ (by omega) (by omega),show(((ag (ag p.aB n).Code i).A.toNat:Nat):Int)=(ag (ag p.aB n).Code i).A by omega];exact ow (.inr (.inl rfl))
     by_cases e:((i:Int),(2:Int))∈reach (ag p.aB n) (ag (ag p.aB n).Code i).A
     ·rw[au k5,au k5,au ⟨hA.1,by omega⟩,aj (λh=>key.1 h e),au ⟨by omega,by omega⟩];exact⟨54,rfl,rfl,λh=>absurd h (by decide)⟩
     ·rw[au k5,au k5,au ⟨hA.1,by omega⟩,au (key.2 e),au ⟨by omega,by omega⟩];exact⟨0,rfl,rfl,λ_=>⟨λ_=>e,λh=>by omega,λh=>by omega⟩⟩
    rw[aj k5,aj k5]
    by_cases k7:(ag (ag p.aB n).Code i).aQ=7
    ·rw[iO_,iO_,iO_,iO_,iO_,iO_,iO_,au k7,aec]at wW
     have hB:=j3.1 wW.2
     have key:eK (ag (ag R i) (ag (ag p.aB n).Code i).B.toNat) 3=0↔((i:Int),(1:Int))∉reach (ag p.aB n) (ag (ag p.aB n).Code i).B/\((i:Int),(2:Int))∉reach (ag p.aB n) (ag (ag p.aB n).Code i).B:=by
      rw[ht.val i hi _ (by omega) (by omega),show(((ag (ag p.aB n).Code i).B.toNat:Nat):Int)=(ag (ag p.aB n).Code i).B by omega];exact wU
     by_cases e:eK (ag (ag R i) (ag (ag p.aB n).Code i).B.toNat) 3=0
     ·rw[au k7,au k7,au ⟨hB.1,by omega⟩,au e,au ⟨by omega,by omega⟩];exact⟨0,rfl,rfl,λ_=>⟨λh=>by omega,λ_=>key.1 e,λh=>by omega⟩⟩
     ·rw[au k7,au k7,au ⟨hB.1,by omega⟩,aj e,au ⟨by omega,by omega⟩];exact⟨55,rfl,rfl,λh=>absurd h (by decide)⟩
    rw[aj k7,aj k7]
    by_cases k9:(ag (ag p.aB n).Code i).aQ=9
    ·rw[au k9,au k9,au ⟨by omega,by omega⟩]
     obtain⟨o1,o2⟩:=wV (K:=K) ht h8 hi (ag p.aB n).cA.toNat K 0 (by omega) (by omega)
     rw[agQ]at o1 o2
     by_cases e :∃c,0<=c/\c<(ag p.aB n).cA.toNat/\((i:Int),(2:Int))∈reach (ag p.aB n) c
     ·exact⟨56,(o1 e).1,(o1 e).2 0,λh=>absurd h (by decide)⟩
     ·have e':∀c,0<=c->c<(ag p.aB n).cA.toNat->((i:Int),(2:Int))∉reach (ag p.aB n) c:=λc h1 h2 h3=>e ⟨c,h1,h2,h3⟩
      exact⟨0,(o2 e').1,(o2 e').2 0,λ_=>⟨λh=>by omega,λh=>by omega,λ_ c hc=>e' c (agP _) hc⟩⟩
    ·rw[aj k9,aj k9];exact⟨0,rfl,rfl,λ_=>⟨λh=>absurd h k5,λh=>absurd h k7,λh=>absurd h k9⟩⟩
   obtain⟨e,e1,e2,e3⟩:=key
   rw[e1,e2,ai,ai]
   by_cases e0:e=0
   ·rw[au e0,au e0,bu]
    exact uA hn hs hc hK ht d k (i+1) (by omega) (by omega) (λa ha=>by
     by_cases e:a=i
     ·subst e;exact e3 e0
     ·exact h a (by omega))
   ·rw[aj e0,aj e0];left;exact⟨e,i,e0,rfl,rfl⟩
  ·rw[Zi,iO_,iO_]
   right;exact⟨rfl,rfl,λa ha=>h a (by omega)⟩
theorem z7{p:ay}(hn:p.aB.length<=32)(hs:∀g∈p.aB,qW g)(hc:∀a,a<p.aB.length->Code p (ag p.aB a))(hK:3000<K):∀(d k i:Nat),i+d=p.aB.length->d<k->(∀a,a<i->∀b,b<(ag p.aB a).Code.length->nP (ag p.aB a) b)->
 ∃x:bG,fD K p k (i:Int)=some x/\jB K p k (i:Int)=some x/\(x.AX=0->∀a,a<p.aB.length->∀b,b<(ag p.aB a).Code.length->nP (ag p.aB a) b)
 | d,k,i,hd,hk,h=>by
  obtain⟨k,rfl⟩ :∃m,k=m+1:=⟨k-1,by omega⟩
  rw[fD,jB]
  by_cases hi:i<p.aB.length
  ·obtain⟨d,rfl⟩ :∃m,d=m+1:=⟨d-1,by omega⟩
   have hf:=hs _ (je hi)
   have X3:=hf.qk
   rw[iQ_,au ⟨by omega,by omega⟩,iQ_,au ⟨by omega,by omega⟩,Zi]
   unfold oM
   obtain⟨R,r1,r2,r3⟩:=yE (K:=K) hf (hc i hi) hK
   rw[r1,r2,ai,ai]
   rcases uA (K:=K) hi hf (hc i hi) hK r3 (ag p.aB i).Code.length K 0 (by omega) (by omega) (λa ha=>by omega)with ⟨e,j,e0,e1,e2⟩ | ⟨e1,e2,e3⟩
   ·rw[agQ]at e1 e2
    rw[e1,e2];exact⟨⟨e,i,j⟩,rfl,rfl,λh=>absurd h e0⟩
   ·rw[agQ]at e1 e2
    rw[e1,e2,bu,ai,mm (by omega)]
    exact z7 hn hs hc hK d k (i+1) (by omega) (by omega) (λa ha=>by
     by_cases e:a=i
     ·subst e;exact e3
     ·exact h a (by omega))
  ·rw[iO_,iO_]
   exact⟨⟨0,0,0⟩,rfl,rfl,λ_ a ha=>h a (by omega)⟩
structure Valid(p:ay):Prop where
 n1:1<=p.aB.length
 n32:p.aB.length<=32
 sH:∀a,a<p.aB.length->qW (ag p.aB a)
 code:∀a,a<p.aB.length->Code p (ag p.aB a)
 slot:∀a,a<p.aB.length->∀b,b<(ag p.aB a).Code.length->nP (ag p.aB a) b
theorem wX(p:ay)(hK:3000<K) :∃x:bG,iW K p=some x/\mV K p=some x/\(x.AX=0->Valid p):=by
 unfold iW mV
 by_cases h1:((p.aB.length:Nat):Int)<1
 ·rw[au h1];exact⟨_,rfl,rfl,λh=>absurd h (by decide)⟩
 rw[aj h1]
 by_cases h2:((p.aB.length:Nat):Int)>32
 ·rw[au h2];exact⟨_,rfl,rfl,λh=>absurd h (by decide)⟩
 rw[aj h2,bu,bu]
 rcases zX (K:=K) (p:=p) (by omega) p.aB.length K 0 (by omega) (by omega) (λa ha=>by omega)with ⟨x,e1,e2,e3⟩ | ⟨e1,e2,e3⟩
 ·rw[agQ]at e1 e2;rw[e1,e2];exact⟨x,rfl,rfl,λh=>absurd h e3⟩
 rw[agQ]at e1 e2
 have hs:∀g∈p.aB,qW g:=λg hg=>by
  obtain⟨i,hi,e⟩:=List.getElem_of_mem hg
  have:=e3 i hi
  unfold ag at this;rw[List.getD_eq_getElem?_getD,List.getElem?_eq_getElem hi]at this
  rw[<-e];exact this
 rw[e1,e2,bu,bu]
 rcases zZ (K:=K) (p:=p) (by omega) hs hK p.aB.length K 0 (by omega) (by omega) (λa ha=>by omega)with ⟨x,a1,a2,a3⟩ | ⟨a1,a2,a3⟩
 ·rw[agQ]at a1 a2;rw[a1,a2];exact⟨x,rfl,rfl,λh=>absurd h a3⟩
 rw[agQ]at a1 a2
 rw[a1,a2,bu,bu]
 obtain⟨x,b1,b2,b3⟩:=z7 (K:=K) (p:=p) (by omega) hs a3 hK p.aB.length K 0 (by omega) (by omega) (λa ha=>by omega)
 rw[agQ]at b1 b2
 exact⟨x,b1,b2,λh=>⟨by omega,by omega,e3,a3,b3 h⟩⟩
end
end Mo
end
end Go.Proofs.YtpikpffbcjpmcaaGreatDoor

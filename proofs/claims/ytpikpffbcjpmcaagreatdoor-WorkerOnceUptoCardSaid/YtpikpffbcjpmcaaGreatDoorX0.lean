/- plunderlaw11.WorkerOnce answers true for every input of the bulk that the statement names, and leaves its input alone. Conditions: none. -/
import Derived.Below
import Derived.OwnWalk
import Derived.Deep.Draws
import Derived.Laws.AppendOwn
import Derived.Laws.OwnMore
import Derived.Laws.MakeOwn
import Derived.Laws.CopyRow
import Derived.StillTail
import Derived.Deep.Quiet
import Derived.KernelRfl
import Derived.IntWalk
import Derived.Laws.StructEq
import Derived.Test.YtpikpffbcjpmcaaGreatDoorProg
import Derived.Carry
import Derived.ChangeSlices
import Derived.ChangeOld
import Derived.Deep.Fields
import Derived.Deep.Slices
import Derived.DataReads
import Derived.OpenShut
import Derived.Test.YtpikpffbcjpmcaaGreatDoorRows
import Derived.FnData
import Derived.Scope
import Derived.Laws.IdiomRangeMap
import Derived.Defers
import Derived.Laws.LoneSync
import Derived.Conc.MuLone
import Derived.Recover
import Derived.ArgAppend
import Derived.ChangeKeysEq
import Derived.Test.YtpikpffbcjpmcaaGreatDoorCards
import Derived.Test.YtpikpffbcjpmcaaGreatDoorTie
import Derived.WalkKit
import Derived.ProofKit
import Derived.SizedLaws
import Derived.JoinedCond
import Derived.Deep.DeepHandedRow
import Derived.Lib.LaidTab
import Derived.LaidMore
import Derived.SevenTiedAt
set_option linter.unusedVariables false
set_option linter.unusedSimpArgs false
set_option linter.unusedSectionVars false
set_option maxRecDepth 100000
set_option maxHeartbeats 4000000
namespace Go.Proofs.YtpikpffbcjpmcaaGreatDoor
theorem aj{c:Prop}{h:Decidable c}(hn:¬c){α:Sort _}{t e:α}:ite c t e=e:=if_neg hn
theorem au{c:Prop}{h:Decidable c}(hn:c){α:Sort _}{t e:α}:ite c t e=t:=if_pos hn
theorem CH:True:=trivial
theorem iO_{c:Prop}{h:Decidable c}{α:Sort _}{t e:α}(hn:¬c:=by omega):ite c t e=e:=if_neg hn
theorem iQ_{c:Prop}{h:Decidable c}{α:Sort _}{t e:α}(hn:c:=by omega):ite c t e=t:=if_pos hn
theorem iM_{β:Type}{x k c:β}(h:x=c){d:Decidable (x=k)}{α:Sort _}{t e:α}(hn:¬c=k:=by decide):ite (x=k) t e=e:=if_neg (h▸hn)
abbrev agq:=@Nat.le_trans
abbrev aea:=@Nat.le_refl
abbrev agK:=@List.flatMap_cons
abbrev ad9:=@List.length_append
abbrev af2:=@List.length_cons
abbrev afz:=@Nat.add_mul
abbrev agL:=@Nat.add_comm
abbrev af3:=@Nat.zero_add
abbrev afK:=@List.take_zero
abbrev afU:=@List.nil_append
abbrev agy:=@List.drop_append_of_le_length
abbrev afR:=@List.drop_of_length_le
abbrev agh:=@List.take_of_length_le
abbrev agz:=@List.take_append
abbrev aeA:=@List.append_assoc
abbrev afm:=@Nat.mul_le_mul_right
abbrev afS:=@List.ext_getElem?
abbrev afA:=@List.length_take
abbrev afX:=@Nat.min_eq_left
abbrev acG:=@List.length_set
abbrev af9:=@List.size_toArray
abbrev age:=@List.flatMap_append
abbrev agi:=@List.take_left
abbrev agr:=@List.eq_nil_of_length_eq_zero
abbrev afY:=@List.length_nil
abbrev af4:=@List.length_drop
abbrev afB:=@Array.length_toList
abbrev afL:=@Go.Addr.add_lit
abbrev aei:=@Nat.le_of_ble_eq_true
abbrev afO:=@Array.getD_eq_getD_getElem?
abbrev agM:=@Nat.eq_of_beq_eq_true
abbrev aee:=@Go.Sem.run_bind
abbrev aef:=@Go.Result.andThen_ok
abbrev afu:=@Go.Sem.run_pure
abbrev agj:=@Nat.add_zero
abbrev agA:=@List.toList_toArray
abbrev agB:=@List.drop_take
abbrev afG:=@Option.map_some
abbrev agG:=@Nat.le_mul_of_pos_right
abbrev agk:=@List.map_toArray
abbrev afZ:=@List.map_cons
abbrev af5:=@List.map_nil
abbrev aeb:=@List.length_replicate
abbrev Zi:=@Int.toNat_natCast
abbrev aec:=@Bool.and_eq_true
abbrev afT:=@beq_iff_eq
abbrev agC:=@Nat.add_left_comm
abbrev afr:=@congrArg
abbrev afv:=@List.mem_cons
abbrev afw:=@List.not_mem_nil
abbrev afx:=@or_false
abbrev ags:=@List.map_append
abbrev af6:=@Bool.or_eq_true
abbrev agD:=@Bool.false_eq_true
abbrev agl:=@Nat.lt_or_ge
abbrev agH:=@Go.Region.noSelect_spec
abbrev aej:=@List.take_succ_cons
abbrev afN:=@List.perm_middle
abbrev afy:=@List.cons_append
abbrev af0:=@List.append_nil
abbrev af7:=@decide_eq_true_eq
abbrev afC:=@decide_eq_true
abbrev agE:=@decide_eq_false
abbrev agt:=@List.take_append_drop
abbrev agI:=@List.ext_getElem
abbrev agN:=@List.drop_eq_nil_of_le
abbrev aga:=@List.length_map
abbrev afk:=@Option.getD_some
abbrev agm:=@Nat.succ_mul
abbrev agO:=@Go.MapKept.run_getObj_map
abbrev afM:=@List.drop_zero
abbrev aeg:=@List.drop_eq_getElem_cons
abbrev agP:=@Nat.zero_le
abbrev agb:=@List.drop_succ_cons
abbrev afl:=@Nat.lt_succ_self
abbrev ad7:=@List.mem_cons_of_mem
abbrev afD:=@List.singleton_append
abbrev agQ:=@Int.ofNat_zero
abbrev agF:=@List.length_singleton
abbrev aeB:=@Prod.ext
abbrev agu:=@List.set_set
abbrev af8:=@Int.emod_nonneg
abbrev acH:=@Int.emod_lt_of_pos
abbrev agn:=@Int.le_refl
abbrev ago:=@Nat.mod_eq_of_lt
abbrev afP:=@List.getElem_toArray
abbrev agv:=@List.getElem_cons_zero
abbrev afE:=@List.getElem_cons_succ
abbrev afH:=@Array.getInternal_eq_getElem
abbrev afI:=@and_true
section
namespace SL
open Go Go.RowKit
abbrev Hp:=Nat->Option Obj
abbrev M5:=Hp->Prop
def Hp.none:Hp:=λ_=>Option.none
def Hp.add(a b:Hp):Hp:=λk=>match a k with | some o=>some o | Option.none=>b k
def Hp.oh(a b:Hp):Prop:=∀k,a k=Option.none∨b k=Option.none
def sI:M5:=λh=>h=Hp.none
def sep(P Q:M5):M5:=λh =>∃a b,a.oh b/\h=a.add b/\P a/\Q b
def pts(b:Nat)(o:Obj):M5:=λh=>h=λk=>if k=b then some o else Option.none
def Z7(p:Prop):M5:=λh=>p/\h=Hp.none
def exs{α:Type}(P:α->M5):M5:=λh =>∃x,P x h
def cQ:List M5->M5
 | []=>sI
 | P::L=>sep P (cQ L)
theorem Hp.jt{a b:Hp}(h:a.oh b):b.oh a:=λk=>(h k).symm
theorem Hp.add_comm{a b:Hp}(h:a.oh b):a.add b=b.add a:=by
 funext k
 unfold Hp.add
 rcases h k with h | h<;>rw[h]<;>cases a k<;>cases b k<;>simp_all
theorem Hp.add_assoc(a b c:Hp):(a.add b).add c=a.add (b.add c):=by
 funext k;unfold Hp.add;cases a k<;>rfl
theorem Hp.lV{a b c:Hp}(h1:a.oh b)(h2:a.oh c):a.oh (b.add c):=λk=>by
 rcases h1 k with h | h
 ·exact .inl h
 ·rcases h2 k with h' | h'
  ·exact .inl h'
  ·exact .inr (by unfold Hp.add;rw[h,h'])
theorem Hp.n6{a b c:Hp}(h:a.oh (b.add c)):a.oh b/\a.oh c:=by
 constructor
 ·intro k
  rcases h k with h | h
  ·exact .inl h
  ·refine .inr ?_
   unfold Hp.add at h
   cases hb:b k with
   | none=>rfl
   | some o=>rw[hb]at h;exact absurd h (by simp)
 ·intro k
  rcases h k with h | h
  ·exact .inl h
  ·refine .inr ?_
   unfold Hp.add at h
   cases hb:b k with
   | none=>rw[hb]at h;exact h
   | some o=>rw[hb]at h;exact absurd h (by simp)
theorem Hp.qY(a:Hp):a.add Hp.none=a:=by funext k;unfold Hp.add Hp.none;cases a k<;>rfl
theorem Hp.wc(a:Hp):Hp.none.add a=a:=rfl
theorem Hp.u4(a:Hp):a.oh Hp.none:=λ_=>.inr rfl
theorem Hp.u5(a:Hp):Hp.none.oh a:=λ_=>.inl rfl
theorem qZ(P Q:M5):sep P Q=sep Q P:=by
 funext h
 apply propext
 constructor <;>
 ·rintro ⟨a,b,hd,rfl,hp,hq⟩
  exact⟨b,a,Hp.jt hd,Hp.add_comm hd,hq,hp⟩
theorem nJ(P Q R:M5):sep (sep P Q) R=sep P (sep Q R):=by
 funext h
 apply propext
 constructor
 ·rintro ⟨ab,c,hd,rfl,⟨a,b,hd',rfl,hp,hq⟩,hr⟩
  obtain⟨h1,h2⟩:=Hp.n6 (Hp.jt hd)
  exact⟨a,b.add c,Hp.lV hd' (Hp.jt h1),Hp.add_assoc _ _ _,hp,b,c,Hp.jt h2,rfl,hq,hr⟩
 ·rintro ⟨a,bc,hd,rfl,hp,b,c,hd',rfl,hq,hr⟩
  obtain⟨h1,h2⟩:=Hp.n6 hd
  exact⟨a.add b,c,Hp.jt (Hp.lV (Hp.jt h2) (Hp.jt hd')),(Hp.add_assoc _ _ _).symm,⟨a,b,h1,rfl,hp,hq⟩,hr⟩
theorem mM(P Q R:M5):sep P (sep Q R)=sep Q (sep P R):=by
 rw[<-nJ,qZ P Q,nJ]
theorem ou(P:M5):sep P sI=P:=by
 funext h
 apply propext
 constructor
 ·rintro ⟨a,b,_,rfl,hp,rfl⟩;rw[Hp.qY];exact hp
 ·intro hp;exact⟨h,Hp.none,Hp.u4 h,(Hp.qY h).symm,hp,rfl⟩
theorem lW(L M:List M5):cQ (L++M)=sep (cQ L) (cQ M):=by
 induction L with
 | nil=>show cQ M=sep sI (cQ M);rw[qZ,ou]
 | cons P L ih=>show sep P (cQ (L++M))=sep (sep P (cQ L)) (cQ M);rw[ih,nJ]
theorem u6{L M:List M5}(h:L.Perm M):cQ L=cQ M:=by
 induction h with
 | nil=>rfl
 | cons P _ ih=>show sep P _=sep P _;rw[ih]
 | swap P Q L=>exact mM _ _ _
 | trans _ _ h1 h2=>exact h1.trans h2
def pick(i:Nat)(L:List M5):List M5:=match L[i]? with | some P=>P::L.eraseIdx i | Option.none=>L
theorem u7(i:Nat)(L:List M5):cQ (pick i L)=cQ L:=by
 unfold pick
 induction L generalizing i with
 | nil=>rfl
 | cons P L ih =>
  cases i with
  | zero=>rfl
  | succ i =>
   have hi:=ih i
   simp only[List.getElem?_cons_succ,List.eraseIdx_cons_succ]
   cases hg:L[i]? with
   | none=>rfl
   | some Q =>
    rw[hg]at hi
    show sep Q (sep P (cQ (L.eraseIdx i)))=sep P (cQ L)
    rw[<-hi]
    exact mM _ _ _
structure Fit(w0:World)(P:M5)(w:World):Prop where
 sat :∃h:Hp,(∀k o,h k=some o->w.heap[k]? = some o)/\P h
 os:w.os=w0.os
 tape:w.tape=w0.tape
 output:w.output=w0.output
 size:w0.heap.size<=w.heap.size
section
variable {w0 w:World}{L M:List M5}{P Q:M5}
theorem Fit.imp(h:Fit w0 P w)(i:∀x,P x->Q x):Fit w0 Q w:=
 let ⟨x,hx,hp⟩:=h.sat
 ⟨⟨x,hx,i x hp⟩,h.os,h.tape,h.output,h.size⟩
theorem Fit.eq(h:Fit w0 P w)(e:P=Q):Fit w0 Q w:=e▸ h
theorem Fit.perm(h:Fit w0 (cQ L) w)(p:L.Perm M):Fit w0 (cQ M) w:=h.eq (u6 p)
theorem Fit.pick(h:Fit w0 (cQ L) w)(i:Nat):Fit w0 (cQ (pick i L)) w:=h.eq (u7 i L).symm
theorem Fit.trans{w1:World}{R:M5}(h:Fit w0 R w1)(k:Fit w1 P w):Fit w0 P w:=
 ⟨k.sat,k.os.trans h.os,k.tape.trans h.tape,k.output.trans h.output,agq h.size k.size⟩
theorem Fit.self(h:Fit w0 P w):Fit w P w:=⟨h.sat,rfl,rfl,rfl,aea _⟩
theorem we{P P' Q Q':M5}(hp:∀x,P x->P' x)(hq:∀x,Q x->Q' x)(x:Hp)(h:sep P Q x):sep P' Q' x:=
 let ⟨a,b,hd,e,p,q⟩:=h
 ⟨a,b,hd,e,hp a p,hq b q⟩
theorem Fit.head(h:Fit w0 (cQ (P::L)) w)(i:∀x,P x->Q x):Fit w0 (cQ (Q::L)) w:=h.imp (we i λ_ q=>q)
theorem Fit.drop(h:Fit w0 (cQ (P::L)) w):Fit w0 (cQ L) w:=
 let ⟨x,hx,a,b,hd,e,p,q⟩:=h.sat
 ⟨⟨b,λk o hk=>hx k o (by
  rw[e]
  unfold Hp.add
  rcases hd k with h1 | h1
  ·rw[h1];exact hk
  ·rw[h1]at hk;cases hk),q⟩,h.os,h.tape,h.output,h.size⟩
theorem Fit.PC{α:Type}{F:α->M5}(h:Fit w0 (cQ (exs F::L)) w) :∃x,Fit w0 (cQ (F x::L)) w:=
 let ⟨x,hx,a,b,hd,e,⟨y,p⟩,q⟩:=h.sat
 ⟨y,⟨⟨x,hx,a,b,hd,e,p,q⟩,h.os,h.tape,h.output,h.size⟩⟩
theorem Fit.O1{α:Type}{F:α->M5}(x:α)(h:Fit w0 (cQ (F x::L)) w):Fit w0 (cQ (exs F::L)) w:=h.head λ_ p=>⟨x,p⟩
theorem Fit.Su{p:Prop}(h:Fit w0 (cQ (Z7 p::L)) w):p/\Fit w0 (cQ L) w:=
 let ⟨_,_,_,_,_,_,⟨hp,_⟩,_⟩:=h.sat
 ⟨hp,h.drop⟩
theorem Fit.RF{p:Prop}(hp:p)(h:Fit w0 (cQ L) w):Fit w0 (cQ (Z7 p::L)) w:=
 h.imp λx hx=>⟨Hp.none,x,Hp.u5 x,(Hp.wc x).symm,⟨hp,rfl⟩,hx⟩
theorem Fit.u9(h:Fit w0 (cQ (cQ M::L)) w):Fit w0 (cQ (M++L)) w:=h.eq (lW M L).symm
theorem Fit.vb(M L:List M5)(h:Fit w0 (cQ (M++L)) w):Fit w0 (cQ (cQ M::L)) w:=h.eq (lW M L)
theorem Fit.block{b:Nat}{o:Obj}(h:Fit w0 (cQ (pts b o::L)) w):w.heap[b]? = some o:=by
 obtain⟨x,hx,a,c,hd,e,p,q⟩:=h.sat
 refine hx b o ?_
 rw[e,p]
 unfold Hp.add
 simp
theorem Fit.lt{b:Nat}{o:Obj}(h:Fit w0 (cQ (pts b o::L)) w):b<w.heap.size:=(Array.getElem?_eq_some_iff.1 h.block).1
theorem Fit.cell{b:Nat}{cs:Array Value}{t:TypeId}{z:Nat×Nat}(h:Fit w0 (cQ (pts b (.cells cs t z)::L)) w)(i:Nat){v:Value}(hv:cs[i]? = some v):w.cell? ⟨b,i,none⟩=some v:=by
 simp only[World.cell?,h.block]
 simpa using hv
theorem Fit.news{b:Nat}{cs:Array Value}{t:TypeId}{z:Nat×Nat}(h:Fit w0 (cQ (pts b (.cells cs t z)::L)) w){xs:List Value}(hx:cs.toList=xs):∀j u,xs[j]? = some u->w.cell? ((⟨b,0,none⟩:Addr).add j)=some u:=by
 subst hx
 intro j u hu
 have e:(⟨b,0,none⟩:Addr).add j=⟨b,j,none⟩:=by unfold Addr.add;split<;>simp_all
 rw[e]
 exact h.cell j (by simpa using hu)
theorem Fit.free{b:Nat}{cs:Array Value}{t:TypeId}(h:Fit w0 (cQ (pts b (.cells cs t)::L)) w)(i:Nat):w.frozen? ⟨b,i,none⟩=false:=by
 simp[World.frozen?,h.block]
theorem Fit.alloc(h:Fit w0 (cQ L) w)(o:Obj):Fit w0 (cQ (pts w.heap.size o::L)) (w.alloc o):=by
 obtain⟨x,hx,hp⟩:=h.sat
 have hlt:∀k o',x k=some o'->k<w.heap.size:=λk o' hk=>(Array.getElem?_eq_some_iff.1 (hx k o' hk)).1
 refine⟨⟨_,?_,(λk=>if k=w.heap.size then some o else Option.none),x,?_,rfl,rfl,hp⟩,h.os,h.tape,h.output,?_⟩
 ·intro k o' hk
  unfold Hp.add at hk
  by_cases e:k=w.heap.size
  ·subst e
   simp at hk
   subst hk
   exact heap_alloc_new w o
  ·simp only[e,if_false]at hk
   rw[Below.heap_alloc w o k (hlt k o' hk)]
   exact hx k o' hk
 ·intro k
  by_cases e:k=w.heap.size
  ·right
   cases hk:x k with
   | none=>rfl
   | some o'=>have:=hlt k o' hk;omega
  ·left;simp[e]
 ·have:=h.size;simp;omega
theorem Fit.drew(h:Fit w0 P w):Fit w0 P w.drew:=⟨h.sat,h.os,h.tape,h.output,h.size⟩
theorem Fit.turn{b:Nat}{o o':Obj}{w':World}(h:Fit w0 (cQ (pts b o::L)) w)(hb:w'.heap[b]? = some o')(hr:∀k,k≠b->k<w.heap.size->w'.heap[k]? = w.heap[k]?)
 (hos:w'.os=w.os) (ht:w'.tape=w.tape) (ho:w'.output=w.output) (hs:w.heap.size<=w'.heap.size):Fit w0 (cQ (pts b o'::L)) w':=by
 obtain⟨x,hx,a,c,hd,e,p,q⟩:=h.sat
 refine⟨⟨_,?_,(λk=>if k=b then some o' else Option.none),c,?_,rfl,rfl,q⟩,hos.trans h.os,ht.trans h.tape,ho.trans h.output,agq h.size hs⟩
 ·intro k I1 hk
  unfold Hp.add at hk
  by_cases ek:k=b
  ·subst ek
   simp at hk
   subst hk
   exact hb
  ·simp only[ek,if_false]at hk
   have hk':x k=some I1:=by rw[e,p];unfold Hp.add;simp[ek,hk]
   have hw:=hx k I1 hk'
   rw[hr k ek (Array.getElem?_eq_some_iff.1 hw).1]
   exact hw
 ·intro k
  by_cases ek:k=b
  ·right
   rcases hd k with h1 | h1
   ·rw[p]at h1;simp[ek]at h1
   ·exact h1
  ·left;simp[ek]
theorem Fit.set{b:Nat}{cs:Array Value}{t:TypeId}(h:Fit w0 (cQ (pts b (.cells cs t)::L)) w)(i:Nat)(v:Value) :
 Fit w0 (cQ (pts b (.cells (cs.setIfInBounds i v) t)::L)) (w.setCell ⟨b,i,none⟩ v):=by
 refine h.turn (w':=w.setCell ⟨b,i,none⟩ v) ?_ ?_ rfl rfl rfl (by simp)
 ·simp[World.setCell,Array.getElem?_modify,h.block]
 ·intro k hk _
  exact Below.heap_setCell _ _ _ _ hk
end
def old(W:World):M5:=λh=>h=λk=>W.heap[k]?
theorem Fit.begin(W:World):Fit W (cQ [old W]) W:=
 ⟨⟨λk=>W.heap[k]?,λ_ _ h=>h,by show sep (old W) sI _;rw[ou];exact rfl⟩,rfl,rfl,rfl,aea _⟩
theorem Fit.below{W w:World}{L:List M5}(h:Fit W (cQ (old W::L)) w):Below W.heap.size W w:=by
 obtain⟨x,hx,a,c,hd,e,p,q⟩:=h.sat
 refine⟨h.os,h.tape,h.output,h.size,λk hk => ?_⟩
 have hk':W.heap[k]? = some W.heap[k]:=Array.getElem?_eq_getElem hk
 rw[hk']
 refine hx k _ ?_
 rw[e,p]
 unfold Hp.add
 simp[hk']
theorem Fit.agU{z W w:World}{L:List M5}(h:Fit z (cQ (old W::L)) w){k:Nat}{o:Obj}(hk:W.heap[k]? = some o):w.heap[k]? = some o:=by
 obtain⟨x,hx,a,c,hd,e,p,q⟩:=h.sat
 refine hx k _ ?_
 rw[e,p]
 unfold Hp.add
 simp[hk]
theorem Fit.q7{z W w:World}{L:List M5}{ad:Addr}{u:Value}(h:Fit z (cQ (old W::L)) w)(hc:W.cell? ad=some u):w.cell? ad=some u:=by
 have hlt:=World.block_lt_of_cell? W ad hc
 have hk:W.heap[ad.block]? = some W.heap[ad.block]:=Array.getElem?_eq_getElem hlt
 have:=h.agU hk
 simp only[World.cell?]at hc⊢
 rw[this]
 rw[hk]at hc
 exact hc
structure QB{α:Type}(enc:α->List Value)(sz:Nat):Prop where
 len:∀x,(enc x).length=sz
 one:∀x,∀u∈enc x,u.oneCell'=true
 pos:0<sz
theorem QB.flat{α:Type}{enc:α->List Value}{sz:Nat}(he:QB enc sz)(l:List α):(l.flatMap enc).length=l.length*sz:=by
 induction l with
 | nil=>simp
 | cons x l ih=>rw[agK,ad9,he.len,ih,af2,afz,Nat.one_mul,agL]
theorem QB.Sv{α:Type}{enc:α->List Value}{sz:Nat}(he:QB enc sz)(l:List α):∀u∈l.flatMap enc,u.oneCell'=true:=by
 intro u hu
 obtain⟨x,_,hx⟩:=List.mem_flatMap.1 hu
 exact he.one x u hx
theorem QB.get{α:Type}{enc:α->List Value}{sz:Nat}(he:QB enc sz)(l:List α)(i f:Nat)(x:α)(hi:l[i]? = some x)(hf:f<sz):(l.flatMap enc)[i*sz+f]? = (enc x)[f]?:=by
 induction l generalizing i with
 | nil=>simp at hi
 | cons y l ih =>
  rw[agK]
  cases i with
  | zero =>
   simp at hi
   subst hi
   rw[Nat.zero_mul,af3,List.getElem?_append_left (by rw[he.len];exact hf)]
  | succ i =>
   rw[List.getElem?_append_right (by rw[he.len,afz];omega),he.len,show(i+1)*sz+f-sz=i*sz+f by rw[afz];omega]
   exact ih i (by simpa using hi)
theorem QB.set{α:Type}{enc:α->List Value}{sz:Nat}(he:QB enc sz)(l:List α)(i:Nat)(x:α)(hi:i<l.length) :
 (l.set i x).flatMap enc=(l.flatMap enc).take (i*sz)++enc x++(l.flatMap enc).drop (i*sz+sz):=by
 induction l generalizing i with
 | nil=>simp at hi
 | cons y l ih =>
  cases i with
  | zero =>
   simp only[List.set_cons_zero,agK,Nat.zero_mul,afK,afU,af3]
   congr 1
   rw[agy (by rw[he.len];exact aea _),afR (by rw[he.len];exact aea _),afU]
  | succ i =>
   simp only[List.set_cons_succ,agK]
   rw[ih i (by simpa using hi)]
   have h1:(i+1)*sz=sz+i*sz:=by rw[afz];omega
   have t1:(enc y).take (sz+i*sz)=enc y:=agh (by rw[he.len];omega)
   have d1:(enc y).drop (sz+i*sz+sz)=[]:=afR (by rw[he.len];omega)
   rw[h1,agz,t1,he.len,show sz+i*sz-sz=i*sz by omega,List.drop_append,d1,he.len,show sz+i*sz+sz-sz=i*sz+sz by omega]
   simp only[afU,aeA]
def rowOf{α:Type}(e:TypeId)(sz:Nat)(enc:α->List Value)(v:Value)(l:List α):M5:=λh =>
 (v= .slice none 0 0/\l=[]/\h=Hp.none)∨
 ∃g cap cur,v= .slice (some ⟨g,0,none⟩) l.length cap/\l.length<=cap/\cap<=maxLen/\cur.size=cap*sz/\cur.toList.take (l.length*sz)=l.flatMap enc/\pts g (.cells cur e) h
def slc{α:Type}(e:TypeId)(sz:Nat)(enc:α->List Value)(g cap:Nat)(l:List α):M5:=λh =>
 l.length<=cap/\cap<=maxLen/\∃cur:Array Value,cur.size=cap*sz/\cur.toList.take (l.length*sz)=l.flatMap enc/\pts g (.cells cur e) h
section
variable {w0 w:World}{L:List M5}{α:Type}{e:TypeId}{sz:Nat}{enc:α->List Value}{v:Value}{l:List α}{g cap:Nat}
theorem Fit.rows(h:Fit w0 (cQ (rowOf e sz enc v l::L)) w):(v= .slice none 0 0/\l=[]/\Fit w0 (cQ L) w)∨∃g cap,v= .slice (some ⟨g,0,none⟩) l.length cap/\l.length<=cap/\Fit w0 (cQ (slc e sz enc g cap l::L)) w:=by
 obtain⟨x,hx,a,c,hd,ee,hp,q⟩:=h.sat
 rcases hp with ⟨h1,h2,h3⟩ | ⟨g,cap,cur,h1,h2,h3,h4,h5,h6⟩
 ·left
  exact⟨h1,h2,h.drop⟩
 ·right
  exact⟨g,cap,h1,h2,⟨x,hx,a,c,hd,ee,⟨h2,h3,cur,h4,h5,h6⟩,q⟩,h.os,h.tape,h.output,h.size⟩
theorem Fit.aaq(h:Fit w0 (cQ (rowOf e sz enc v l::L)) w)(hl:0<l.length) :∃g cap,v= .slice (some ⟨g,0,none⟩) l.length cap/\l.length<=cap/\Fit w0 (cQ (slc e sz enc g cap l::L)) w:=by
 rcases h.rows with ⟨_,h2,_⟩ | h
 ·rw[h2]at hl;simp at hl
 ·exact h
theorem Fit.abq{ca:Option Addr}{m cc:Nat}(h:Fit w0 (cQ (rowOf e sz enc (.slice ca m cc) l::L)) w)(hl:0<l.length) :
 ∃g,ca=some ⟨g,0,none⟩/\Fit w0 (cQ (slc e sz enc g cc l::L)) w:=by
 obtain⟨g,cap,e,_,h⟩:=h.aaq hl
 simp only[Value.slice.injEq]at e
 obtain⟨rfl,_,rfl⟩:=e
 exact⟨g,rfl,h⟩
theorem Fit.ab8(h:Fit w0 (cQ (slc e sz enc g cap l::L)) w):Fit w0 (cQ (rowOf e sz enc (.slice (some ⟨g,0,none⟩) l.length cap) l::L)) w:=
 h.head λ_ ⟨h1,h2,cur,h3,h4,h5⟩=>.inr ⟨g,cap,cur,rfl,h1,h2,h3,h4,h5⟩
theorem Fit.ZF{m:Nat}(hm:m=l.length)(h:Fit w0 (cQ (slc e sz enc g cap l::L)) w):Fit w0 (cQ (rowOf e sz enc (.slice (some ⟨g,0,none⟩) m cap) l::L)) w:=hm▸ h.ab8
theorem Fit.abr{ca:Option Addr}{m:Nat}(hca:ca=some ⟨g,0,none⟩)(hm:m=l.length)(h:Fit w0 (cQ (slc e sz enc g cap l::L)) w):Fit w0 (cQ (rowOf e sz enc (.slice ca m cap) l::L)) w:=by
 subst hca;subst hm;exact h.ab8
theorem Fit.ua(h:Fit w0 (cQ L) w):Fit w0 (cQ (rowOf e sz enc (.slice none 0 0) ([]:List α)::L)) w:=
 h.imp λx hx=>⟨Hp.none,x,Hp.u5 x,(Hp.wc x).symm,.inl ⟨rfl,rfl,rfl⟩,hx⟩
theorem Fit.VZ(h:Fit w0 (cQ (rowOf e sz enc v l::L)) w) :∃a cap,v= .slice a l.length cap/\(a=none->l=[]/\cap=0)/\l.length<=cap:=by
 rcases h.rows with ⟨rfl,rfl,_⟩ | ⟨g,cap,rfl,hc,_⟩
 ·exact⟨none,0,rfl,λ_=>⟨rfl,rfl⟩,aea _⟩
 ·exact⟨_,cap,rfl,(λh=>by cases h),hc⟩
theorem Fit.N4{ca:Option Addr}{m cc:Nat}(h:Fit w0 (cQ (rowOf e sz enc (.slice ca m cc) l::L)) w):m=l.length:=by
 obtain⟨a,cap,e,_,_⟩:=h.VZ
 simp only[Value.slice.injEq]at e
 exact e.2.1
theorem Fit.R7(h:Fit w0 (cQ (slc e sz enc g cap l::L)) w):l.length<=cap/\cap<=maxLen:=by
 obtain⟨x,hx,a,c,hd,ee,⟨h1,h2,_⟩,q⟩:=h.sat
 exact⟨h1,h2⟩
theorem Fit.P7(h:Fit w0 (cQ (slc e sz enc g cap l::L)) w) :∃cur:Array Value,cur.size=cap*sz/\cur.toList.take (l.length*sz)=l.flatMap enc/\Fit w0 (cQ (pts g (.cells cur e)::L)) w:=by
 obtain⟨x,hx,a,c,hd,ee,⟨h1,h2,cur,h3,h4,h5⟩,q⟩:=h.sat
 exact⟨cur,h3,h4,⟨x,hx,a,c,hd,ee,h5,q⟩,h.os,h.tape,h.output,h.size⟩
theorem Fit.ZG(he:QB enc sz)(h:Fit w0 (cQ (slc e sz enc g cap l::L)) w)(i f:Nat)(x:α)(u:Value)(hi:l[i]? = some x)(hf:(enc x)[f]? = some u):w.cell? ⟨g,i*sz+f,none⟩=some u:=by
 obtain⟨cur,h1,h2,h3⟩:=h.P7
 have hfs:f<sz:=by rw[<-he.len x];exact(List.getElem?_eq_some_iff.1 hf).1
 have J7:i<l.length:=(List.getElem?_eq_some_iff.1 hi).1
 refine h3.cell _ ?_
 have h4:=he.get l i f x hi hfs
 rw[<-h2,List.getElem?_take]at h4
 have:i*sz+f<l.length*sz:=by
  have:(i+1)*sz<=l.length*sz:=afm _ J7
  rw[afz]at this
  omega
 rw[au this,hf]at h4
 simpa using h4
theorem Fit.aar(h:Fit w0 (cQ (slc e sz enc g cap l::L)) w)(j:Nat):w.frozen? ⟨g,j,none⟩=false:=by
 obtain⟨cur,h1,h2,h3⟩:=h.P7
 exact h3.free j
theorem W4{β:Type}(cur xs:List β)(n i:Nat)(v:β)(h:cur.take n=xs)(_hi:i<n):(cur.set i v).take n=xs.set i v:=by
 subst h
 rw[List.take_set]
theorem abt{β:Type}(A B C:List β)(k f:Nat)(u:β)(hk:k=A.length)(hf:f<B.length):(A++B++C).set (k+f) u=A++B.set f u++C:=by
 subst hk
 rw[aeA,List.set_append_right _ _ (by omega),show A.length+f-A.length=f by omega,List.set_append_left _ _ hf,aeA]
theorem Fit.abu(he:QB enc sz)(h:Fit w0 (cQ (slc e sz enc g cap l::L)) w)(i f:Nat)(x y:α)(u:Value)(hi:l[i]? = some x)(hf:f<sz)(hy:enc y=(enc x).set f u) :
 Fit w0 (cQ (slc e sz enc g cap (l.set i y)::L)) (w.setCell ⟨g,i*sz+f,none⟩ u):=by
 obtain⟨Jv,HH⟩:=h.R7
 obtain⟨cur,h1,h2,h3⟩:=h.P7
 have J7:i<l.length:=(List.getElem?_eq_some_iff.1 hi).1
 refine(h3.set (i*sz+f) u).head λz hz=>⟨by simpa using Jv,HH,cur.setIfInBounds (i*sz+f) u,by simpa using h1,?_,hz⟩
 have hlt:i*sz+f<l.length*sz:=by
  have:(i+1)*sz<=l.length*sz:=afm _ J7
  rw[afz]at this
  omega
 have sg:l.set i x=l:=by
  apply afS
  intro j
  by_cases hj:i=j
  ·subst hj;rw[List.getElem?_set_self J7,hi]
  ·rw[List.getElem?_set_ne hj]
 have hA:((l.flatMap enc).take (i*sz)).length=i*sz:=by
  have hle:i*sz<=l.length*sz:=afm _ (Nat.le_of_lt J7)
  rw[afA,he.flat];exact afX hle
 have e1:=he.set l i x J7
 rw[sg]at e1
 rw[Array.toList_setIfInBounds,acG,W4 _ _ _ _ _ h2 hlt,he.set l i y J7,hy]
 conv=>lhs;rw[e1]
 exact abt _ _ _ _ _ _ hA.symm (by rw[he.len];exact hf)
end
section
variable {P:Program}{w0 w:World}{L:List M5}{α:Type}{e:TypeId}{sz:Nat}{enc:α->List Value}{v:Value}{l:List α}
theorem V5(he:QB enc sz)(t ty:TypeId)(i:TypeInfo)(z:Value)(bytes:Nat)(ht:P.underlying t=some (.slice e))(hi:P.info? e=some i)(hz:i.zero=some z)
 (hsize:i.size=sz) (hby:i.bytes=bytes) (hzs:z.cells.size=sz) (h:Fit w0 (cQ (rowOf e sz enc v l::L)) w)
 (ad:Addr) (m c:Nat) (news:List α) (hm:news.length=m) (hnews:∀j u,(news.flatMap enc)[j]? = some u->w.cell? (ad.add j)=some u)
 (h63:l.length+m<=maxLen) (hbytes:(l.length+m)*bytes<=140737488355328) :
 ∃v' w',(Builtin.append_ #[t,t] ty #[v,.slice (some ad) m c]).run P w= .ok v' w'/\Fit w0 (cQ (rowOf e sz enc v' (l++news)::L)) w':=by
 subst hsize
 subst hby
 have hlen:(news.flatMap enc).length=m*i.size:=by rw[he.flat,hm]
 have abv:((l.length+m:Nat):Int)<=9223372036854775807:=by simp only[maxLen]at h63;omega
 have grown:∀old,old<l.length+m->Fit w0 (cQ L) w->
  Fit w0 (cQ (rowOf e i.size enc (.slice (some ⟨w.heap.size,0,none⟩) (l.length+m) (grownCap w (l.length+m) old e)) (l++news)::L))
   (w.drew.alloc (.cells ((l.flatMap enc).toArray++(news.flatMap enc).toArray++Builtin.zeroCells z.cells (grownCap w (l.length+m) old e-(l.length+m))) e)):=by
  intro old ho hF
  have hge:=grownCap_ge w (l.length+m) old e
  have hcm:grownCap w (l.length+m) old e<=maxLen:=grownCap_le_maxLen w (l.length+m) old e h63
  refine(hF.drew.alloc _).head λx hx=>.inr ⟨w.heap.size,_,_,by rw[ad9,hm],by rw[ad9,hm];exact hge,hcm,?_,?_,hx⟩
  ·simp only[Array.size_append,af9,size_zeroCells,hzs,he.flat,hm,<-afz]
   congr 1
   omega
  ·rw[age,ad9,hm]
   simp only[Array.toList_append]
   rw[show(l.length+m)*i.size=((l.flatMap enc)++(news.flatMap enc)).length by rw[ad9,hlen,he.flat,afz]]
   exact agi
 rcases h.rows with ⟨rfl,rfl,hF⟩ | ⟨g,cap,rfl,hc,hF⟩
 ·by_cases hm0:m=0
  ·subst hm0
   have hn:news=[]:=agr hm
   subst hn
   refine⟨.slice none 0 0,w,?_,hF.ua⟩
   simp[Builtin.append_,run_underlying ht,sizeOf,typeInfo,hi,Builtin.lenOf,Builtin.firstCells,loadCells,loadCellsFrom]
  ·have hr:=run_append_nil (P:=P) w t ty e i z ht hi hz ad m c (news.flatMap enc) hlen hnews (by omega) (by simp at abv;omega) (by have hb:=hbytes;simp only[afY,af3]at hb;omega)
   have hg:=grown 0 (by omega) hF
   simp only[afY,af3,afU,List.flatMap_nil,Array.empty_append]at hg
   exact⟨_,_,hr,by simpa using hg⟩
 ·obtain⟨cur,hs,KV,hP⟩:=hF.P7
  obtain⟨_,hcm⟩:=hF.R7
  by_cases hroom:l.length+m<=cap
  ·have hfit:l.length*i.size+(news.flatMap enc).length<=cur.size:=by rw[hlen,hs,<-afz];exact afm _ hroom
   have hr:=run_append_room (P:=P) w t ty e i ht hi g l.length cap cur hP.block ad m c (news.flatMap enc) hlen hnews (he.Sv news) hroom hfit
   refine⟨_,_,hr,?_⟩
   refine(hP.turn (w':=w.setRow g (cur.toList.take (l.length*i.size)++news.flatMap enc++cur.toList.drop (l.length*i.size+(news.flatMap enc).length)).toArray) (setRow_heap w g cur _ e _ hP.block) (λk hk _=>setRow_other w g k _ hk) rfl rfl rfl (by simp)).head ?_
   intro x hx
   refine .inr ⟨g,cap,_,by rw[ad9,hm],by rw[ad9,hm];exact hroom,hcm,?_,?_,hx⟩
   ·simp only[af9,ad9,afA,af4,afB]
    omega
   ·rw[KV,age,ad9,hm]
    rw[show(l.length+m)*i.size=((l.flatMap enc)++(news.flatMap enc)).length by rw[ad9,hlen,he.flat,afz]]
    exact agi
  ·have holds:∀j u,(l.flatMap enc)[j]? = some u->w.cell? ((⟨g,0,none⟩:Addr).add j)=some u:=by
    intro j u hu
    rw[afL,af3]
    refine hP.cell j ?_
    rw[<-KV,List.getElem?_take]at hu
    split at hu
    ·simpa using hu
    ·cases hu
   have hr:=run_append_grow (P:=P) w t ty e i z ht hi hz ⟨g,0,none⟩ l.length cap (l.flatMap enc) (he.flat l) holds ad m c (news.flatMap enc) hlen hnews (by omega) abv (growslice_fits (by omega) hbytes)
   exact⟨_,_,hr,grown cap (by omega) hP.drop⟩
end
end SL
end
section
namespace GX
open Go Go.RowKit SL
def lk:List (Nat×Value)->(Nat->Value)->Nat->Value
 | [],j,t=>j t
 | (k,v)::r,j,t=>bif Nat.beq t k then v else lk r j t
def po(e:Nat->Value):Operand->Value
 | .tmp t=>e t
 | .const v=>v
 | .global g=>.pointer (some ⟨g,0,none⟩)
 | .func f=>.func (.func f) #[] #[]
structure fy(D:List Deferred)(n:Nat)(e:Nat->Value)(a:Act):Prop where
 size:a.tmps.size=n
 get:∀t,a.tmps.getD t undef=e t
 defers:a.defers=D
abbrev Gk(n:Nat)(e:Nat->Value)(a:Act):Prop:=fy [] n e a
section
variable {P:Program}{ops:Array Oper}{Q:Exit->Act->World->Prop}{a:Act}{w w0 w1:World}{rest:List Oper}{o:Oper}{n d t:Nat}{v:Value}{l:List (Nat×Value)}{j e:Nat->Value}{L:List M5}{H:M5}{Df:List Deferred}
theorem fy.eval(h:fy Df n e a):a.eval=po e:=by
 funext x
 cases x with
 | tmp t=>exact h.get t
 | _=>rfl
theorem fy.put(h:fy Df n (lk l j) a)(d:Nat)(v:Value)(hd:Nat.blt d n=true):fy Df n (lk ((d,v)::l) j) (a.put (some d) v):=by
 have hd':d<a.tmps.size:=by rw[h.size];exact aei hd
 refine⟨by simp[Act.put,h.size],λt => ?_,h.defers⟩
 show(a.tmps.setIfInBounds d v).getD t undef=bif Nat.beq t d then v else lk l j t
 rw[<-h.get t]
 by_cases e:t=d
 ·subst e
  simp[afO,hd']
 ·have hb:Nat.beq t d=false:=by
   cases hb:Nat.beq t d with
   | false=>rfl
   | true=>exact absurd (agM hb) e
  rw[hb]
  simp[afO,Array.getElem?_setIfInBounds_ne (Ne.symm e)]
def allEq(e:Nat->Value):List (Nat×Value)->Prop
 | []=>True
 | (t,v)::r=>e t=v/\allEq e r
theorem lX:∀{l:List (Nat×Value)},allEq e l->lk l e=e
 | [],_=>rfl
 | (k,v)::r,h=>by
  funext t
  show(bif Nat.beq t k then v else lk r e t)=e t
  rw[lX h.2]
  cases hb:Nat.beq t k with
  | false=>rfl
  | true=>have:=agM hb;subst this;exact h.1.symm
theorem fy.fold(h:fy Df n e a)(l:List (Nat×Value))(hl:allEq e l) :∃j,fy Df n (lk l j) a:=⟨e,by rw[lX hl];exact h⟩
theorem wn(h:o.guard=none):Region.wanted o (yielded ops a.tmps)=true:=by simp[Region.wanted,h]
theorem wg{i:Nat}{b b':Bool}(hr:fy Df n e a)(hg:o.guard=some (i,b))(hi:(ops[i]?).bind (·.dst)=some t)(ht:Nat.blt t n=true)(he:e t= .bool b') :
 Region.wanted o (yielded ops a.tmps)=(b'==b):=by
 have ht':t<a.tmps.size:=by rw[hr.size];exact aei ht
 have hg2:a.tmps[t]? = some (.bool b'):=by
  have:=hr.get t
  rw[he,afO,Array.getElem?_eq_getElem ht']at this
  rw[Array.getElem?_eq_getElem ht']
  simpa using this
 simp only[Region.wanted,hg,yielded,hi,Option.bind_some,hg2]
 cases b'<;>cases b<;>rfl
theorem uc(hw:Region.wanted o (yielded ops a.tmps)=true)(h:o.wp P a w (wpList P ops Q rest) Q):wpList P ops Q (o::rest) a w:=by
 unfold wpList
 rw[au hw]
 exact .inl h
theorem wh(hw:Region.wanted o (yielded ops a.tmps)=true)(hd:o.dst=some d)(hn:Nat.blt d n=true)(hr:fy Df n (lk l j) a)
 (hrun:(execOp (po (lk l j)) o).run P w= .ok (.value v) w) (k:∀a,fy Df n (lk ((d,v)::l) j) a->wpList P ops Q rest a w):wpList P ops Q (o::rest) a w:=by
 refine uc hw ?_
 unfold Oper.wp
 rw[hr.eval,hrun,Oper.upon_value,hd]
 exact k _ (hr.put d v hn)
theorem Qg(hw:Region.wanted o (yielded ops a.tmps)=true)(hd:o.dst=some d)(hn:Nat.blt d n=true)(hr:fy Df n (lk l j) a)
 (hrun:(execOp (po (lk l j)) o).run P w= .ok (.value v) w1) (k:∀a,fy Df n (lk ((d,v)::l) j) a->wpList P ops Q rest a w1):wpList P ops Q (o::rest) a w:=by
 refine uc hw ?_
 unfold Oper.wp
 rw[hr.eval,hrun,Oper.upon_value,hd]
 exact k _ (hr.put d v hn)
theorem UD(hw:Region.wanted o (yielded ops a.tmps)=true)(hd:o.dst=none)(hr:fy Df n (lk l j) a)
 (hrun:(execOp (po (lk l j)) o).run P w= .ok .skip w1) (k:wpList P ops Q rest a w1):wpList P ops Q (o::rest) a w:=by
 refine uc hw ?_
 unfold Oper.wp
 rw[hr.eval,hrun,Oper.upon_skip,hd]
 exact k
theorem Y7(hw:Region.wanted o (yielded ops a.tmps)=false)(hd:o.dst=some d)(hn:Nat.blt d n=true)(hr:fy Df n (lk l j) a)
 (k:∀a,fy Df n (lk ((d,undef)::l) j) a->wpList P ops Q rest a w):wpList P ops Q (o::rest) a w:=by
 unfold wpList
 rw[iM_ hw,hd]
 exact k _ (hr.put d undef hn)
theorem Y8{cs:Array Value}{T:TypeId}{vf:Nat->Value}(hw:Region.wanted o (yielded ops a.tmps)=true)(hd:o.dst=some d)(hn:Nat.blt d n=true)(hr:fy Df n (lk l j) a)(hF:Fit w0 (cQ L) w)
 (hrun:(execOp (po (lk l j)) o).run P w= .ok (.value (vf w.heap.size)) (w.alloc (.cells cs T)))
 (k:∀b w1 a,Fit w0 (cQ (pts b (.cells cs T)::L)) w1->fy Df n (lk ((d,vf b)::l) j) a->wpList P ops Q rest a w1):wpList P ops Q (o::rest) a w:=
 Qg hw hd hn hr hrun λ_ Xq=>k _ _ _ (hF.alloc _) Xq
theorem ng{f:FuncId}{args:Array Value}{R:Ending->World->Prop}(hw:Region.wanted o (yielded ops a.tmps)=true)(hd:o.dst=some d)(hn:Nat.blt d n=true)(hr:fy Df n (lk l j) a)
 (hrun:(execOp (po (lk l j)) o).run P w= .ok (.enter f args) w) (hc:Calls P f args w R)
 (k:∀e w1,R e w1->∃v,e= .returned v/\∀a,fy Df n (lk ((d,v)::l) j) a->wpList P ops Q rest a w1):wpList P ops Q (o::rest) a w:=by
 refine uc hw ?_
 unfold Oper.wp
 rw[hr.eval,hrun,Oper.upon_enter,hd]
 refine hc.mono λe w1 h => ?_
 obtain⟨v,rfl,h2⟩:=k e w1 h
 exact h2 _ (hr.put d v hn)
theorem rb{b c:Bool}{s:Sem Next}{w w':World}(h:s.run P w= .ok (.value (.bool b)) w')(hz:b=c):s.run P w= .ok (.value (.bool c)) w':=hz▸ h
theorem i64_in(x:Int)(h:-9223372036854775808<=x/\x<=9223372036854775807):IntKind.i64.wrap x=x:=IntWalk.i64_in _ h
def SR:Option TypeDesc->Bool
 | some (.struct _)=>false
 | some (.array _ _)=>false
 | some _=>true
 | none=>false
theorem XG{t:TypeId}(h:SR (P.underlying t)=true):(isAgg t).run P w= .ok false w:=by
 cases hu:P.underlying t with
 | none=>rw[hu]at h;cases h
 | some D =>
  rw[hu]at h
  simp only[isAgg,aee,run_underlying hu,aef]
  cases D<;>first | rfl | cases h
theorem rl{x:Operand}{ad:Addr}(ho:o.op= .load t x)(hx:po e x= .pointer (some ad))(hu:SR (P.underlying t)=true)(hc:w.cell? ad=some v) :
 (execOp (po e) o).run P w= .ok (.value v) w:=by
 unfold execOp
 simp only[ho,Instr.loadAt,hx,Instr.sureAddr,loadVar,aee,afu,aef,XG hu]
 simp[go_sem,hc]
theorem rs{x y:Operand}{ad:Addr}{u:Value}(ho:o.op= .store t x y)(hx:po e x= .pointer (some ad))(hy:po e y=v)(hv:v.cells=#[v])(h1:v.oneCell'=true)(hs:(P.info? t).map (·.size)=some 1)(hc:w.cell? ad=some u)(hf:w.frozen? ad=false) :
 (execOp (po e) o).run P w= .ok .skip (w.setCell ad v):=by
 have hst:(Instr.storeAt t (.pointer (some ad)) v).run P w= .ok () (w.setCell ad v):=by
  cases hi:P.info? t with
  | none=>simp[hi]at hs
  | some i =>
   simp[hi]at hs
   have ha:ad.add 0=ad:=by unfold Addr.add;rw[au rfl]
   simp only[Instr.storeAt,Instr.sureAddr,storeVar,aee,afu,aef,sizeOf,typeInfo,hv,run_program,hi]
   simp[storeCells,ha,hs,run_store P w ad v _ h1,hc,hf]
 unfold execOp
 simp only[ho,hx,hy,aee,hst,aef,afu]
theorem W5{c x y:Operand}{b:Bool}(ho:o.op= .pick c x y)(hc:po e c= .bool b)(hb:b=true)(hx:po e x=v):(execOp (po e) o).run P w= .ok (.value v) w:=by
 subst hb;subst hx
 unfold execOp
 simp[ho,hc,asBool]
theorem XH{c x y:Operand}{b:Bool}(ho:o.op= .pick c x y)(hc:po e c= .bool b)(hb:b=false)(hx:po e y=v):(execOp (po e) o).run P w= .ok (.value v) w:=by
 subst hb;subst hx
 unfold execOp
 simp[ho,hc,asBool]
theorem ri{x y:Operand}{g off len cap:Nat}{k:IntKind}{i:Int}{E:TypeId}{sz:Nat}(ho:o.op= .indexAddr t x y)(hx:po e x= .slice (some ⟨g,off,none⟩) len cap)(hy:po e y= .int k i)
 (ht:P.underlying t=some (.slice E)) (hs:(P.info? E).map (·.size)=some sz) (h0:0<=i) (h1:i<len):(execOp (po e) o).run P w= .ok (.value (.pointer (some ⟨g,off+i.toNat*sz,none⟩))) w:=by
 unfold execOp
 simp only[ho,hx,hy]
 cases hi:P.info? E with
 | none=>simp[hi]at hs
 | some q =>
  simp[hi]at hs
  simp[Instr.indexAt,run_underlying ht,asIntOf,h0,h1,sizeOf,typeInfo,hi,hs,afL]
theorem ri0{x y:Operand}{g len cap:Nat}{k:IntKind}{i:Int}{E:TypeId}{sz:Nat}(ho:o.op= .indexAddr t x y)(hx:po e x= .slice (some ⟨g,0,none⟩) len cap)(hy:po e y= .int k i)
 (ht:P.underlying t=some (.slice E)) (hs:(P.info? E).map (·.size)=some sz) (h0:0<=i) (h1:i<len):(execOp (po e) o).run P w= .ok (.value (.pointer (some ⟨g,i.toNat*sz,none⟩))) w:=by
 have:=ri (w:=w) ho hx hy ht hs h0 h1
 rwa [af3]at this
theorem ack{x y:Operand}{g len cap:Nat}{ca:Option Addr}{k:IntKind}{i:Int}{E:TypeId}{sz:Nat}(hca:ca=some ⟨g,0,none⟩)(ho:o.op= .indexAddr t x y)(hx:po e x= .slice ca len cap)(hy:po e y= .int k i)
 (ht:P.underlying t=some (.slice E)) (hs:(P.info? E).map (·.size)=some sz) (h0:0<=i) (h1:i<len):(execOp (po e) o).run P w= .ok (.value (.pointer (some ⟨g,i.toNat*sz,none⟩))) w:=
 ri0 ho (hca▸ hx) hy ht hs h0 h1
theorem rie{x y:Operand}{g off len cap:Nat}{ca:Option Addr}{k:IntKind}{i:Int}{E:TypeId}{sz:Nat}(hca:ca=some ⟨g,off,none⟩)(ho:o.op= .indexAddr t x y)(hx:po e x= .slice ca len cap)(hy:po e y= .int k i)
 (ht:P.underlying t=some (.slice E)) (hs:(P.info? E).map (·.size)=some sz) (h0:0<=i) (h1:i<len):(execOp (po e) o).run P w= .ok (.value (.pointer (some ⟨g,off+i.toNat*sz,none⟩))) w:=
 ri ho (hca▸ hx) hy ht hs h0 h1
theorem aas{x y:Operand}{k:IntKind}{p q:Int}{T T':TypeId}(ho:o.op= .binOp .rem T x y T')(hx:po e x= .int k p)(hy:po e y= .int k q)(hq:q≠0):(execOp (po e) o).run P w= .ok (.value (.int k (p.tmod q))) w:=by
 unfold execOp
 simp[ho,hx,hy,eqGuard,binOp,Op.intDiv,hq]
theorem adL{x y:Operand}{k:IntKind}{p q:Int}{T T':TypeId}(ho:o.op= .binOp .quo T x y T')(hx:po e x= .int k p)(hy:po e y= .int k q)(hq:q≠0):(execOp (po e) o).run P w= .ok (.value (.int k (k.wrap (p.tdiv q)))) w:=by
 unfold execOp
 simp[ho,hx,hy,eqGuard,binOp,Op.intDiv,hq]
theorem q8{K:Act->World->Prop}(h:K a w):Exit.then K Q .normal a w:=h
theorem V6{i:Nat}(h:Q .normal a w):Exit.inBlock i Q .normal a w:=h
theorem aat{i:Nat}(h:Q .normal a w):Exit.inBlock i Q (.exit i) a w:=by show(if i=i then _ else _);rw[au rfl];exact h
theorem U9{i i':Nat}(hne:i'≠i)(h:Q (.exit i') a w):Exit.inBlock i Q (.exit i') a w:=by show(if i'=i then _ else _);rw[aj hne];exact h
theorem AH{c:Operand}{x y:Code}{b:Bool}(hr:fy Df n e a)(hc:po e c= .bool b)(hb:b=true)(h:x.wp P Q a w):(Code.cond c x y).wp P Q a w:=
 wp_cond_true (by rw[hr.eval,hc,hb]) h
theorem AJ{c:Operand}{x y:Code}{b:Bool}(hr:fy Df n e a)(hc:po e c= .bool b)(hb:b=false)(h:y.wp P Q a w):(Code.cond c x y).wp P Q a w:=
 wp_cond_false (by rw[hr.eval,hc,hb]) h
theorem NB{β:Type}{c:Code}(μ:β->Nat)(I:β->Act->World->Prop)(x0:β)(h0:I x0 a w)
 (round:∀x a w,I x a w->c.wp P (Exit.then (λa w =>∃x',I x' a w/\μ x'<μ x) Q) a w):(Code.loop c).wp P Q a w:=by
 have key:∀m x a w,μ x=m->I x a w->∀b k cs,∃e a' w',Q e a' w'/\Arrives P (lone (b.at a (.code c:: .inLoop c::k)) cs w) b k cs e a' w':=by
  intro m
  induction m using Nat.strongRecOn with
  | _ m ih =>
   intro x a w hm hI b k cs
   obtain⟨e,a1,w1,hq,Ym⟩:=round x a w hI b (.inLoop c::k) cs
   cases e with
   | normal =>
    obtain⟨x',hI',hlt⟩:=hq
    obtain⟨e2,a2,w2,hq2,ac1⟩:=ih (μ x') (hm▸ hlt) x' a1 w1 rfl hI' b k cs
    exact⟨e2,a2,w2,hq2,.of_steps (Steps.trans Ym (.one step_inLoop)) ac1⟩
   | exit id=>exact⟨_,a1,w1,hq,.pass (x:=.inLoop c) rfl (λ_ _=>.inl (by simp)) Ym⟩
   | goto l=>exact⟨_,a1,w1,hq,.pass (x:=.inLoop c) rfl (λ_ _=>.inl (by simp)) Ym⟩
   | ret=>exact⟨_,a1,w1,hq,.pass (x:=.inLoop c) rfl (λ_ _=>.inl (by simp)) Ym⟩
   | panic ch=>exact⟨_,a1,w1,hq,.pass (x:=.inLoop c) rfl (λ_ _=>.inl (by simp)) Ym⟩
   | outgrown=>exact⟨_,a1,w1,hq,.pass (x:=.inLoop c) rfl (λ_ _=>.inl (by simp)) Ym⟩
 intro b k cs
 obtain⟨e,a',w',hq,Ym⟩:=key _ x0 a w rfl h0 b k cs
 exact⟨e,a',w',hq,.of_steps (.one step_loop) Ym⟩
theorem Nn{β:Type}{x y:Code}(I:β->Act->World->Prop)(h:x.wp P (Exit.then (λa w =>∃g,I g a w) Q) a w)(k:∀g a w,I g a w->y.wp P Q a w):(Code.seq x y).wp P Q a w:=
 wp_seq (Code.wp_mono (λe a w q=>by
  cases e with
  | normal=>obtain⟨g,hg⟩:=q;exact k g a w hg
  | _=>exact q) h)
theorem wj(args:Array Value)(m t:Nat):(args++Array.replicate m undef).getD t undef=args.getD t undef:=by
 simp only[afO,Array.getElem?_append,Array.getElem?_replicate]
 by_cases h:t<args.size
 ·rw[au h]
 ·rw[aj h,Array.getElem?_eq_none (by omega)]
  split<;>rfl
theorem enter{f:FuncId}{fn:Func}{c:Code}{args:Array Value}{R:Ending->World->Prop}(hf:P.funcs[f]? = some fn)(hb:fn.body=some c)(n:Nat)(hn:fn.ntmps=n)(hs:Nat.ble args.size n=true)
 (l:List (Nat×Value)) (hl:allEq (λt=>args.getD t undef) l) (k:∀j a,Gk n (lk l j) a->c.wp P (bodyPost P fn R) a w):Calls P f args w R:=by
 refine calls_of_wp hf hb (k (λt=>args.getD t undef) _ ?_)
 rw[lX hl]
 refine⟨?_,λt=>wj args _ t,rfl⟩
 have:=aei hs
 simp[hn]
 omega
theorem NI{fn:Func}{R:Ending->World->Prop}{t:Nat}(hres:fn.results=#[.tmp t])(hr:Gk n e a)(hv:e t=v)(h:R (.returned v) w):bodyPost P fn R .ret a w:=
 bodyPost_ret (by rw[results_tmp hres,hr.get,hv]) hr.defers h
theorem PG{fn:Func}{R:Ending->World->Prop}{t t':Nat}{v':Value}(hres:fn.results=#[.tmp t,.tmp t'])(hr:Gk n e a)(hv:e t=v)(hv':e t'=v')(h:R (.returned (.tuple #[v,v'])) w):bodyPost P fn R .ret a w:=
 bodyPost_ret (by rw[results_tmp2 hres,hr.get,hr.get,hv,hv']) hr.defers h
theorem Yn{fn:Func}{R:Ending->World->Prop}(hres:fn.results=#[])(hr:Gk n e a)(h:R (.returned (.tuple #[])) w):bodyPost P fn R .ret a w:=
 bodyPost_ret (results_none hres _ _ _) hr.defers h
theorem ve{fn:Func}{R:Ending->World->Prop}(hres:fn.results=#[])(hr:Gk n e a)(h:R (.returned (.tuple #[])) w):bodyPost P fn R .normal a w:=
 bodyPost_end (results_none hres _ _ _) hr.defers h
end
def ag{α:Type}[Inhabited α](l:List α)(i:Nat):α:=l.getD i default
theorem get_at{α:Type}[Inhabited α]{l:List α}{i:Nat}(h:i<l.length):l[i]? = some (ag l i):=by
 unfold ag;rw[List.getD_eq_getElem?_getD,List.getElem?_eq_getElem h];rfl
theorem iN{α:Type}[Inhabited α]{l:List α}{i:Nat}{x:α}(h:i<l.length):ag (l.set i x) i=x:=by
 unfold ag;rw[List.getD_eq_getElem?_getD,List.getElem?_set_self h];rfl
theorem Sw{α:Type}[Inhabited α]{l:List α}{i k:Nat}{x:α}(h:i≠k):ag (l.set i x) k=ag l k:=by
 unfold ag;rw[List.getD_eq_getElem?_getD,List.getElem?_set_ne h,List.getD_eq_getElem?_getD]
theorem gU{α:Type}[Inhabited α]{l m:List α}{i:Nat}(h:i<l.length):ag (l++m) i=ag l i:=by
 unfold ag;rw[List.getD_eq_getElem?_getD,List.getElem?_append_left h,List.getD_eq_getElem?_getD]
theorem jR{α:Type}[Inhabited α]{l m:List α}{i:Nat}(h:l.length<=i):ag (l++m) i=ag m (i-l.length):=by
 unfold ag;rw[List.getD_eq_getElem?_getD,List.getElem?_append_right h,List.getD_eq_getElem?_getD]
theorem Nw{α:Type}{l:List α}{i:Nat}{x:α}(h:i<l.length):(l.set i x)[i]? = some x:=List.getElem?_set_self h
def lI(w:World)(b:Nat):Nat->List Value->Prop
 | _,[]=>True
 | off,v::r=>w.cell? ⟨b,off,none⟩=some v/\lI w b (off+1) r
theorem RC{w:World}{b:Nat}:∀{cs:List Value} {off:Nat},lI w b off cs->∀j v,cs[j]? = some v->w.cell? ((⟨b,off,none⟩:Addr).add j)=some v
 | [],_,_,j,v,h=>by simp at h
 | u::r,off,hh,j,v,h=>by
  cases j with
  | zero=>simp at h;subst h;rw[afL];exact hh.1
  | succ j =>
   have:=RC hh.2 j v (by simpa using h)
   rw[afL]at this⊢
   rw[show off+(j+1)=off+1+j by omega]
   exact this
section
variable {P:Program}{ops:Array Oper}{Q:Exit->Act->World->Prop}{a:Act}{w w0 w1:World}{rest:List Oper}{o:Oper}{n d t:Nat}{v:Value}{l:List (Nat×Value)}{j e:Nat->Value}{L:List M5}{H:M5}{Df:List Deferred}
def Rs:Option TypeDesc->Bool
 | some (.struct _)=>true
 | some (.array _ _)=>true
 | _=>false
theorem Rf{t:TypeId}(h:Rs (P.underlying t)=true):(isAgg t).run P w= .ok true w:=by
 cases hu:P.underlying t with
 | none=>rw[hu]at h;cases h
 | some D =>
  rw[hu]at h
  simp only[isAgg,aee,run_underlying hu,aef]
  cases D<;>first | rfl | cases h
theorem rlm{x:Operand}{b off:Nat}{cs:List Value}(ho:o.op= .load t x)(hx:po e x= .pointer (some ⟨b,off,none⟩))(hu:Rs (P.underlying t)=true)
 (hs:(P.info? t).map (·.size)=some cs.length) (hc:lI w b off cs):(execOp (po e) o).run P w= .ok (.value (.agg cs.toArray)) w:=by
 have hl:=run_loadCells_list (P:=P) w ⟨b,off,none⟩ cs (RC hc)
 unfold execOp
 cases hi:P.info? t with
 | none=>simp[hi]at hs
 | some q =>
  simp[hi]at hs
  simp only[ho,Instr.loadAt,hx,Instr.sureAddr,loadVar,aee,afu,aef,Rf hu,if_true,sizeOf,typeInfo,run_program,hi,hs,hl]
theorem aau{fn:Func}{R:Ending->World->Prop}{t T b off:Nat}{cs:List Value}(hres:fn.results=#[.cell t T])(hr:Gk n e a)(hv:e t= .pointer (some ⟨b,off,none⟩))(hu:Rs (P.underlying T)=true)
 (hs:(P.info? T).map (·.size)=some cs.length) (hc:lI w b off cs) (h:R (.returned (.agg cs.toArray)) w):bodyPost P fn R .ret a w:=by
 have hl:=run_loadCells_list (P:=P) w ⟨b,off,none⟩ cs (RC hc)
 refine bodyPost_ret ?_ hr.defers h
 cases hi:P.info? T with
 | none=>simp[hi]at hs
 | some q =>
  simp[hi]at hs
  have hg:=hr.get t
  rw[hv,afO]at hg
  simp[results,hres,hg,asAddr,loadVar,Rf hu,sizeOf,typeInfo,hi,hs,hl]
theorem NH{fn:Func}{R:Ending->World->Prop}{t T b off u:Nat}{cs:List Value}(hres:fn.results=#[.cell t T,.tmp u])(hr:Gk n e a)(hv:e t= .pointer (some ⟨b,off,none⟩))(hv':e u=v)(hu:Rs (P.underlying T)=true)
 (hs:(P.info? T).map (·.size)=some cs.length) (hc:lI w b off cs) (h:R (.returned (.tuple #[.agg cs.toArray,v])) w):bodyPost P fn R .ret a w:=by
 have hl:=run_loadCells_list (P:=P) w ⟨b,off,none⟩ cs (RC hc)
 refine bodyPost_ret ?_ hr.defers h
 cases hi:P.info? T with
 | none=>simp[hi]at hs
 | some q =>
  simp[hi]at hs
  have hg:=hr.get t
  rw[hv,afO]at hg
  have wF:=hr.get u
  rw[hv',afO]at wF
  simp[results,hres,hg,wF,asAddr,loadVar,Rf hu,sizeOf,typeInfo,hi,hs,hl]
theorem aav{x y:Operand}{b i:Nat}{cs:Array Value}{T:TypeId}{u:Value}(hw:Region.wanted o (yielded ops a.tmps)=true)(hd:o.dst=none)(hr:fy Df n (lk l j) a)(ho:o.op= .store t x y)
 (hx:po (lk l j) x= .pointer (some ⟨b,i,none⟩)) (hy:po (lk l j) y=v) (hv:v.cells=#[v]) (h1:v.oneCell'=true) (hs:(P.info? t).map (·.size)=some 1)
 (hF:Fit w0 (cQ (pts b (.cells cs T)::L)) w) (hc:cs[i]? = some u) (k:∀w1,Fit w0 (cQ (pts b (.cells (cs.setIfInBounds i v) T)::L)) w1->wpList P ops Q rest a w1):wpList P ops Q (o::rest) a w:=
 UD hw hd hr (rs ho hx hy hv h1 hs (hF.cell i hc) (hF.free i)) (k _ (hF.set i v))
theorem Xr{x y:Operand}{b:Nat}{cs cs':Array Value}{T:TypeId}{vs:List Value}(hw:Region.wanted o (yielded ops a.tmps)=true)(hd:o.dst=none)(hr:fy Df n (lk l j) a)(ho:o.op= .store t x y)
 {i:Nat} (hx:po (lk l j) x= .pointer (some ⟨b,i,none⟩)) (hy:po (lk l j) y= .agg vs.toArray) (h1:vs.all (·.oneCell')=true) (hfit:Nat.ble (i+vs.length) cs.size=true) (hs:(P.info? t).map (·.size)=some vs.length)
 (hF:Fit w0 (cQ (pts b (.cells cs T)::L)) w) (hcs:(cs.toList.take i++vs++cs.toList.drop (i+vs.length)).toArray=cs') (k:∀w1,Fit w0 (cQ (pts b (.cells cs' T)::L)) w1->wpList P ops Q rest a w1):wpList P ops Q (o::rest) a w:=by
 have hst:=run_storeCells_at P b i T vs 0 cs w hF.block (by simpa using aei hfit) (by simpa using h1)
 simp only[agj,hcs]at hst
 refine UD (w1:=w.setRow b cs') hw hd hr ?_ (k _ ?_)
 ·unfold execOp
  cases hi:P.info? t with
  | none=>simp[hi]at hs
  | some q =>
   simp[hi]at hs
   simp only[ho,hx,hy,Instr.storeAt,Instr.sureAddr,storeVar,aee,afu,aef,sizeOf,typeInfo,run_program,hi,Value.cells]
   simp[hs,hst]
 ·exact hF.turn (w':=w.setRow b cs') (setRow_heap w b cs cs' T (0,0) hF.block) (λk hk _=>setRow_other w b k _ hk) rfl rfl rfl (by simp)
section
variable {α:Type}{E:TypeId}{sz g cap:Nat}{enc:α->List Value}{xs:List α}
theorem XI{x y:Operand}(hw:Region.wanted o (yielded ops a.tmps)=true)(hd:o.dst=none)(hr:fy Df n (lk l j) a)(ho:o.op= .store t x y)
 {i f:Nat} (hx:po (lk l j) x= .pointer (some ⟨g,i*sz+f,none⟩)) (hy:po (lk l j) y=v) (hv:v.cells=#[v]) (h1:v.oneCell'=true) (hs:(P.info? t).map (·.size)=some 1)
 (he:QB enc sz) (hF:Fit w0 (cQ (slc E sz enc g cap xs::L)) w) {p q:α} (hp:xs[i]? = some p) (hf:f<sz) (hq:enc q=(enc p).set f v)
 (k:∀w1,Fit w0 (cQ (slc E sz enc g cap (xs.set i q)::L)) w1->wpList P ops Q rest a w1):wpList P ops Q (o::rest) a w:=by
 have hu:(enc p)[f]? = some (enc p)[f]!:=by
  have:f<(enc p).length:=by rw[he.len];exact hf
  rw[List.getElem?_eq_getElem this,List.getElem!_eq_getElem?_getD,List.getElem?_eq_getElem this]
  rfl
 exact UD hw hd hr (rs ho hx hy hv h1 hs (hF.ZG he i f p _ hp hu) (hF.aar _)) (k _ (hF.abu he i f p q v hp hf hq))
theorem W6{x y:Operand}{vs:List Value}(hw:Region.wanted o (yielded ops a.tmps)=true)(hd:o.dst=none)(hr:fy Df n (lk l j) a)(ho:o.op= .store t x y)
 {i:Nat} (hx:po (lk l j) x= .pointer (some ⟨g,i*sz,none⟩)) (hy:po (lk l j) y= .agg vs.toArray) (h1:vs.all (·.oneCell')=true) (hs:(P.info? t).map (·.size)=some vs.length)
 (he:QB enc sz) (hF:Fit w0 (cQ (slc E sz enc g cap xs::L)) w) {q:α} (hi:i<xs.length) (hq:enc q=vs)
 (k:∀w1,Fit w0 (cQ (slc E sz enc g cap (xs.set i q)::L)) w1->wpList P ops Q rest a w1):wpList P ops Q (o::rest) a w:=by
 obtain⟨I9,Dq⟩:=hF.R7
 obtain⟨cur,Jp,HC,hP⟩:=hF.P7
 have hvl:vs.length=sz:=by rw[<-hq,he.len]
 have hle:i*sz+sz<=xs.length*sz:=by
  have:(i+1)*sz<=xs.length*sz:=afm _ hi
  rw[afz]at this
  omega
 have acm:xs.length*sz<=cap*sz:=afm _ I9
 have hst:=run_storeCells_at P g (i*sz) E vs 0 cur w hP.block (by rw[hvl];omega) (by simpa using h1)
 simp only[agj]at hst
 refine UD (w1:=w.setRow g (cur.toList.take (i*sz)++vs++cur.toList.drop (i*sz+vs.length)).toArray) hw hd hr ?_ (k _ ?_)
 ·unfold execOp
  cases RG:P.info? t with
  | none=>simp[RG]at hs
  | some q =>
   simp[RG]at hs
   simp only[ho,hx,hy,Instr.storeAt,Instr.sureAddr,storeVar,aee,afu,aef,sizeOf,typeInfo,run_program,RG,Value.cells]
   simp[hs,hst]
 ·refine(hP.turn (w':=w.setRow g (cur.toList.take (i*sz)++vs++cur.toList.drop (i*sz+vs.length)).toArray) (setRow_heap w g cur _ E (0,0) hP.block) (λk hk _=>setRow_other w g k _ hk) rfl rfl rfl (by simp)).head λz hz=>⟨by simpa using I9,Dq,_,?_,?_,hz⟩
  ·simp only[af9,ad9,afA,af4,afB,hvl]
   omega
  ·rw[acG,he.set xs i q hi,hq,<-HC]
   have hA:(cur.toList.take (i*sz)).length=i*sz:=by rw[afA,afB];omega
   have e1:(cur.toList.take (i*sz)++vs++cur.toList.drop (i*sz+vs.length)).take (xs.length*sz)=cur.toList.take (i*sz)++vs++(cur.toList.drop (i*sz+vs.length)).take (xs.length*sz-(i*sz+sz)):=by
    rw[agz,agh (by rw[ad9,hA,hvl];exact hle),ad9,hA,hvl]
   rw[agA,e1,List.take_take,afX (by omega),agB,hvl]
theorem O9{ca:Option Addr}{n0 cc bytes:Nat}{s x:Operand}{ad:Addr}{m c:Nat}(hw:Region.wanted o (yielded ops a.tmps)=true)(hd:o.dst=some d)(hn:Nat.blt d n=true)(hr:fy Df n (lk l j) a)
 (ho:o.op= .call {callee:=.builtin .append,args:=#[s,x],argTypes:=#[t,t]}) (hs:po (lk l j) s= .slice ca n0 cc) (hx:po (lk l j) x= .slice (some ad) m c)
 (he:QB enc sz) (hty:P.underlying t=some (.slice E)) (Qe:(P.info? E).map (λi=>(i.size,i.bytes,i.zero.map (·.cells.size)))=some (sz,bytes,some sz))
 (hF:Fit w0 (cQ (rowOf E sz enc (.slice ca n0 cc) xs::L)) w) {news:List α} (hm:news.length=m) (hnews:∀j u,(news.flatMap enc)[j]? = some u->w.cell? (ad.add j)=some u)
 (hb:(xs.length+m)*bytes<=140737488355328) (YZ:Nat.blt 0 bytes=true)
 (k:∀ca cc w1 a,Fit w0 (cQ (rowOf E sz enc (.slice ca (xs++news).length cc) (xs++news)::L)) w1->fy Df n (lk ((d,.slice ca (xs++news).length cc)::l) j) a->wpList P ops Q rest a w1):wpList P ops Q (o::rest) a w:=by
 have JA:=hF.N4
 subst JA
 cases hi:P.info? E with
 | none=>simp[hi]at Qe
 | some i =>
  simp only[hi,afG,Option.some.injEq,Prod.mk.injEq]at Qe
  obtain⟨i1,i2,i3⟩:=Qe
  cases hz:i.zero with
  | none=>simp[hz]at i3
  | some zv =>
   simp only[hz,afG,Option.some.injEq]at i3
   have Yo:0<bytes:=aei YZ
   have h63:xs.length+m<=maxLen:=by
    have:xs.length+m<=(xs.length+m)*bytes:=agG _ Yo
    simp only[maxLen];omega
   obtain⟨v',w',hrun,Ui⟩:=V5 (P:=P) he t o.type i zv bytes hty hi hz i1 i2 i3 hF ad m c news hm hnews h63 hb
   obtain⟨a',cap',e,_,_⟩:=Ui.VZ
   subst e
   refine Qg hw hd hn hr ?_ (λa hr=>k a' cap' w' a Ui hr)
   unfold execOp
   simp only[ho,resolve,invoke,builtin,aee,afu,aef,agk,afZ,af5,hs,hx,hrun]
end
end
section
variable {α:Type}{sz:Nat}{enc:α->List Value}
theorem V7(he:QB enc sz)(zc:Array Value)(z0:α)(hz:zc.toList=enc z0)(n:Nat) :
 ((Array.range (n*sz)).map λi=>zc[i%zc.size]!).toList=(List.replicate n z0).flatMap enc:=by
 have hs:zc.size=sz:=by rw[<-afB,hz,he.len]
 have hpos:=he.pos
 apply afS
 intro i
 rw[Array.toList_map,Array.toList_range,List.getElem?_map]
 by_cases hi:i<n*sz
 ·have hd:i/sz<n:=(Nat.div_lt_iff_lt_mul hpos).2 hi
  have hm:i%sz<sz:=Nat.mod_lt _ hpos
  have hg:=he.get (List.replicate n z0) (i/sz) (i%sz) z0 (by rw[List.getElem?_replicate,au hd]) hm
  rw[show i/sz*sz+i%sz=i by rw[Nat.mul_comm];exact Nat.div_add_mod i sz]at hg
  rw[hg,List.getElem?_range hi,<-hz,hs]
  have hm':i%sz<zc.size:=by omega
  simp[hm']
 ·rw[List.getElem?_eq_none (by simp;omega),List.getElem?_eq_none (by rw[he.flat,aeb];omega)]
  rfl
end
section
variable {P:Program}{ops:Array Oper}{Q:Exit->Act->World->Prop}{a:Act}{w w0 w1:World}{rest:List Oper}{o:Oper}{n d t:Nat}{v:Value}{l:List (Nat×Value)}{j e:Nat->Value}{L:List M5}{H:M5}{Df:List Deferred}
variable {α:Type}{E:TypeId}{sz g cap:Nat}{enc:α->List Value}{xs:List α}
theorem ZH{bytes:Nat}{zc:Array Value}(h:(P.info? E).map (λi=>(i.size,i.bytes,i.zero.map (·.cells)))=some (sz,bytes,some zc)) :
 ∃i z,P.info? E=some i/\i.size=sz/\i.bytes=bytes/\i.zero=some z/\z.cells=zc:=by
 cases hi:P.info? E with
 | none=>simp[hi]at h
 | some i =>
  simp only[hi,afG,Option.some.injEq,Prod.mk.injEq]at h
  obtain⟨h1,h2,h3⟩:=h
  cases hz:i.zero with
  | none=>simp[hz]at h3
  | some z=>exact⟨i,z,rfl,h1,h2,hz,by simpa [hz]using h3⟩
theorem abw{x y:Operand}{c:Nat}{i:Int}{bytes:Nat}{zc:Array Value}(z0:α)(hw:Region.wanted o (yielded ops a.tmps)=true)(hd:o.dst=some d)(hn:Nat.blt d n=true)(hr:fy Df n (lk l j) a)
 (ho:o.op= .makeSlice t x y) (hx:po (lk l j) x= .int .i64 i) (hy:po (lk l j) y= .int .i64 i) (hi:i=c) (he:QB enc sz) (hty:P.underlying t=some (.slice E))
 (Qe:(P.info? E).map (λi=>(i.size,i.bytes,i.zero.map (·.cells)))=some (sz,bytes,some zc)) (hz:zc.toList=enc z0) (hb:c*bytes<=140737488355328) (YZ:Nat.blt 0 bytes=true) (hF:Fit w0 (cQ L) w)
 (k:∀g w1 a,Fit w0 (cQ (slc E sz enc g c (List.replicate c z0)::L)) w1->fy Df n (lk ((d,.slice (some ⟨g,0,none⟩) c c)::l) j) a->wpList P ops Q rest a w1):wpList P ops Q (o::rest) a w:=by
 obtain⟨q,z,hq,h1,h2,h3,h4⟩:=ZH Qe
 have Yo:0<bytes:=aei YZ
 have hc:c<=c*bytes:=agG _ Yo
 subst hi
 have hcb:((q.bytes:Nat):Int)*(c:Int)<=281474976710656:=by
  have adM:((c*bytes:Nat):Int)<=140737488355328:=by omega
  rw[h2,Int.mul_comm]
  simp only[Int.natCast_mul]at adM
  omega
 have hrun:=run_make (P:=P) w t E q z hty hq h3 .i64 .i64 (c:Int) (c:Int) (by omega) (by omega) hcb (by omega)
 have hs:zc.size=sz:=by rw[<-afB,hz,he.len]
 have hcells:(madeCells z.cells ((c:Int).toNat*q.size)).toList=(List.replicate c z0).flatMap enc:=by
  rw[h1,h4,Zi]
  exact V7 he zc z0 hz c
 refine Qg (w1:=w.alloc (.cells (madeCells z.cells ((c:Int).toNat*q.size)) E)) hw hd hn hr (v:=.slice (some ⟨w.heap.size,0,none⟩) c c) ?_ (λa hr=>k w.heap.size _ a ?_ hr)
 ·unfold execOp
  simp only[ho,hx,hy,aee,hrun,aef,afu,Zi]
 ·refine(hF.alloc _).head λx hx=>⟨by simp,by simp only[maxLen];omega,_,?_,?_,hx⟩
  ·rw[<-afB,hcells,he.flat,aeb]
  ·rw[hcells,aeb,agh (by rw[he.flat,aeb];exact aea _)]
theorem abx{s x:Operand}{ca:Option Addr}{n0 n1 cc:Nat}{ys:List α}(hw:Region.wanted o (yielded ops a.tmps)=true)(hd:o.dst=some d)(hn:Nat.blt d n=true)(hr:fy Df n (lk l j) a)
 (ho:o.op= .call {callee:=.builtin .copy,args:=#[s,x],argTypes:=#[t,t]}) (hs:po (lk l j) s= .slice (some ⟨g,0,none⟩) n0 cap) (hx:po (lk l j) x= .slice ca n1 cc) (JA:n0=xs.length)
 (he:QB enc sz) (hty:P.underlying t=some (.slice E)) (hsz:(P.info? E).map (·.size)=some sz) (hlen:ys.length=xs.length)
 (hF:Fit w0 (cQ (slc E sz enc g cap xs::rowOf E sz enc (.slice ca n1 cc) ys::L)) w)
 (k:∀w1 a,Fit w0 (cQ (slc E sz enc g cap ys::rowOf E sz enc (.slice ca n1 cc) ys::L)) w1->fy Df n (lk ((d,.int .i64 ((xs.length:Nat):Int))::l) j) a->wpList P ops Q rest a w1):wpList P ops Q (o::rest) a w:=by
 have BN:=(hF.pick 1).N4
 subst BN
 subst JA
 obtain⟨I9,Dq⟩:=hF.R7
 obtain⟨cur,Jp,HC,hP⟩:=hF.P7
 have hcells:(Builtin.firstCells sz (Nat.min ys.length xs.length) (.slice ca ys.length cc)).run P w= .ok (ys.flatMap enc).toArray w:=by
  rw[hlen,show Nat.min xs.length xs.length=xs.length from Nat.min_self _,<-hlen]
  rcases(hF.pick 1).rows with ⟨e1,e2,_⟩ | ⟨g',cap',e1,_,Ui⟩
  ·simp only[Value.slice.injEq]at e1
   rw[e1.1,e2]
   exact run_firstCells_none (P:=P) w sz _ _ _
  ·simp only[Value.slice.injEq]at e1
   rw[e1.1]
   obtain⟨cur',adN,acn,hP'⟩:=Ui.P7
   refine run_firstCells_some (P:=P) w sz ys.length _ _ _ (ys.flatMap enc) (he.flat ys) ?_
   intro j u hu
   rw[afL,af3]
   refine hP'.cell j ?_
   rw[<-acn,List.getElem?_take]at hu
   split at hu
   ·simpa using hu
   ·cases hu
 have hfl:(ys.flatMap enc).length=xs.length*sz:=by rw[he.flat,hlen]
 have hle:xs.length*sz<=cap*sz:=afm _ I9
 have hst:=run_storeCells_at P g 0 E (ys.flatMap enc) 0 cur w hP.block (by rw[hfl,Jp];omega) (he.Sv ys)
 simp only[agj,af3,afK,afU]at hst
 refine Qg (w1:=w.setRow g (ys.flatMap enc++cur.toList.drop (ys.flatMap enc).length).toArray) (v:=.int .i64 ((xs.length:Nat):Int)) hw hd hn hr ?_ (λa hr=>k _ a ?_ hr)
 ·unfold execOp
  cases RG:P.info? E with
  | none=>simp[RG]at hsz
  | some q =>
   simp[RG]at hsz
   have hmin:Nat.min ys.length xs.length=xs.length:=by rw[hlen];exact Nat.min_self _
   have ac2:Nat.min xs.length xs.length=xs.length:=Nat.min_self _
   simp only[ho,resolve,invoke,builtin,aee,afu,aef,agk,afZ,af5,hs,hx]
   rw[hmin]at hcells
   rw[hlen]at hcells
   simp[Builtin.copy_,run_underlying hty,Builtin.lenOf,sizeOf,typeInfo,RG,hsz,hlen,ac2,hcells,hst,goInt]
 ·refine((hP.turn (w':=w.setRow g (ys.flatMap enc++cur.toList.drop (ys.flatMap enc).length).toArray) (setRow_heap w g cur _ E (0,0) hP.block) (λk hk _=>setRow_other w g k _ hk) rfl rfl rfl (by simp)).head λz hz=>⟨by rw[hlen];exact I9,Dq,_,?_,?_,hz⟩)
  ·simp only[af9,ad9,af4,afB,hfl]
   omega
  ·rw[agA,<-he.flat ys]
   exact agi
theorem Z9{ca:Option Addr}{n0 cc bytes:Nat}{s x:Operand}{tx:TypeId}{m:Nat}{i:Int}{zc:Array Value}{kx:IntKind}(z0:α)(hw:Region.wanted o (yielded ops a.tmps)=true)(hd:o.dst=some d)(hn:Nat.blt d n=true)(hr:fy Df n (lk l j) a)
 (ho:o.op= .call {callee:=.builtin .append,args:=#[s,x],argTypes:=#[t,tx]}) (hs:po (lk l j) s= .slice ca n0 cc) (hx:po (lk l j) x= .int .i64 i) (hi:i=m)
 (he:QB enc sz) (hty:P.underlying t=some (.slice E)) (htx:P.underlying tx=some (.int kx)) (Qe:(P.info? E).map (λi=>(i.size,i.bytes,i.zero.map (·.cells)))=some (sz,bytes,some zc)) (hz:zc.toList=enc z0)
 (hF:Fit w0 (cQ (rowOf E sz enc (.slice ca n0 cc) xs::L)) w) (hb:(xs.length+m)*bytes<=140737488355328) (YZ:Nat.blt 0 bytes=true)
 (k:∀ca cc w1 a,Fit w0 (cQ (rowOf E sz enc (.slice ca (xs++List.replicate m z0).length cc) (xs++List.replicate m z0)::L)) w1->fy Df n (lk ((d,.slice ca (xs++List.replicate m z0).length cc)::l) j) a->wpList P ops Q rest a w1):wpList P ops Q (o::rest) a w:=by
 have JA:=hF.N4
 subst JA
 obtain⟨q,zv,hq,h1,h2,h3,h4⟩:=ZH Qe
 have Yo:0<bytes:=aei YZ
 have Dp:m<=m*bytes:=agG _ Yo
 have hxx:xs.length<=xs.length*bytes:=agG _ Yo
 have ae7:(xs.length+m)*bytes=xs.length*bytes+m*bytes:=afz _ _ _
 subst hi
 have hzs:zv.cells.size=sz:=by rw[h4,<-afB,hz,he.len]
 have hzl:(Builtin.zeroCells zv.cells m).toList=(List.replicate m z0).flatMap enc:=by
  have:=V7 he zc z0 hz m
  rw[<-h4]at this
  rw[<-this,<-hzs]
  rfl
 have hpos:=he.pos
 have hzv:∀w,(zeroValue E).run P w= .ok zv w:=λw=>by
  simp only[zeroValue,typeInfo,aee,run_program,hq,aef,afu,h3]
 have aco:((List.replicate m z0).flatMap enc).length=m*sz:=by rw[he.flat,aeb]
 have ac3:=he.Sv (List.replicate m z0)
 have ZI:IntKind.i64.wrap (m:Int)=m:=IntWalk.i64_in _ (by omega)
 have BN:¬((m:Int)<0):=by omega
 have Iy:¬(281474976710656<(m:Int)*(q.bytes:Int)):=by
  have:((m*bytes:Nat):Int)<=140737488355328:=by omega
  rw[h2];simp only[Int.natCast_mul]at this;omega
 have main :∃v' w',(Builtin.append_ #[t,tx] o.type #[.slice ca xs.length cc,.int .i64 (m:Int)]).run P w= .ok v' w'/\Fit w0 (cQ (rowOf E sz enc v' (xs++List.replicate m z0)::L)) w':=by
  by_cases hroom:xs.length+m<=cc
  ·rcases hF.rows with ⟨e1,e2,Ui⟩ | ⟨g,cap,e1,_,Ui⟩
   ·simp only[Value.slice.injEq]at e1
    obtain⟨rfl,e3,rfl⟩:=e1
    have hm0:m=0:=by omega
    subst hm0
    subst e2
    refine⟨.slice none 0 0,w,?_,by simpa using Ui.ua⟩
    have hw0:IntKind.i64.wrap 0=0:=by rfl
    simp[Builtin.append_,run_underlying hty,run_underlying htx,sizeOf,typeInfo,hq,asInt,asIntOf,hw0]
   ·simp only[Value.slice.injEq]at e1
    obtain⟨rfl,_,rfl⟩:=e1
    obtain⟨cur,La,KV,hP⟩:=Ui.P7
    obtain⟨I9,Dq⟩:=Ui.R7
    have hle:(xs.length+m)*sz<=cc*sz:=afm _ hroom
    rw[afz]at hle
    have ac4:(xs++List.replicate m z0).flatMap enc=xs.flatMap enc++(List.replicate m z0).flatMap enc:=age
    generalize hZ:(List.replicate m z0).flatMap enc=zl at *
    have hst:=run_storeCells_at P g (xs.length*sz) E zl 0 cur w hP.block (by rw[aco,La];omega) ac3
    simp only[agj]at hst
    refine⟨.slice (some ⟨g,0,none⟩) (xs.length+m) cc,w.setRow g (cur.toList.take (xs.length*sz)++zl++cur.toList.drop (xs.length*sz+zl.length)).toArray,?_,?_⟩
    ·generalize w.setRow g (cur.toList.take (xs.length*sz)++zl++cur.toList.drop (xs.length*sz+zl.length)).toArray=w9 at hst
     by_cases hm0:m*sz=0
     ·have hz0:zl=[]:=agr (by omega)
      subst hz0
      simp[Builtin.append_,run_underlying hty,run_underlying htx,sizeOf,typeInfo,hq,asInt,asIntOf,ZI,BN,Iy,hroom,h1,afL,hm0,hst]
     ·simp[Builtin.append_,run_underlying hty,run_underlying htx,sizeOf,typeInfo,hq,asInt,asIntOf,ZI,BN,Iy,hroom,h1,afL,hm0,hzv,hzl,hst]
    ·refine(hP.turn (w':=w.setRow g (cur.toList.take (xs.length*sz)++zl++cur.toList.drop (xs.length*sz+zl.length)).toArray) (setRow_heap w g cur _ E (0,0) hP.block) (λk hk _=>setRow_other w g k _ hk) rfl rfl rfl (by simp)).head λz xl=>.inr ⟨g,cc,_,by simp,by simpa using hroom,Dq,?_,?_,xl⟩
     ·simp only[af9,ad9,afA,af4,afB,aco]
      omega
     ·rw[KV,ac4,ad9,aeb]
      rw[show(xs.length+m)*sz=((xs.flatMap enc)++zl).length by rw[ad9,aco,he.flat,afz]]
      exact agi
  ·have hge:=grownCap_ge w (xs.length+m) cc E
   have h63:xs.length+m<=maxLen:=by simp only[maxLen];omega
   have hcm:grownCap w (xs.length+m) cc E<=maxLen:=grownCap_le_maxLen w (xs.length+m) cc E h63
   have hfit:=growslice_fits (need:=xs.length+m) (old:=cc) (bytes:=bytes) (by omega) hb
   have ab9:¬(281474976710656<Builtin.nextslicecap (xs.length+m) cc*q.bytes):=by rw[h2];omega
   have ac5:¬(9223372036854775807<(xs.length:Int)+(m:Int)):=by omega
   have hold:(Builtin.firstCells sz xs.length (.slice ca xs.length cc)).run P w.drew= .ok (xs.flatMap enc).toArray w.drew:=by
    rcases hF.rows with ⟨e1,e2,_⟩ | ⟨g',cap',e1,_,Ui⟩
    ·simp only[Value.slice.injEq]at e1
     rw[e1.1,e2]
     exact run_firstCells_none (P:=P) w.drew sz _ _ _
    ·simp only[Value.slice.injEq]at e1
     rw[e1.1]
     obtain⟨cur',adN,acn,hP'⟩:=Ui.P7
     refine run_firstCells_some (P:=P) w.drew sz xs.length _ _ _ (xs.flatMap enc) (he.flat xs) ?_
     intro j u hu
     rw[afL,af3]
     refine hP'.cell j ?_
     rw[<-acn,List.getElem?_take]at hu
     split at hu
     ·simpa using hu
     ·cases hu
   refine⟨.slice (some ⟨w.heap.size,0,none⟩) (xs.length+m) (grownCap w (xs.length+m) cc E),w.drew.alloc (.cells ((xs.flatMap enc).toArray++((List.replicate m z0).flatMap enc).toArray++Builtin.zeroCells zv.cells (grownCap w (xs.length+m) cc E-(xs.length+m))) E),?_,?_⟩
   ·generalize hZ:(List.replicate m z0).flatMap enc=zl at *
    by_cases hm0:m*sz=0
    ·have hz0:zl=[]:=agr (by omega)
     subst hz0
     simp[Builtin.append_,run_underlying hty,run_underlying htx,sizeOf,typeInfo,hq,asInt,asIntOf,ZI,BN,Iy,hroom,Question.forced,h1,ab9,ac5,hm0,hold,hzv,newRow,grownCap]
    ·have hza:Builtin.zeroCells zv.cells m=zl.toArray:=by rw[<-hzl,Array.toArray_toList]
     simp[Builtin.append_,run_underlying hty,run_underlying htx,sizeOf,typeInfo,hq,asInt,asIntOf,ZI,BN,Iy,hroom,Question.forced,h1,ab9,ac5,hm0,hold,hzv,hza,newRow,grownCap]
     congr 2
     apply Array.ext'
     simp[aeA]
   ·refine(hF.drop.drew.alloc _).head λx hx=>.inr ⟨w.heap.size,_,_,by simp,by simpa using hge,hcm,?_,?_,hx⟩
    ·simp only[Array.size_append,af9,size_zeroCells,hzs,he.flat,aeb,<-afz]
     congr 1
     omega
    ·rw[age,ad9,aeb]
     simp only[Array.toList_append]
     rw[show(xs.length+m)*sz=((xs.flatMap enc)++((List.replicate m z0).flatMap enc)).length by rw[ad9,he.flat,he.flat,aeb,afz]]
     exact agi
 obtain⟨v',w',hrun,Ui⟩:=main
 obtain⟨a',cap',e,_,_⟩:=Ui.VZ
 subst e
 refine Qg hw hd hn hr ?_ (λa hr=>k a' cap' w' a Ui hr)
 unfold execOp
 simp only[ho,resolve,invoke,builtin,aee,afu,aef,agk,afZ,af5,hs,hx,hrun]
end
def OG{α:Type}:Sem α->Prop
 | .pure _=>True
 | .load _ _ k=>∀v,OG (k v)
 | .store .. => False
 | .new _ k=>∀r,OG (k r)
 | .shape _ k=>∀s,OG (k s)
 | .freeze .. => False
 | .frozen _ k=>∀b,OG (k b)
 | .getObj _ k=>∀o,OG (k o)
 | .setObj .. => False
 | .choose _ k=>∀n,OG (k n)
 | .sys .. => False
 | .program k=>∀p,OG (k p)
 | .mark _ k=>OG k
 | .halt _=>True
def fC(w w':World):Prop:=∀ad v,w.cell? ad=some v->w'.cell? ad=some v
theorem fC.refl(w:World):fC w w:=λ_ _ h=>h
theorem fC.trans{a b c:World}(h:fC a b)(k:fC b c):fC a c:=λad v hv=>k ad v (h ad v hv)
theorem OG.run{α:Type}{P:Program}(s:Sem α):∀(w:World),OG s->∀x w',s.run P w= .ok x w'->fC w w':=by
 induction s with
 | pure a=>intro w _ x w' h;simp only[Sem.run,Result.ok.injEq]at h;rw[<-h.2];exact .refl _
 | load m a k ih =>
  intro w hk x w' h
  simp only[Sem.run]at h
  split at h
  ·exact ih _ w (hk _) x w' h
  ·split at h
   ·exact ih _ w (hk _) x w' h
   ·cases h
 | store m a v k ih=>intro w hk;exact hk.elim
 | new o k ih =>
  intro w hk x w' h
  simp only[Sem.run]at h
  have h1:=ih _ _ (hk _) x w' h
  refine fC.trans (λad v hv => ?_) h1
  exact(World.cell?_alloc_lt w o ad (World.block_lt_of_cell? w ad hv)).trans hv
 | shape r k ih=>intro w hk x w' h;simp only[Sem.run]at h;exact ih _ w (hk _) x w' h
 | freeze a n k ih=>intro w hk;exact hk.elim
 | frozen a k ih=>intro w hk x w' h;simp only[Sem.run]at h;exact ih _ w (hk _) x w' h
 | getObj r k ih =>
  intro w hk x w' h
  simp only[Sem.run]at h
  split at h
  ·cases h
  ·exact ih _ w (hk _) x w' h
  ·cases h
 | setObj r o k ih=>intro w hk;exact hk.elim
 | choose q k ih =>
  intro w hk x w' h
  simp only[Sem.run]at h
  split at h
  ·exact ih _ w (hk _) x w' h
  ·exact(ih _ {w with drawn:=w.drawn+1} (hk _) x w' h:fC w w')
 | sys c k ih=>intro w hk;exact hk.elim
 | program k ih=>intro w hk x w' h;simp only[Sem.run]at h;exact ih _ w (hk _) x w' h
 | mark m k ih=>intro w hk x w' h;simp only[Sem.run]at h;exact ih w hk x w' h
 | halt e=>intro w _ x w' h;simp only[Sem.run]at h;cases h
theorem OG.bind{α β:Type}:∀(s:Sem α) (f:α->Sem β),OG s->(∀a,OG (f a))->OG (s >>= f)
 | .pure a,f,_,hf=>hf a
 | .load m a k,f,hk,hf=>λv=>OG.bind (k v) f (hk v) hf
 | .new o k,f,hk,hf=>λv=>OG.bind (k v) f (hk v) hf
 | .shape r k,f,hk,hf=>λv=>OG.bind (k v) f (hk v) hf
 | .frozen a k,f,hk,hf=>λv=>OG.bind (k v) f (hk v) hf
 | .getObj r k,f,hk,hf=>λv=>OG.bind (k v) f (hk v) hf
 | .choose q k,f,hk,hf=>λv=>OG.bind (k v) f (hk v) hf
 | .program k,f,hk,hf=>λv=>OG.bind (k v) f (hk v) hf
 | .mark m k,f,hk,hf=>OG.bind k f hk hf
 | .halt e,_,_,_=>trivial
theorem RH{α:Type}(a:α):OG (pure a:Sem α):=trivial
theorem mN:OG program:=λ_=>trivial
theorem kT(t:TypeId):OG (underlying t):=by
 unfold underlying
 refine OG.bind _ _ mN (λp => ?_)
 split
 ·exact trivial
 ·exact trivial
theorem lY(t:TypeId):OG (typeInfo t):=by
 unfold typeInfo
 refine OG.bind _ _ mN (λp => ?_)
 split
 ·exact trivial
 ·exact trivial
theorem nh(t:TypeId):OG (sizeOf t):=OG.bind _ _ (lY t) λ_=>trivial
theorem lJ(t:TypeId):OG (zeroValue t):=by
 unfold zeroValue
 refine OG.bind _ _ (lY t) (λp => ?_)
 split
 ·exact trivial
 ·exact trivial
theorem q9(t:TypeId):OG (isAgg t):=by
 unfold isAgg
 refine OG.bind _ _ (kT t) (λp => ?_)
 split<;>exact trivial
theorem jY(a:Addr):∀(n i:Nat) (acc:Array Value),OG (loadCellsFrom a i n acc)
 | 0,_,_=>trivial
 | n+1,i,acc=>OG.bind _ _ (λ_=>trivial) λv=>jY a n (i+1) _
theorem pC(t:TypeId)(a:Addr):OG (loadVar t a):=by
 unfold loadVar
 refine OG.bind _ _ (q9 t) (λb => ?_)
 split
 ·exact OG.bind _ _ (nh t) λ_=>OG.bind _ _ (jY _ _ _ _) λ_=>trivial
 ·exact λ_=>trivial
theorem lf(t:TypeId)(cs:Array Value):OG (newRow t cs):=by
 unfold newRow newObj
 exact λ_=>trivial
theorem ni(t:TypeId)(v:Value):OG (newVar t v):=lf t _
def nK(o:Oper):Bool:=
 match o.op with
 | .move _ | .assign _ | .pick .. | .alloc _ | .box .. | .load .. | .buildSlice .. | .extract .. => true
 | _=>false
theorem rf{P:Program}{o:Oper}(h:nK o=true)(ρ:Operand->Value)(w w':World)(x:Next)(hr:(execOp ρ o).run P w= .ok x w'):(∃u,x= .value u)/\fC w w':=by
 have main:∀s:Sem Value,OG s->execOp ρ o=(do pure (.value (<-s)))->(∃u,x= .value u)/\fC w w':=by
  intro s hs e
  rw[e]at hr
  refine⟨?_,OG.run _ w (OG.bind _ _ hs λ_=>RH _) x w' hr⟩
  simp only[aee,afu]at hr
  cases hx:s.run P w with
  | ok v w2 =>
   rw[hx]at hr
   simp only[aef,Result.ok.injEq]at hr
   exact⟨v,hr.1.symm⟩
  | halt e w2=>rw[hx]at hr;cases hr
 unfold nK at h
 cases ho:o.op with
 | move y =>
  refine main (pure (ρ y)) trivial ?_
  unfold execOp;rw[ho];rfl
 | assign y =>
  refine main (pure (ρ y)) trivial ?_
  unfold execOp;rw[ho];rfl
 | pick c a b =>
  refine main (do pure (if<-asBool (ρ c)then ρ a else ρ b)) ?_ ?_
  ·refine OG.bind _ _ ?_ (λ_=>trivial)
   unfold asBool
   split<;>exact trivial
  ·unfold execOp
   rw[ho]
   cases hc:ρ c<;>simp[asBool,stuck,hc]<;>rfl
 | alloc t =>
  refine main (Instr.alloc t true (.tuple #[])) ?_ ?_
  ·unfold Instr.alloc
   exact OG.bind _ _ (lJ t) λz=>OG.bind _ _ (ni t z) λ_=>trivial
  ·unfold execOp;rw[ho]
 | box t y =>
  refine main (Instr.box t (ρ y)) (OG.bind _ _ (ni t _) λ_=>trivial) ?_
  unfold execOp;rw[ho]
 | load t y =>
  refine main (Instr.loadAt t (ρ y)) (OG.bind _ _ ?_ λ_=>pC _ _) ?_
  ·unfold Instr.sureAddr
   split<;>exact trivial
  ·unfold execOp;rw[ho]
 | buildSlice t n ps =>
  refine main (Instr.buildSlice t n (ps.map λ(i,x)=>(i,ρ x))) ?_ ?_
  ·unfold Instr.buildSlice
   refine OG.bind _ _ (kT t) (λd => ?_)
   split
   ·refine OG.bind _ _ (nh _) (λsz => ?_)
    dsimp only
    split
    ·exact trivial
    ·split
     ·refine OG.bind _ _ (RH _) (λz => ?_)
      split
      ·exact OG.bind _ _ (lf _ _) λ_=>RH _
      ·exact trivial
     ·refine OG.bind _ _ (lJ _) (λv=>OG.bind _ _ (RH _) (λz => ?_))
      split
      ·exact OG.bind _ _ (lf _ _) λ_=>RH _
      ·exact trivial
   ·exact trivial
  ·unfold execOp;rw[ho]
 | extract y i =>
  refine main (Instr.extract (ρ y) i) ?_ ?_
  ·unfold Instr.extract
   split
   ·split<;>exact trivial
   ·exact trivial
  ·unfold execOp;rw[ho]
 | _=>rw[ho]at h;cases h
section
variable {P:Program}{ops:Array Oper}{Q:Exit->Act->World->Prop}{a:Act}{w w0 w1:World}{o:Oper}{n d t:Nat}{v:Value}{l:List (Nat×Value)}{j e:Nat->Value}{H:M5}{md:Region.Mode}{Df:List Deferred}
def kH(Q:Exit->Act->World->Prop):Prop:=∀ch (a:Act) w dst v,Q (.panic ch) (a.put dst v) w->Q (.panic ch) a w
theorem rh{fn:Func}{R:Ending->World->Prop}:kH (bodyPost P fn R):=by
 intro ch a w dst v h
 cases dst<;>exact h
theorem Yp{K:Act->World->Prop}(h:kH Q):kH (Exit.then K Q):=λch a w dst v k=>h ch a w dst v k
theorem qb{i:Nat}(h:kH Q):kH (Exit.inBlock i Q):=λch a w dst v k=>h ch a w dst v k
def YD(P:Program)(ops:Array Oper)(D:World->Prop)(o:Oper)(v:Value)(a:Act):Prop:=
 (Region.wanted o (yielded ops a.tmps)=true/\∀w,D w->(execOp a.eval o).run P w= .ok (.value v) w)∨(Region.wanted o (yielded ops a.tmps)=false/\v=undef)
theorem YD.of_same{D:World->Prop}{a':Act}(hy:YD P ops D o v a)(he:execOp a'.eval o=execOp a.eval o)
 (hw:Region.wanted o (yielded ops a'.tmps)=Region.wanted o (yielded ops a.tmps)):YD P ops D o v a':=by
 unfold YD at *;rw[he,hw];exact hy
theorem YD.wpOp{D:World->Prop}{i:Nat}(hi:ops[i]? = some o)(hy:YD P ops D o v a)(hD:D w){K:Act->World->Prop}(h:K (a.put o.dst v) w):wpOp P ops Q i K a w:=by
 unfold Go.wpOp
 simp only[hi]
 rcases hy with ⟨hw,hv⟩ | ⟨hw,rfl⟩
 ·rw[au hw]
  left
  unfold Oper.wp
  rw[hv w hD]
  exact h
 ·rw[iM_ hw]
  exact h
def rj(md:Region.Mode)(ops:Array Oper)(listed:Array Bool)(i:Nat):Nat->Nat->Bool
 | 0,_=>true
 | f+1,k=>k != i&&match ops[k]? with
  | none=>false
  | some ok=>ok.after.all λe => !Region.binds md e||listed.getD e.on false||rj md ops listed i f e.on
theorem aby{id:Nat}{lo:List Oper}(hF:Fit w0 H w)(hm:P.follows .mixedOrders=true)(k:∀w,Fit w0 H w->wpAny P .any lo.toArray Q lo.toArray.size (Array.replicate lo.toArray.size false) a w) :
 (Code.region id lo.toArray true).wp P Q a w:=wp_region_any hm (k _ hF.drew)
end
section
variable {P:Program}{ops:Array Oper}{Q:Exit->Act->World->Prop}{a:Act}{w w0 w1:World}{o:Oper}{n d t:Nat}{v:Value}{l:List (Nat×Value)}{j e:Nat->Value}{H:M5}{md:Region.Mode}{C:World->Prop}{W:List Nat}{Lk:Array Bool->Act->Prop}{Df:List Deferred}
theorem aaw{i:Nat}{b:Bool}(hr:fy Df n e a)(hg:o.guard=some (i,b))(hi:(ops[i]?).bind (·.dst)=some t)(ht:Nat.blt t n=true)(he:e t=undef) :
 Region.wanted o (yielded ops a.tmps)=false:=by
 have ht':t<a.tmps.size:=by rw[hr.size];exact aei ht
 have hg2:a.tmps[t]? = some undef:=by
  have:=hr.get t
  rw[he,afO,Array.getElem?_eq_getElem ht']at this
  rw[Array.getElem?_eq_getElem ht']
  simpa using this
 simp only[Region.wanted,hg,yielded,hi,Option.bind_some,hg2]
 cases b<;>rfl
end
section
variable {P:Program}{ops:Array Oper}{Q:Exit->Act->World->Prop}{a:Act}{w w0 w1:World}{o:Oper}{n d t:Nat}{v:Value}{l:List (Nat×Value)}{j e:Nat->Value}{md:Region.Mode}{W A:List Nat}{pre:List M5->List M5}{Ls:List M5}{Df:List Deferred}
def yt(X:Nat->Prop):List Nat->Prop
 | []=>True
 | i::r=>X i/\yt X r
theorem yt.mem{X:Nat->Prop}:∀{r:List Nat},yt X r->∀i∈r,X i
 | _::_,h,_,.head _=>h.1
 | _::_,h,_,.tail _ hm=>yt.mem h.2 _ hm
theorem OH{X:Nat->Prop}:yt X []:=trivial
theorem Nj{X:Nat->Prop}{i:Nat}{r:List Nat}(h:X i)(k:yt X r):yt X (i::r):=⟨h,k⟩
end
end GX
end
section
namespace SL
open Go Go.RowKit Go.ChangeShapes Go.WideShapes
end SL
namespace GX
open Go Go.RowKit SL
section
variable {P:Program}{ops:Array Oper}{Q:Exit->Act->World->Prop}{a:Act}{w w0 w1:World}{rest:List Oper}{o:Oper}{n d t:Nat}{v:Value}{l:List (Nat×Value)}{j e:Nat->Value}{L:List M5}{H:M5}{Df:List Deferred}
variable {α:Type}{E:TypeId}{sz g cap:Nat}{enc:α->List Value}{xs:List α}
end
end GX
end
section
namespace GX
open Go Go.RowKit SL
def AK:List Value->List Value->Bool
 | .int _ a::xs,.int _ b::ys=>(a==b)&&AK xs ys
 | .bool a::xs,.bool b::ys=>(a==b)&&AK xs ys
 | _,_=>true
def wm(P:Program):Nat->List Field->List Value->List Value->Bool
 | _,[],[],[]=>true
 | i,f::fs,.int k _::xs,.int k' _::ys=>(f.name != "_")&&f.offset==i&&(match P.underlying f.type with | some (.int _)=>true | _=>false)&&k==k'&&wm P (i+1) fs xs ys
 | i,f::fs,.bool _::xs,.bool _::ys=>(f.name != "_")&&f.offset==i&&(match P.underlying f.type with | some .bool=>true | _=>false)&&wm P (i+1) fs xs ys
 | _,_,_,_=>false
section
variable {P:Program}{w:World}{o:Oper}{e:Nat->Value}
theorem Ql{t:TypeId}{cs:Array Value}{i:Nat}{v:Value}(h:(match P.underlying t with | some (.int _)=>true | some .bool=>true | _=>false)=true)(hv:cs[i]? = some v):(part t cs i).run P w= .ok v w:=by
 have hu :∃d,P.underlying t=some d/\(∀fs,d≠.struct fs)/\∀n q,d≠.array n q:=by
  revert h
  cases hq:P.underlying t with
  | none=>simp
  | some d=>cases d<;>simp
 obtain⟨d,hd,h1,h2⟩:=hu
 unfold part isAgg
 simp only[aee,run_underlying hd,aef]
 cases d<;>simp_all
theorem XJ(d:Nat)(xs ys:Array Value):∀(fs:List Field) (i:Nat) (us vs:List Value),wm P i fs us vs=true->(∀j,us[j]? = xs[i+j]?∨us.length<=j)->(∀j,vs[j]? = ys[i+j]?∨vs.length<=j)->
 (Op.eqFields (d+1) xs ys fs).run P w= .ok (AK us vs) w
 | [],_,[],[],_,_,_=>by simp[Op.eqFields,AK]
 | f::fs,i,.int k a::us,.int k' b::vs,h,hx,hy=>by
  simp only[wm,aec,bne_iff_ne,ne_eq,afT]at h
  obtain⟨⟨⟨⟨hn,ho⟩,ht⟩,hk⟩,hr⟩:=h
  subst hk
  have hx0:xs[i]? = some (.int k a):=by rcases hx 0 with h | h;simpa using h.symm;simp at h
  have hy0:ys[i]? = some (.int k b):=by rcases hy 0 with h | h;simpa using h.symm;simp at h
  have hty :∃kk,P.underlying f.type=some (.int kk):=by
   revert ht
   cases hq:P.underlying f.type with
   | none=>simp
   | some d=>cases d<;>simp
  obtain⟨kk,hty⟩:=hty
  have ih:=XJ d xs ys fs (i+1) us vs hr (λj=>by rcases hx (j+1)with h | h;left;simpa [agL,agC]using h;right;simpa using h) (λj=>by rcases hy (j+1)with h | h;left;simpa [agL,agC]using h;right;simpa using h)
  have pa:=Ql (P:=P) (w:=w) (t:=f.type) (cs:=xs) (i:=f.offset) (v:=.int k a) (by rw[hty]) (by rw[ho];exact hx0)
  have pb:=Ql (P:=P) (w:=w) (t:=f.type) (cs:=ys) (i:=f.offset) (v:=.int k b) (by rw[hty]) (by rw[ho];exact hy0)
  rw[Op.eqFields]
  simp only[au hn,aee,pa,pb,run_equalIn_int w d f.type k kk a b hty,aef]
  cases hab:(a==b)
  ·simp[AK,hab]
  ·simp[AK,hab,ih]
 | f::fs,i,.bool a::us,.bool b::vs,h,hx,hy=>by
  simp only[wm,aec,bne_iff_ne,ne_eq,afT]at h
  obtain⟨⟨⟨hn,ho⟩,ht⟩,hr⟩:=h
  have hx0:xs[i]? = some (.bool a):=by rcases hx 0 with h | h;simpa using h.symm;simp at h
  have hy0:ys[i]? = some (.bool b):=by rcases hy 0 with h | h;simpa using h.symm;simp at h
  have hty:P.underlying f.type=some .bool:=by
   revert ht
   cases hq:P.underlying f.type with
   | none=>simp
   | some d=>cases d<;>simp
  have ih:=XJ d xs ys fs (i+1) us vs hr (λj=>by rcases hx (j+1)with h | h;left;simpa [agL,agC]using h;right;simpa using h) (λj=>by rcases hy (j+1)with h | h;left;simpa [agL,agC]using h;right;simpa using h)
  have pa:=Ql (P:=P) (w:=w) (t:=f.type) (cs:=xs) (i:=f.offset) (v:=.bool a) (by rw[hty]) (by rw[ho];exact hx0)
  have pb:=Ql (P:=P) (w:=w) (t:=f.type) (cs:=ys) (i:=f.offset) (v:=.bool b) (by rw[hty]) (by rw[ho];exact hy0)
  rw[Op.eqFields]
  simp only[au hn,aee,pa,pb,run_equalIn_bool' w d f.type a b hty,aef]
  cases hab:(a==b)
  ·simp[AK,hab]
  ·simp[AK,hab,ih]
end
theorem gd{γ:Type}{p:Prop}[Decidable p]{x:Option γ}{r:γ}(h:(if p then x else none)=some r):p/\x=some r:=by
 by_cases c:p
 ·rw[au c]at h;exact⟨c,h⟩
 ·rw[aj c]at h;cases h
theorem ifT{γ:Type}{p:Prop}[Decidable p]{x y:Option γ}{r:γ}(c:p)(h:(if p then x else y)=some r):x=some r:=by rw[au c]at h;exact h
theorem ifF{γ:Type}{p:Prop}[Decidable p]{x y:Option γ}{r:γ}(c:¬p)(h:(if p then x else y)=some r):y=some r:=by rw[aj c]at h;exact h
theorem bF{b:Bool}(h:¬b=true):b=false:=by cases b<;>simp_all
theorem On{γ:Type}{x y:γ}(h:some x=some y):x=y:=Option.some.inj h
def wo{γ:Type}(o:Option (Unit))(f:Option γ):Option γ:=match o with | some ()=>f | none=>none
@[simp] theorem OU{γ:Type}(f:Option γ):wo (some ()) f=f:=rfl
@[simp] theorem CI{γ:Type}(f:Option γ):wo none f=none:=rfl
theorem bd0{γ:Type}{o:Option (Unit)}{f:Option γ}{r:γ}(h:wo o f=some r):o=some ()/\f=some r:=by
 match o,h with | some (),h=>exact⟨rfl,h⟩
def kQ{γ:Type}(o:Option ((Unit)⊕γ))(f:Option γ):Option γ:=match o with | some (.inl ())=>f | some (.inr r)=>some r | none=>none
@[simp] theorem bu{γ:Type}(f:Option γ):kQ (some (.inl ())) f=f:=rfl
@[simp] theorem qc{γ:Type}(r:γ)(f:Option γ):kQ (some (.inr r)) f=some r:=rfl
@[simp] theorem CJ{γ:Type}(f:Option γ):kQ none f=none:=rfl
def jc0{γ:Type}(o:(Unit)⊕γ)(f:Option γ)(r:γ):Prop:=match o with | .inl ()=>f=some r | .inr x=>x=r
theorem U3{γ:Type}{o:Option ((Unit)⊕γ)}{f:Option γ}{r:γ}(h:kQ o f=some r) :∃o',o=some o'/\jc0 o' f r:=by
 match o,h with | some (.inl ()),h=>exact⟨_,rfl,h⟩ | some (.inr x),h=>exact⟨_,rfl,On h⟩
theorem Q6{γ:Type}{o:(Unit)⊕γ}{f:Option γ}{r x:γ}(h:some (.inr x)=some o)(k:jc0 o f r):some x=some r:=by
 have e:=On h;subst e;exact afr some k
def kc0{γ:Type}(o:Unit)(f:Option γ)(r:γ):Prop:=match o with | ()=>f=some r
theorem kd0{γ:Type}{o:Option (Unit)}{f:Option γ}{r:γ}(h:wo o f=some r) :∃o',o=some o'/\kc0 o' f r:=by
 match o,h with | some (),h=>exact⟨_,rfl,h⟩
theorem U4{γ:Type}{f:Option γ}{r:γ}(k:jc0 (γ:=γ) (.inl ()) f r):f=some r:=k
theorem kk0{γ:Type}{f:Option γ}{r:γ}(k:kc0 (γ:=γ) () f r):f=some r:=k
def bH{bO:Type}{γ:Type}(o:Option (bO))(f:bO->Option γ):Option γ:=match o with | some x0=>f x0 | none=>none
@[simp] theorem ai{bO:Type}{γ:Type}(x0:bO)(f:bO->Option γ):bH (some x0) f=f x0:=rfl
@[simp] theorem CK{bO:Type}{γ:Type}(f:bO->Option γ):bH none f=none:=rfl
theorem bd1{bO:Type}{γ:Type}{o:Option (bO)}{f:bO->Option γ}{r:γ}(h:bH o f=some r) :∃x0,o=some x0/\f x0=some r:=by
 match o,h with | some x0,h=>exact⟨x0,rfl,h⟩
def Fi{bO:Type}{γ:Type}(o:Option ((bO)⊕γ))(f:bO->Option γ):Option γ:=match o with | some (.inl x0)=>f x0 | some (.inr r)=>some r | none=>none
@[simp] theorem ud{bO:Type}{γ:Type}(x0:bO)(f:bO->Option γ):Fi (some (.inl x0)) f=f x0:=rfl
@[simp] theorem Fj{bO:Type}{γ:Type}(r:γ)(f:bO->Option γ):Fi (some (.inr r)) f=some r:=rfl
@[simp] theorem CM{bO:Type}{γ:Type}(f:bO->Option γ):Fi none f=none:=rfl
def jc1{bO:Type}{γ:Type}(o:(bO)⊕γ)(f:bO->Option γ)(r:γ):Prop:=match o with | .inl x0=>f x0=some r | .inr x=>x=r
theorem jd1{bO:Type}{γ:Type}{o:Option ((bO)⊕γ)}{f:bO->Option γ}{r:γ}(h:Fi o f=some r) :∃o',o=some o'/\jc1 o' f r:=by
 match o,h with | some (.inl x0),h=>exact⟨_,rfl,h⟩ | some (.inr x),h=>exact⟨_,rfl,On h⟩
theorem jx1{bO:Type}{γ:Type}{o:(bO)⊕γ}{f:bO->Option γ}{r x:γ}(h:some (.inr x)=some o)(k:jc1 o f r):some x=some r:=by
 have e:=On h;subst e;exact afr some k
def Gl{bO:Type}{γ:Type}(o:bO)(f:bO->Option γ)(r:γ):Prop:=match o with | x0=>f x0=some r
theorem kd1{bO:Type}{γ:Type}{o:Option (bO)}{f:bO->Option γ}{r:γ}(h:bH o f=some r) :∃o',o=some o'/\Gl o' f r:=by
 match o,h with | some x0,h=>exact⟨_,rfl,h⟩
theorem jk1{bO:Type}{γ:Type}{f:bO->Option γ}{r:γ}{x0:bO}(k:jc1 (γ:=γ) (.inl x0) f r):f x0=some r:=k
theorem Vy{bO:Type}{γ:Type}{f:bO->Option γ}{r:γ}{x0:bO}(k:Gl (γ:=γ) x0 f r):f x0=some r:=k
def iQ{bO bW:Type}{γ:Type}(o:Option (bO×bW))(f:bO->bW->Option γ):Option γ:=match o with | some (x0,x1)=>f x0 x1 | none=>none
@[simp] theorem bJ{bO bW:Type}{γ:Type}(x0:bO)(x1:bW)(f:bO->bW->Option γ):iQ (some (x0,x1)) f=f x0 x1:=rfl
@[simp] theorem CN{bO bW:Type}{γ:Type}(f:bO->bW->Option γ):iQ none f=none:=rfl
theorem bd2{bO bW:Type}{γ:Type}{o:Option (bO×bW)}{f:bO->bW->Option γ}{r:γ}(h:iQ o f=some r) :∃x0 x1,o=some (x0,x1)/\f x0 x1=some r:=by
 match o,h with | some (x0,x1),h=>exact⟨x0,x1,rfl,h⟩
def Fk{bO bW:Type}{γ:Type}(o:Option ((bO×bW)⊕γ))(f:bO->bW->Option γ):Option γ:=match o with | some (.inl (x0,x1))=>f x0 x1 | some (.inr r)=>some r | none=>none
@[simp] theorem yu{bO bW:Type}{γ:Type}(x0:bO)(x1:bW)(f:bO->bW->Option γ):Fk (some (.inl (x0,x1))) f=f x0 x1:=rfl
@[simp] theorem yw{bO bW:Type}{γ:Type}(r:γ)(f:bO->bW->Option γ):Fk (some (.inr r)) f=some r:=rfl
@[simp] theorem CO{bO bW:Type}{γ:Type}(f:bO->bW->Option γ):Fk none f=none:=rfl
def jc2{bO bW:Type}{γ:Type}(o:(bO×bW)⊕γ)(f:bO->bW->Option γ)(r:γ):Prop:=match o with | .inl (x0,x1)=>f x0 x1=some r | .inr x=>x=r
theorem jd2{bO bW:Type}{γ:Type}{o:Option ((bO×bW)⊕γ)}{f:bO->bW->Option γ}{r:γ}(h:Fk o f=some r) :∃o',o=some o'/\jc2 o' f r:=by
 match o,h with | some (.inl (x0,x1)),h=>exact⟨_,rfl,h⟩ | some (.inr x),h=>exact⟨_,rfl,On h⟩
theorem jx2{bO bW:Type}{γ:Type}{o:(bO×bW)⊕γ}{f:bO->bW->Option γ}{r x:γ}(h:some (.inr x)=some o)(k:jc2 o f r):some x=some r:=by
 have e:=On h;subst e;exact afr some k
def Gm{bO bW:Type}{γ:Type}(o:bO×bW)(f:bO->bW->Option γ)(r:γ):Prop:=match o with | (x0,x1)=>f x0 x1=some r
theorem kd2{bO bW:Type}{γ:Type}{o:Option (bO×bW)}{f:bO->bW->Option γ}{r:γ}(h:iQ o f=some r) :∃o',o=some o'/\Gm o' f r:=by
 match o,h with | some (x0,x1),h=>exact⟨_,rfl,h⟩
theorem jk2{bO bW:Type}{γ:Type}{f:bO->bW->Option γ}{r:γ}{x0:bO}{x1:bW}(k:jc2 (γ:=γ) (.inl (x0,x1)) f r):f x0 x1=some r:=k
theorem kk2{bO bW:Type}{γ:Type}{f:bO->bW->Option γ}{r:γ}{x0:bO}{x1:bW}(k:Gm (γ:=γ) (x0,x1) f r):f x0 x1=some r:=k
def gh{bO bW ck:Type}{γ:Type}(o:Option (bO×bW×ck))(f:bO->bW->ck->Option γ):Option γ:=match o with | some (x0,x1,x2)=>f x0 x1 x2 | none=>none
@[simp] theorem bf{bO bW ck:Type}{γ:Type}(x0:bO)(x1:bW)(x2:ck)(f:bO->bW->ck->Option γ):gh (some (x0,x1,x2)) f=f x0 x1 x2:=rfl
@[simp] theorem CP{bO bW ck:Type}{γ:Type}(f:bO->bW->ck->Option γ):gh none f=none:=rfl
theorem bd3{bO bW ck:Type}{γ:Type}{o:Option (bO×bW×ck)}{f:bO->bW->ck->Option γ}{r:γ}(h:gh o f=some r) :∃x0 x1 x2,o=some (x0,x1,x2)/\f x0 x1 x2=some r:=by
 match o,h with | some (x0,x1,x2),h=>exact⟨x0,x1,x2,rfl,h⟩
def Gn{bO bW ck:Type}{γ:Type}(o:Option ((bO×bW×ck)⊕γ))(f:bO->bW->ck->Option γ):Option γ:=match o with | some (.inl (x0,x1,x2))=>f x0 x1 x2 | some (.inr r)=>some r | none=>none
@[simp] theorem Fl{bO bW ck:Type}{γ:Type}(x0:bO)(x1:bW)(x2:ck)(f:bO->bW->ck->Option γ):Gn (some (.inl (x0,x1,x2))) f=f x0 x1 x2:=rfl
@[simp] theorem Fm{bO bW ck:Type}{γ:Type}(r:γ)(f:bO->bW->ck->Option γ):Gn (some (.inr r)) f=some r:=rfl
@[simp] theorem CQ{bO bW ck:Type}{γ:Type}(f:bO->bW->ck->Option γ):Gn none f=none:=rfl
def Gp{bO bW ck:Type}{γ:Type}(o:bO×bW×ck)(f:bO->bW->ck->Option γ)(r:γ):Prop:=match o with | (x0,x1,x2)=>f x0 x1 x2=some r
theorem kd3{bO bW ck:Type}{γ:Type}{o:Option (bO×bW×ck)}{f:bO->bW->ck->Option γ}{r:γ}(h:gh o f=some r) :∃o',o=some o'/\Gp o' f r:=by
 match o,h with | some (x0,x1,x2),h=>exact⟨_,rfl,h⟩
theorem kk3{bO bW ck:Type}{γ:Type}{f:bO->bW->ck->Option γ}{r:γ}{x0:bO}{x1:bW}{x2:ck}(k:Gp (γ:=γ) (x0,x1,x2) f r):f x0 x1 x2=some r:=k
def pQ{bO bW ck cE:Type}{γ:Type}(o:Option (bO×bW×ck×cE))(f:bO->bW->ck->cE->Option γ):Option γ:=match o with | some (x0,x1,x2,x3)=>f x0 x1 x2 x3 | none=>none
@[simp] theorem bZ{bO bW ck cE:Type}{γ:Type}(x0:bO)(x1:bW)(x2:ck)(x3:cE)(f:bO->bW->ck->cE->Option γ):pQ (some (x0,x1,x2,x3)) f=f x0 x1 x2 x3:=rfl
@[simp] theorem CR{bO bW ck cE:Type}{γ:Type}(f:bO->bW->ck->cE->Option γ):pQ none f=none:=rfl
theorem bd4{bO bW ck cE:Type}{γ:Type}{o:Option (bO×bW×ck×cE)}{f:bO->bW->ck->cE->Option γ}{r:γ}(h:pQ o f=some r) :∃x0 x1 x2 x3,o=some (x0,x1,x2,x3)/\f x0 x1 x2 x3=some r:=by
 match o,h with | some (x0,x1,x2,x3),h=>exact⟨x0,x1,x2,x3,rfl,h⟩
def Gq{bO bW ck cE:Type}{γ:Type}(o:Option ((bO×bW×ck×cE)⊕γ))(f:bO->bW->ck->cE->Option γ):Option γ:=match o with | some (.inl (x0,x1,x2,x3))=>f x0 x1 x2 x3 | some (.inr r)=>some r | none=>none
@[simp] theorem Fo{bO bW ck cE:Type}{γ:Type}(x0:bO)(x1:bW)(x2:ck)(x3:cE)(f:bO->bW->ck->cE->Option γ):Gq (some (.inl (x0,x1,x2,x3))) f=f x0 x1 x2 x3:=rfl
@[simp] theorem Fp{bO bW ck cE:Type}{γ:Type}(r:γ)(f:bO->bW->ck->cE->Option γ):Gq (some (.inr r)) f=some r:=rfl
@[simp] theorem CS{bO bW ck cE:Type}{γ:Type}(f:bO->bW->ck->cE->Option γ):Gq none f=none:=rfl
def Gr{bO bW ck cE:Type}{γ:Type}(o:bO×bW×ck×cE)(f:bO->bW->ck->cE->Option γ)(r:γ):Prop:=match o with | (x0,x1,x2,x3)=>f x0 x1 x2 x3=some r
def Gs{bO bW ck cE cR:Type}{γ:Type}(o:Option (bO×bW×ck×cE×cR))(f:bO->bW->ck->cE->cR->Option γ):Option γ:=match o with | some (x0,x1,x2,x3,x4)=>f x0 x1 x2 x3 x4 | none=>none
@[simp] theorem aax{bO bW ck cE cR:Type}{γ:Type}(x0:bO)(x1:bW)(x2:ck)(x3:cE)(x4:cR)(f:bO->bW->ck->cE->cR->Option γ):Gs (some (x0,x1,x2,x3,x4)) f=f x0 x1 x2 x3 x4:=rfl
@[simp] theorem CT{bO bW ck cE cR:Type}{γ:Type}(f:bO->bW->ck->cE->cR->Option γ):Gs none f=none:=rfl
theorem bd5{bO bW ck cE cR:Type}{γ:Type}{o:Option (bO×bW×ck×cE×cR)}{f:bO->bW->ck->cE->cR->Option γ}{r:γ}(h:Gs o f=some r) :∃x0 x1 x2 x3 x4,o=some (x0,x1,x2,x3,x4)/\f x0 x1 x2 x3 x4=some r:=by
 match o,h with | some (x0,x1,x2,x3,x4),h=>exact⟨x0,x1,x2,x3,x4,rfl,h⟩
theorem UE{bO bW ck cE cR:Type}{x0 y0:bO}{x1 y1:bW}{x2 y2:ck}{x3 y3:cE}{x4 y4:cR}(h:some (x0,x1,x2,x3,x4)=some (y0,y1,y2,y3,y4)):x0=y0/\x1=y1/\x2=y2/\x3=y3/\x4=y4:=by
 simpa using h
def Gt{bO bW ck cE cR:Type}{γ:Type}(o:Option ((bO×bW×ck×cE×cR)⊕γ))(f:bO->bW->ck->cE->cR->Option γ):Option γ:=match o with | some (.inl (x0,x1,x2,x3,x4))=>f x0 x1 x2 x3 x4 | some (.inr r)=>some r | none=>none
@[simp] theorem Fq{bO bW ck cE cR:Type}{γ:Type}(x0:bO)(x1:bW)(x2:ck)(x3:cE)(x4:cR)(f:bO->bW->ck->cE->cR->Option γ):Gt (some (.inl (x0,x1,x2,x3,x4))) f=f x0 x1 x2 x3 x4:=rfl
@[simp] theorem Fs{bO bW ck cE cR:Type}{γ:Type}(r:γ)(f:bO->bW->ck->cE->cR->Option γ):Gt (some (.inr r)) f=some r:=rfl
@[simp] theorem CU{bO bW ck cE cR:Type}{γ:Type}(f:bO->bW->ck->cE->cR->Option γ):Gt none f=none:=rfl
def CV{bO bW ck cE cR:Type}{γ:Type}(o:bO×bW×ck×cE×cR)(f:bO->bW->ck->cE->cR->Option γ)(r:γ):Prop:=match o with | (x0,x1,x2,x3,x4)=>f x0 x1 x2 x3 x4=some r
def I2{bO bW ck cE cR di:Type}{γ:Type}(o:Option (bO×bW×ck×cE×cR×di))(f:bO->bW->ck->cE->cR->di->Option γ):Option γ:=match o with | some (x0,x1,x2,x3,x4,x5)=>f x0 x1 x2 x3 x4 x5 | none=>none
@[simp] theorem CW{bO bW ck cE cR di:Type}{γ:Type}(x0:bO)(x1:bW)(x2:ck)(x3:cE)(x4:cR)(x5:di)(f:bO->bW->ck->cE->cR->di->Option γ):I2 (some (x0,x1,x2,x3,x4,x5)) f=f x0 x1 x2 x3 x4 x5:=rfl
@[simp] theorem CX{bO bW ck cE cR di:Type}{γ:Type}(f:bO->bW->ck->cE->cR->di->Option γ):I2 none f=none:=rfl
def Gu{bO bW ck cE cR di:Type}{γ:Type}(o:Option ((bO×bW×ck×cE×cR×di)⊕γ))(f:bO->bW->ck->cE->cR->di->Option γ):Option γ:=match o with | some (.inl (x0,x1,x2,x3,x4,x5))=>f x0 x1 x2 x3 x4 x5 | some (.inr r)=>some r | none=>none
@[simp] theorem Ft{bO bW ck cE cR di:Type}{γ:Type}(x0:bO)(x1:bW)(x2:ck)(x3:cE)(x4:cR)(x5:di)(f:bO->bW->ck->cE->cR->di->Option γ):Gu (some (.inl (x0,x1,x2,x3,x4,x5))) f=f x0 x1 x2 x3 x4 x5:=rfl
@[simp] theorem Fu{bO bW ck cE cR di:Type}{γ:Type}(r:γ)(f:bO->bW->ck->cE->cR->di->Option γ):Gu (some (.inr r)) f=some r:=rfl
@[simp] theorem CY{bO bW ck cE cR di:Type}{γ:Type}(f:bO->bW->ck->cE->cR->di->Option γ):Gu none f=none:=rfl
def Gv{bO bW ck cE cR di:Type}{γ:Type}(o:bO×bW×ck×cE×cR×di)(f:bO->bW->ck->cE->cR->di->Option γ)(r:γ):Prop:=match o with | (x0,x1,x2,x3,x4,x5)=>f x0 x1 x2 x3 x4 x5=some r
def I3{bO bW ck cE cR di dR:Type}{γ:Type}(o:Option (bO×bW×ck×cE×cR×di×dR))(f:bO->bW->ck->cE->cR->di->dR->Option γ):Option γ:=match o with | some (x0,x1,x2,x3,x4,x5,x6)=>f x0 x1 x2 x3 x4 x5 x6 | none=>none
@[simp] theorem CZ{bO bW ck cE cR di dR:Type}{γ:Type}(x0:bO)(x1:bW)(x2:ck)(x3:cE)(x4:cR)(x5:di)(x6:dR)(f:bO->bW->ck->cE->cR->di->dR->Option γ):I3 (some (x0,x1,x2,x3,x4,x5,x6)) f=f x0 x1 x2 x3 x4 x5 x6:=rfl
@[simp] theorem C0{bO bW ck cE cR di dR:Type}{γ:Type}(f:bO->bW->ck->cE->cR->di->dR->Option γ):I3 none f=none:=rfl
def Gw{bO bW ck cE cR di dR:Type}{γ:Type}(o:Option ((bO×bW×ck×cE×cR×di×dR)⊕γ))(f:bO->bW->ck->cE->cR->di->dR->Option γ):Option γ:=match o with | some (.inl (x0,x1,x2,x3,x4,x5,x6))=>f x0 x1 x2 x3 x4 x5 x6 | some (.inr r)=>some r | none=>none
@[simp] theorem Fv{bO bW ck cE cR di dR:Type}{γ:Type}(x0:bO)(x1:bW)(x2:ck)(x3:cE)(x4:cR)(x5:di)(x6:dR)(f:bO->bW->ck->cE->cR->di->dR->Option γ):Gw (some (.inl (x0,x1,x2,x3,x4,x5,x6))) f=f x0 x1 x2 x3 x4 x5 x6:=rfl
@[simp] theorem Fw{bO bW ck cE cR di dR:Type}{γ:Type}(r:γ)(f:bO->bW->ck->cE->cR->di->dR->Option γ):Gw (some (.inr r)) f=some r:=rfl
@[simp] theorem C1{bO bW ck cE cR di dR:Type}{γ:Type}(f:bO->bW->ck->cE->cR->di->dR->Option γ):Gw none f=none:=rfl
def Gx{bO bW ck cE cR di dR:Type}{γ:Type}(o:bO×bW×ck×cE×cR×di×dR)(f:bO->bW->ck->cE->cR->di->dR->Option γ)(r:γ):Prop:=match o with | (x0,x1,x2,x3,x4,x5,x6)=>f x0 x1 x2 x3 x4 x5 x6=some r
def I4{bO bW ck cE cR di dR eO:Type}{γ:Type}(o:Option (bO×bW×ck×cE×cR×di×dR×eO))(f:bO->bW->ck->cE->cR->di->dR->eO->Option γ):Option γ:=match o with | some (x0,x1,x2,x3,x4,x5,x6,x7)=>f x0 x1 x2 x3 x4 x5 x6 x7 | none=>none
@[simp] theorem C2{bO bW ck cE cR di dR eO:Type}{γ:Type}(x0:bO)(x1:bW)(x2:ck)(x3:cE)(x4:cR)(x5:di)(x6:dR)(x7:eO)(f:bO->bW->ck->cE->cR->di->dR->eO->Option γ):I4 (some (x0,x1,x2,x3,x4,x5,x6,x7)) f=f x0 x1 x2 x3 x4 x5 x6 x7:=rfl
@[simp] theorem C3{bO bW ck cE cR di dR eO:Type}{γ:Type}(f:bO->bW->ck->cE->cR->di->dR->eO->Option γ):I4 none f=none:=rfl
def Gy{bO bW ck cE cR di dR eO:Type}{γ:Type}(o:Option ((bO×bW×ck×cE×cR×di×dR×eO)⊕γ))(f:bO->bW->ck->cE->cR->di->dR->eO->Option γ):Option γ:=match o with | some (.inl (x0,x1,x2,x3,x4,x5,x6,x7))=>f x0 x1 x2 x3 x4 x5 x6 x7 | some (.inr r)=>some r | none=>none
@[simp] theorem Fx{bO bW ck cE cR di dR eO:Type}{γ:Type}(x0:bO)(x1:bW)(x2:ck)(x3:cE)(x4:cR)(x5:di)(x6:dR)(x7:eO)(f:bO->bW->ck->cE->cR->di->dR->eO->Option γ):Gy (some (.inl (x0,x1,x2,x3,x4,x5,x6,x7))) f=f x0 x1 x2 x3 x4 x5 x6 x7:=rfl
@[simp] theorem Fy{bO bW ck cE cR di dR eO:Type}{γ:Type}(r:γ)(f:bO->bW->ck->cE->cR->di->dR->eO->Option γ):Gy (some (.inr r)) f=some r:=rfl
@[simp] theorem C4{bO bW ck cE cR di dR eO:Type}{γ:Type}(f:bO->bW->ck->cE->cR->di->dR->eO->Option γ):Gy none f=none:=rfl
def Gz{bO bW ck cE cR di dR eO:Type}{γ:Type}(o:bO×bW×ck×cE×cR×di×dR×eO)(f:bO->bW->ck->cE->cR->di->dR->eO->Option γ)(r:γ):Prop:=match o with | (x0,x1,x2,x3,x4,x5,x6,x7)=>f x0 x1 x2 x3 x4 x5 x6 x7=some r
def I5{bO bW ck cE cR di dR eO gw:Type}{γ:Type}(o:Option (bO×bW×ck×cE×cR×di×dR×eO×gw))(f:bO->bW->ck->cE->cR->di->dR->eO->gw->Option γ):Option γ:=match o with | some (x0,x1,x2,x3,x4,x5,x6,x7,x8)=>f x0 x1 x2 x3 x4 x5 x6 x7 x8 | none=>none
@[simp] theorem C5{bO bW ck cE cR di dR eO gw:Type}{γ:Type}(x0:bO)(x1:bW)(x2:ck)(x3:cE)(x4:cR)(x5:di)(x6:dR)(x7:eO)(x8:gw)(f:bO->bW->ck->cE->cR->di->dR->eO->gw->Option γ):I5 (some (x0,x1,x2,x3,x4,x5,x6,x7,x8)) f=f x0 x1 x2 x3 x4 x5 x6 x7 x8:=rfl
@[simp] theorem C6{bO bW ck cE cR di dR eO gw:Type}{γ:Type}(f:bO->bW->ck->cE->cR->di->dR->eO->gw->Option γ):I5 none f=none:=rfl
def GA{bO bW ck cE cR di dR eO gw:Type}{γ:Type}(o:Option ((bO×bW×ck×cE×cR×di×dR×eO×gw)⊕γ))(f:bO->bW->ck->cE->cR->di->dR->eO->gw->Option γ):Option γ:=match o with | some (.inl (x0,x1,x2,x3,x4,x5,x6,x7,x8))=>f x0 x1 x2 x3 x4 x5 x6 x7 x8 | some (.inr r)=>some r | none=>none
@[simp] theorem Fz{bO bW ck cE cR di dR eO gw:Type}{γ:Type}(x0:bO)(x1:bW)(x2:ck)(x3:cE)(x4:cR)(x5:di)(x6:dR)(x7:eO)(x8:gw)(f:bO->bW->ck->cE->cR->di->dR->eO->gw->Option γ):GA (some (.inl (x0,x1,x2,x3,x4,x5,x6,x7,x8))) f=f x0 x1 x2 x3 x4 x5 x6 x7 x8:=rfl
@[simp] theorem FA{bO bW ck cE cR di dR eO gw:Type}{γ:Type}(r:γ)(f:bO->bW->ck->cE->cR->di->dR->eO->gw->Option γ):GA (some (.inr r)) f=some r:=rfl
@[simp] theorem C7{bO bW ck cE cR di dR eO gw:Type}{γ:Type}(f:bO->bW->ck->cE->cR->di->dR->eO->gw->Option γ):GA none f=none:=rfl
def FB{bO bW ck cE cR di dR eO gw:Type}{γ:Type}(o:bO×bW×ck×cE×cR×di×dR×eO×gw)(f:bO->bW->ck->cE->cR->di->dR->eO->gw->Option γ)(r:γ):Prop:=match o with | (x0,x1,x2,x3,x4,x5,x6,x7,x8)=>f x0 x1 x2 x3 x4 x5 x6 x7 x8=some r
def C8{bO bW ck cE cR di dR eO gw iS:Type}{γ:Type}(o:Option (bO×bW×ck×cE×cR×di×dR×eO×gw×iS))(f:bO->bW->ck->cE->cR->di->dR->eO->gw->iS->Option γ):Option γ:=match o with | some (x0,x1,x2,x3,x4,x5,x6,x7,x8,x9)=>f x0 x1 x2 x3 x4 x5 x6 x7 x8 x9 | none=>none
@[simp] theorem Cg{bO bW ck cE cR di dR eO gw iS:Type}{γ:Type}(x0:bO)(x1:bW)(x2:ck)(x3:cE)(x4:cR)(x5:di)(x6:dR)(x7:eO)(x8:gw)(x9:iS)(f:bO->bW->ck->cE->cR->di->dR->eO->gw->iS->Option γ):C8 (some (x0,x1,x2,x3,x4,x5,x6,x7,x8,x9)) f=f x0 x1 x2 x3 x4 x5 x6 x7 x8 x9:=rfl
@[simp] theorem Ch{bO bW ck cE cR di dR eO gw iS:Type}{γ:Type}(f:bO->bW->ck->cE->cR->di->dR->eO->gw->iS->Option γ):C8 none f=none:=rfl
def AL{bO bW ck cE cR di dR eO gw iS:Type}{γ:Type}(o:Option ((bO×bW×ck×cE×cR×di×dR×eO×gw×iS)⊕γ))(f:bO->bW->ck->cE->cR->di->dR->eO->gw->iS->Option γ):Option γ:=match o with | some (.inl (x0,x1,x2,x3,x4,x5,x6,x7,x8,x9))=>f x0 x1 x2 x3 x4 x5 x6 x7 x8 x9 | some (.inr r)=>some r | none=>none
@[simp] theorem C9{bO bW ck cE cR di dR eO gw iS:Type}{γ:Type}(x0:bO)(x1:bW)(x2:ck)(x3:cE)(x4:cR)(x5:di)(x6:dR)(x7:eO)(x8:gw)(x9:iS)(f:bO->bW->ck->cE->cR->di->dR->eO->gw->iS->Option γ):AL (some (.inl (x0,x1,x2,x3,x4,x5,x6,x7,x8,x9))) f=f x0 x1 x2 x3 x4 x5 x6 x7 x8 x9:=rfl
@[simp] theorem Da{bO bW ck cE cR di dR eO gw iS:Type}{γ:Type}(r:γ)(f:bO->bW->ck->cE->cR->di->dR->eO->gw->iS->Option γ):AL (some (.inr r)) f=some r:=rfl
@[simp] theorem Ci{bO bW ck cE cR di dR eO gw iS:Type}{γ:Type}(f:bO->bW->ck->cE->cR->di->dR->eO->gw->iS->Option γ):AL none f=none:=rfl
def AM{bO bW ck cE cR di dR eO gw iS:Type}{γ:Type}(o:bO×bW×ck×cE×cR×di×dR×eO×gw×iS)(f:bO->bW->ck->cE->cR->di->dR->eO->gw->iS->Option γ)(r:γ):Prop:=match o with | (x0,x1,x2,x3,x4,x5,x6,x7,x8,x9)=>f x0 x1 x2 x3 x4 x5 x6 x7 x8 x9=some r
def Db{bO bW ck cE cR di dR eO gw iS gI:Type}{γ:Type}(o:Option (bO×bW×ck×cE×cR×di×dR×eO×gw×iS×gI))(f:bO->bW->ck->cE->cR->di->dR->eO->gw->iS->gI->Option γ):Option γ:=match o with | some (x0,x1,x2,x3,x4,x5,x6,x7,x8,x9,pD)=>f x0 x1 x2 x3 x4 x5 x6 x7 x8 x9 pD | none=>none
@[simp] theorem Cj{bO bW ck cE cR di dR eO gw iS gI:Type}{γ:Type}(x0:bO)(x1:bW)(x2:ck)(x3:cE)(x4:cR)(x5:di)(x6:dR)(x7:eO)(x8:gw)(x9:iS)(pD:gI)(f:bO->bW->ck->cE->cR->di->dR->eO->gw->iS->gI->Option γ):Db (some (x0,x1,x2,x3,x4,x5,x6,x7,x8,x9,pD)) f=f x0 x1 x2 x3 x4 x5 x6 x7 x8 x9 pD:=rfl
@[simp] theorem Ck{bO bW ck cE cR di dR eO gw iS gI:Type}{γ:Type}(f:bO->bW->ck->cE->cR->di->dR->eO->gw->iS->gI->Option γ):Db none f=none:=rfl
def AN{bO bW ck cE cR di dR eO gw iS gI:Type}{γ:Type}(o:Option ((bO×bW×ck×cE×cR×di×dR×eO×gw×iS×gI)⊕γ))(f:bO->bW->ck->cE->cR->di->dR->eO->gw->iS->gI->Option γ):Option γ:=match o with | some (.inl (x0,x1,x2,x3,x4,x5,x6,x7,x8,x9,pD))=>f x0 x1 x2 x3 x4 x5 x6 x7 x8 x9 pD | some (.inr r)=>some r | none=>none
@[simp] theorem Dc{bO bW ck cE cR di dR eO gw iS gI:Type}{γ:Type}(x0:bO)(x1:bW)(x2:ck)(x3:cE)(x4:cR)(x5:di)(x6:dR)(x7:eO)(x8:gw)(x9:iS)(pD:gI)(f:bO->bW->ck->cE->cR->di->dR->eO->gw->iS->gI->Option γ):AN (some (.inl (x0,x1,x2,x3,x4,x5,x6,x7,x8,x9,pD))) f=f x0 x1 x2 x3 x4 x5 x6 x7 x8 x9 pD:=rfl
@[simp] theorem Dd{bO bW ck cE cR di dR eO gw iS gI:Type}{γ:Type}(r:γ)(f:bO->bW->ck->cE->cR->di->dR->eO->gw->iS->gI->Option γ):AN (some (.inr r)) f=some r:=rfl
@[simp] theorem Cl{bO bW ck cE cR di dR eO gw iS gI:Type}{γ:Type}(f:bO->bW->ck->cE->cR->di->dR->eO->gw->iS->gI->Option γ):AN none f=none:=rfl
def AO{bO bW ck cE cR di dR eO gw iS gI:Type}{γ:Type}(o:bO×bW×ck×cE×cR×di×dR×eO×gw×iS×gI)(f:bO->bW->ck->cE->cR->di->dR->eO->gw->iS->gI->Option γ)(r:γ):Prop:=match o with | (x0,x1,x2,x3,x4,x5,x6,x7,x8,x9,pD)=>f x0 x1 x2 x3 x4 x5 x6 x7 x8 x9 pD=some r
def De{bO bW ck cE cR di dR eO gw iS gI lZ:Type}{γ:Type}(o:Option (bO×bW×ck×cE×cR×di×dR×eO×gw×iS×gI×lZ))(f:bO->bW->ck->cE->cR->di->dR->eO->gw->iS->gI->lZ->Option γ):Option γ:=match o with | some (x0,x1,x2,x3,x4,x5,x6,x7,x8,x9,pD,yx)=>f x0 x1 x2 x3 x4 x5 x6 x7 x8 x9 pD yx | none=>none
@[simp] theorem Cm{bO bW ck cE cR di dR eO gw iS gI lZ:Type}{γ:Type}(x0:bO)(x1:bW)(x2:ck)(x3:cE)(x4:cR)(x5:di)(x6:dR)(x7:eO)(x8:gw)(x9:iS)(pD:gI)(yx:lZ)(f:bO->bW->ck->cE->cR->di->dR->eO->gw->iS->gI->lZ->Option γ):De (some (x0,x1,x2,x3,x4,x5,x6,x7,x8,x9,pD,yx)) f=f x0 x1 x2 x3 x4 x5 x6 x7 x8 x9 pD yx:=rfl
@[simp] theorem Cn{bO bW ck cE cR di dR eO gw iS gI lZ:Type}{γ:Type}(f:bO->bW->ck->cE->cR->di->dR->eO->gw->iS->gI->lZ->Option γ):De none f=none:=rfl
def AP{bO bW ck cE cR di dR eO gw iS gI lZ:Type}{γ:Type}(o:Option ((bO×bW×ck×cE×cR×di×dR×eO×gw×iS×gI×lZ)⊕γ))(f:bO->bW->ck->cE->cR->di->dR->eO->gw->iS->gI->lZ->Option γ):Option γ:=match o with | some (.inl (x0,x1,x2,x3,x4,x5,x6,x7,x8,x9,pD,yx))=>f x0 x1 x2 x3 x4 x5 x6 x7 x8 x9 pD yx | some (.inr r)=>some r | none=>none
@[simp] theorem Dg{bO bW ck cE cR di dR eO gw iS gI lZ:Type}{γ:Type}(x0:bO)(x1:bW)(x2:ck)(x3:cE)(x4:cR)(x5:di)(x6:dR)(x7:eO)(x8:gw)(x9:iS)(pD:gI)(yx:lZ)(f:bO->bW->ck->cE->cR->di->dR->eO->gw->iS->gI->lZ->Option γ):AP (some (.inl (x0,x1,x2,x3,x4,x5,x6,x7,x8,x9,pD,yx))) f=f x0 x1 x2 x3 x4 x5 x6 x7 x8 x9 pD yx:=rfl
@[simp] theorem Dh{bO bW ck cE cR di dR eO gw iS gI lZ:Type}{γ:Type}(r:γ)(f:bO->bW->ck->cE->cR->di->dR->eO->gw->iS->gI->lZ->Option γ):AP (some (.inr r)) f=some r:=rfl
@[simp] theorem Co{bO bW ck cE cR di dR eO gw iS gI lZ:Type}{γ:Type}(f:bO->bW->ck->cE->cR->di->dR->eO->gw->iS->gI->lZ->Option γ):AP none f=none:=rfl
abbrev wi(x:Int):Int:=IntKind.i64.wrap x
theorem bz{x:Int}(h:-9223372036854775808<=x/\x<=9223372036854775807):wi x=x:=i64_in x h
abbrev aZ(i:Int)(n:Nat):Prop:=0<=i/\i<(n:Int)
theorem zN{α:Type}[Inhabited α]{l:List α}{i:Int}(h:aZ i l.length):l[i.toNat]? = some (ag l i.toNat):=get_at (by have:=h.1;have:=h.2;omega)
theorem NS{α:Type}[Inhabited α]{l:List α}{i:Int}(h:aZ i l.length):i.toNat<l.length:=by have:=h.1;have:=h.2;omega
def oE(x:Int):List Value:=[.int .i64 x]
theorem rm:QB oE 1:=⟨λ_=>rfl,λx u h=>by simp only[oE,afv,afw,afx]at h;subst h;rfl,by decide⟩
def wu(x:Bool):List Value:=[.bool x]
def Cp:Option Addr->Nat | some a=>a.block | none=>0
def sJ:Option Addr->Nat | some a=>a.off | none=>0
section
variable {P:Program}{w0 w:World}{L:List M5}{α:Type}{E:TypeId}{sz n cc:Nat}{enc:α->List Value}{l:List α}{ca:Option Addr}{o:Oper}{e:Nat->Value}{t:TypeId}{Df:List Deferred}
theorem _root_.Go.Proofs.YtpikpffbcjpmcaaGreatDoor.SL.Fit.Qq(h:Fit w0 (cQ (rowOf E sz enc (.slice ca n cc) l::L)) w)(hl:0<l.length):ca=some ⟨Cp ca,0,none⟩/\Fit w0 (cQ (slc E sz enc (Cp ca) cc l::L)) w:=by
 obtain⟨g,e,h'⟩:=h.abq hl
 subst e
 exact⟨rfl,h'⟩
theorem _root_.Go.Proofs.YtpikpffbcjpmcaaGreatDoor.SL.Fit.Ng(he:QB enc sz)(h:Fit w0 (cQ (rowOf E sz enc (.slice ca n cc) l::L)) w){i f:Nat}{x:α}{u:Value}(hi:l[i]? = some x)(hf:(enc x)[f]? = some u):w.cell? ⟨Cp ca,i*sz+f,none⟩=some u:=by
 have hlt:i<l.length:=(List.getElem?_eq_some_iff.1 hi).1
 exact(h.Qq (by omega)).2.ZG he i f x u hi hf
theorem _root_.Go.Proofs.YtpikpffbcjpmcaaGreatDoor.SL.Fit.Sx(h:Fit w0 (cQ (slc E sz enc (Cp ca) cc l::L)) w)(hca:ca=some ⟨Cp ca,0,none⟩)(hn:n=l.length):Fit w0 (cQ (rowOf E sz enc (.slice ca n cc) l::L)) w:=h.abr hca hn
theorem OD{w':World}{x y:Operand}{k:IntKind}{i:Int}(ho:o.op= .indexAddr t x y)(hx:po e x= .slice ca n cc)(hy:po e y= .int k i)
 (ht:P.underlying t=some (.slice E)) (hs:(P.info? E).map (·.size)=some sz) (hF:Fit w0 (cQ (rowOf E sz enc (.slice ca n cc) l::L)) w) (hi:aZ i l.length):(execOp (po e) o).run P w'= .ok (.value (.pointer (some ⟨Cp ca,i.toNat*sz,none⟩))) w':=by
 have hn:=hF.N4
 have h0:=hi.1;have h1:=hi.2
 have hca:=(hF.Qq (by omega)).1
 exact ack hca ho hx hy ht hs h0 (by omega)
end
section
variable {P:Program}{ops:Array Oper}{Q:Exit->Act->World->Prop}{a:Act}{w w0 w1:World}{rest:List Oper}{o:Oper}{n d t:Nat}{v:Value}{l:List (Nat×Value)}{j e:Nat->Value}{L:List M5}{H:M5}{Df:List Deferred}
variable {α:Type}{E:TypeId}{sz n0 cc:Nat}{enc:α->List Value}{xs:List α}{ca:Option Addr}
theorem M7{x y:Operand}(hw:Region.wanted o (yielded ops a.tmps)=true)(hd:o.dst=none)(hr:fy Df n (lk l j) a)(ho:o.op= .store t x y)
 {i f:Nat} (hx:po (lk l j) x= .pointer (some ⟨Cp ca,i*sz+f,none⟩)) (hy:po (lk l j) y=v) (hv:v.cells=#[v]) (h1:v.oneCell'=true) (hs:(P.info? t).map (·.size)=some 1)
 (he:QB enc sz) (hF:Fit w0 (cQ (rowOf E sz enc (.slice ca n0 cc) xs::L)) w) {p q:α} (hp:xs[i]? = some p) (hf:f<sz) (hq:enc q=(enc p).set f v)
 (k:∀w1,Fit w0 (cQ (rowOf E sz enc (.slice ca n0 cc) (xs.set i q)::L)) w1->wpList P ops Q rest a w1):wpList P ops Q (o::rest) a w:=by
 have hlt:i<xs.length:=(List.getElem?_eq_some_iff.1 hp).1
 have hn:=hF.N4
 obtain⟨hca,Ui⟩:=hF.Qq (by omega)
 exact XI hw hd hr ho hx hy hv h1 hs he Ui hp hf hq λw1 h=>k w1 (h.Sx hca (by rw[acG];exact hn))
theorem Se{x y:Operand}{vs:List Value}(hw:Region.wanted o (yielded ops a.tmps)=true)(hd:o.dst=none)(hr:fy Df n (lk l j) a)(ho:o.op= .store t x y)
 {i:Nat} (hx:po (lk l j) x= .pointer (some ⟨Cp ca,i*sz,none⟩)) (hy:po (lk l j) y= .agg vs.toArray) (h1:vs.all (·.oneCell')=true) (hs:(P.info? t).map (·.size)=some vs.length)
 (he:QB enc sz) (hF:Fit w0 (cQ (rowOf E sz enc (.slice ca n0 cc) xs::L)) w) {q:α} (hi:i<xs.length) (hq:enc q=vs)
 (k:∀w1,Fit w0 (cQ (rowOf E sz enc (.slice ca n0 cc) (xs.set i q)::L)) w1->wpList P ops Q rest a w1):wpList P ops Q (o::rest) a w:=by
 have hn:=hF.N4
 obtain⟨hca,Ui⟩:=hF.Qq (by omega)
 exact W6 hw hd hr ho hx hy h1 hs he Ui hi hq λw1 h=>k w1 (h.Sx hca (by rw[acG];exact hn))
theorem PS{x y:Operand}{i:Int}{bytes:Nat}{zc:Array Value}(z0:α)(hw:Region.wanted o (yielded ops a.tmps)=true)(hd:o.dst=some d)(hn:Nat.blt d n=true)(hr:fy Df n (lk l j) a)
 (ho:o.op= .makeSlice t x y) (hx:po (lk l j) x= .int .i64 i) (hy:po (lk l j) y= .int .i64 i) (hi:0<=i/\i*bytes<=140737488355328) (he:QB enc sz) (hty:P.underlying t=some (.slice E))
 (Qe:(P.info? E).map (λi=>(i.size,i.bytes,i.zero.map (·.cells)))=some (sz,bytes,some zc)) (hz:zc.toList=enc z0) (YZ:Nat.blt 0 bytes=true) (hF:Fit w0 (cQ L) w)
 (k:∀ca w1 a,Fit w0 (cQ (rowOf E sz enc (.slice ca (List.replicate i.toNat z0).length i.toNat) (List.replicate i.toNat z0)::L)) w1->fy Df n (lk ((d,.slice ca (List.replicate i.toNat z0).length i.toNat)::l) j) a->wpList P ops Q rest a w1):wpList P ops Q (o::rest) a w:=by
 have hb:i.toNat*bytes<=140737488355328:=by
  have h2:=hi.2
  have e:((i.toNat*bytes:Nat):Int)=i*bytes:=by rw[Int.natCast_mul,Int.toNat_of_nonneg hi.1]
  omega
 refine abw (c:=i.toNat) z0 hw hd hn hr ho hx hy (by have:=hi.1;omega) he hty Qe hz hb YZ hF λg w1 a h Xq => ?_
 have hl:(List.replicate i.toNat z0).length=i.toNat:=aeb
 refine k (some ⟨g,0,none⟩) w1 a (h.ZF rfl) ?_
 rw[hl];exact Xq
theorem Yq{s x:Operand}{cb:Option Addr}{n1 cd:Nat}{ys:List α}(hw:Region.wanted o (yielded ops a.tmps)=true)(hd:o.dst=some d)(hn:Nat.blt d n=true)(hr:fy Df n (lk l j) a)
 (ho:o.op= .call {callee:=.builtin .copy,args:=#[s,x],argTypes:=#[t,t]}) (hs:po (lk l j) s= .slice ca n0 cc) (hx:po (lk l j) x= .slice cb n1 cd)
 (he:QB enc sz) (hty:P.underlying t=some (.slice E)) (hsz:(P.info? E).map (·.size)=some sz) (hlen:ys.length=xs.length)
 (hF:Fit w0 (cQ (rowOf E sz enc (.slice ca n0 cc) xs::rowOf E sz enc (.slice cb n1 cd) ys::L)) w)
 (k:∀w1 a,Fit w0 (cQ (rowOf E sz enc (.slice ca n0 cc) ys::rowOf E sz enc (.slice cb n1 cd) ys::L)) w1->fy Df n (lk ((d,.int .i64 ((xs.length:Nat):Int))::l) j) a->wpList P ops Q rest a w1):wpList P ops Q (o::rest) a w:=by
 have JA:=hF.N4
 have BN:=(hF.pick 1).N4
 rcases hF.rows with ⟨e1,e2,Ui⟩ | ⟨g,cap,e1,_,Ui⟩
 ·simp only[Value.slice.injEq]at e1
  obtain⟨rfl,rfl,rfl⟩:=e1
  subst e2
  obtain rfl:ys=[]:=agr hlen
  subst BN
  refine Qg (w1:=w) (v:=.int .i64 0) hw hd hn hr ?_ (λa hr=>k w a hF (by simpa using hr))
  have hcells:(Builtin.firstCells sz 0 (.slice cb 0 cd)).run P w= .ok #[] w:=by
   have:=hF.pick 1
   rcases(hF.pick 1).rows with ⟨e3,_,_⟩ | ⟨g',cap',e3,_,_⟩<;>simp only[Value.slice.injEq]at e3<;>rw[e3.1]
   ·have:=run_firstCells_none (P:=P) w sz 0 0 cd;simpa using this
   ·have:=run_firstCells_some (P:=P) w sz 0 ⟨g',0,none⟩ 0 cd [] (by simp) (by intro j u hu;simp at hu);simpa using this
  unfold execOp
  cases RG:P.info? E with
  | none=>simp[RG]at hsz
  | some q =>
   simp[RG]at hsz
   simp only[ho,resolve,invoke,builtin,aee,afu,aef,agk,afZ,af5,hs,hx]
   simp[Builtin.copy_,run_underlying hty,Builtin.lenOf,sizeOf,typeInfo,RG,hsz,hcells,goInt]
 ·simp only[Value.slice.injEq]at e1
  obtain⟨rfl,_,rfl⟩:=e1
  exact abx hw hd hn hr ho hs hx JA he hty hsz hlen Ui λw1 a h Xq=>k w1 a (h.ZF (by omega)) Xq
theorem _root_.Go.Proofs.YtpikpffbcjpmcaaGreatDoor.SL.Fit.dn{w0 w:World}(k:Nat){L:List M5}(h:Fit w0 (cQ L) w):Fit w0 (cQ (L.drop k)) w:=by
 induction k generalizing L with
 | zero=>exact h
 | succ k ih =>
  cases L with
  | nil=>exact h
  | cons P L=>exact ih h.drop
def jJ{α:Type}(L:List M5)(sz:Nat)(enc:α->List Value)(va:Option Addr)(l:List α):Prop:=
 ∀i x,l[i]? = some x->va=some ⟨Cp va,sJ va,none⟩/\∀f u,(enc x)[f]? = some u->∀z w,Fit z (cQ L) w->w.cell? ⟨Cp va,sJ va+i*sz+f,none⟩=some u
theorem jJ.nil{va:Option Addr}:jJ L sz enc va ([]:List α):=λi x h=>by simp at h
theorem jJ.up(k:Nat){L':List M5}{va:Option Addr}{l:List α}(h:jJ (L'.drop k) sz enc va l):jJ L' sz enc va l:=
 λi x hx=>⟨(h i x hx).1,λf u hu z w hw=>(h i x hx).2 f u hu z w (hw.dn k)⟩
theorem jJ.V8{z0:World}{L' L'' L3:List M5}{n cc:Nat}{l:List α}(he:QB enc sz)(h0:Fit z0 (cQ (rowOf E sz enc (.slice ca n cc) l::L'')) w)
 (f:∀{z w},Fit z (cQ L') w->Fit z (cQ (rowOf E sz enc (.slice ca n cc) l::L3)) w):jJ L' sz enc ca l:=by
 intro i x hx
 have hlt:i<l.length:=(List.getElem?_eq_some_iff.1 hx).1
 have hca:=(h0.Qq (by omega)).1
 have ho:sJ ca=0:=by rw[hca];rfl
 refine⟨by rw[ho];exact hca,λq u hu z w hw => ?_⟩
 rw[ho,af3]
 exact(f hw).Ng he hx hu
theorem jJ.take{va:Option Addr}{l:List α}(h:jJ L sz enc va l)(k:Nat):jJ L sz enc va (l.take k):=by
 intro i x hx
 refine h i x ?_
 rw[List.getElem?_take]at hx
 split at hx
 ·exact hx
 ·cases hx
theorem Sy{x y:Operand}{k:IntKind}{i:Int}{n0:Nat}{L:List M5}{va:Option Addr}[Inhabited α]{l:List α}(ho:o.op= .indexAddr t x y)(hx:po e x= .slice va n0 cc)(hy:po e y= .int k i)(JA:n0=l.length)
 (ht:P.underlying t=some (.slice E)) (hs:(P.info? E).map (·.size)=some sz) (hF:jJ L sz enc va l) (hi:aZ i l.length):(execOp (po e) o).run P w= .ok (.value (.pointer (some ⟨Cp va,sJ va+i.toNat*sz,none⟩))) w:=by
 have h0:=hi.1;have h1:=hi.2
 exact rie (hF _ _ (zN hi)).1 ho hx hy ht hs h0 (by omega)
theorem jJ.cell{z:World}{L:List M5}{va:Option Addr}[Inhabited α]{l:List α}{i:Int}(hF:jJ L sz enc va l)(hi:aZ i l.length)(h:Fit z (cQ L) w)(f:Nat){u:Value}(hu:(enc (ag l i.toNat))[f]? = some u):w.cell? ⟨Cp va,sJ va+i.toNat*sz+f,none⟩=some u:=
 (hF _ _ (zN hi)).2 f u hu z w h
theorem oF:∀(n:Nat) (L:List M5),cQ ((List.range n).map (λi=>L.getD i sI)++L.drop n)=cQ L
 | 0,L=>by simp
 | n+1,[]=>by
  have e:∀n,cQ ((List.range n).map (λi=>([]:List M5).getD i sI))=cQ []:=by
   intro n
   induction n with
   | zero=>rfl
   | succ n ih =>
    rw[List.range_succ,ags,lW,ih]
    show sep sI (sep sI sI)=sI
    rw[ou,ou]
  simpa using e (n+1)
 | n+1,P::L=>by
  rw[List.range_succ_eq_map,afZ,List.map_map]
  have ih:=oF n L
  show sep P (cQ (List.map ((λi=>(P::L).getD i sI)∘Nat.succ) (List.range n)++L.drop n))=sep P (cQ L)
  rw[<-ih]
  rfl
def GB(n:Nat)(is:List Nat):Bool:=(is++(List.range n).filter (λi => !is.contains i)).isPerm (List.range n)
theorem _root_.Go.Proofs.YtpikpffbcjpmcaaGreatDoor.SL.Fit.Di{w0 w:World}{L L':List M5}(h:Fit w0 (cQ L) w)(n:Nat)(is:List Nat)(hB:GB n is=true)(e:is.map (λi=>L.getD i sI)++L.drop n=L'):Fit w0 (cQ L') w:=by
 subst e
 have hp:=(List.isPerm_iff.1 hB).map (λi=>L.getD i sI)
 have h1:Fit w0 (cQ ((List.range n).map (λi=>L.getD i sI)++L.drop n)) w:=h.eq (oF n L).symm
 rw[ags]at hp
 have h2:=h1.perm (hp.symm.append_right (L.drop n))
 have h3:=h2.perm (List.perm_append_comm.append_right (L.drop n))
 rw[aeA]at h3
 generalize ((List.range n).filter (λi => !is.contains i)).map (λi=>L.getD i sI)=X at h3
 clear h h1 h2 hp hB
 induction X with
 | nil=>exact h3
 | cons x X ih=>exact ih h3.drop
theorem Ur{f:FuncId}{args:Array Value}(hw:Region.wanted o (yielded ops a.tmps)=true)(hd:o.dst=some d)(hn:Nat.blt d n=true)(hr:fy Df n (lk l j) a)
 (hrun:(execOp (po (lk l j)) o).run P w= .ok (.enter f args) w) (hc:Calls P f args w λe w1 =>∃v,e= .returned v/\∀a,fy Df n (lk ((d,v)::l) j) a->wpList P ops Q rest a w1):wpList P ops Q (o::rest) a w:=
 ng hw hd hn hr hrun hc λe w1 h=>h
theorem Qr{fn:Func}{R:Ending->World->Prop}{t1 t2 t3:Nat}{v1 v2 v3:Value}(hres:fn.results=#[.tmp t1,.tmp t2,.tmp t3])(hr:Gk n e a)(h1:e t1=v1)(h2:e t2=v2)(h3:e t3=v3)(h:R (.returned (.tuple #[v1,v2,v3])) w):bodyPost P fn R .ret a w:=by
 refine bodyPost_ret ?_ hr.defers h
 have g1:=hr.get t1;have g2:=hr.get t2;have g3:=hr.get t3
 rw[h1,afO]at g1
 rw[h2,afO]at g2
 rw[h3,afO]at g3
 simp[results,hres,g1,g2,g3]
variable {md:Region.Mode}
def fb(P:Program)(md:Region.Mode)(ops:Array Oper)(Q:Exit->Act->World->Prop)(D:World->Prop)(E:List Nat):Nat->Array Bool->Act->World->Prop
 | 0,listed,a,w=>Region.ready md ops listed=[]/\Q .normal a w
 | fuel+1,listed,a,w=>(Region.ready md ops listed=[]->Q .normal a w)/\
  ∀i∈Region.ready md ops listed,wpOp P ops Q i (λa w=>(i∈E->D w)/\fb P md ops Q D E fuel (listed.setIfInBounds i true) a w) a w
theorem V9{D:World->Prop}{E:List Nat}:∀(fuel:Nat) (listed:Array Bool) (a:Act) (w:World),fb P md ops Q D E fuel listed a w->wpAny P md ops Q fuel listed a w
 | 0,_,_,_,h=>h
 | f+1,listed,a,w,h=>⟨h.1,λi hi=>wpOp_mono (λa w k=>V9 f _ a w k.2) (h.2 i hi)⟩
def rq(md:Region.Mode)(ops:Array Oper)(E:List Nat)(listed:Array Bool)(i:Nat):Bool:=
 (List.range ops.size).all λk=>k==i||listed.getD k true || !rj md ops listed i ops.size k||E.contains k||match ops[k]? with | some ok=>nK ok | none=>true
theorem aaa{D D':World->Prop}{E E':List Nat}{k:Nat}{oi ok:Oper}(hk:ops[k]? = some ok)(hap:oi.apart ops ok=true)(yg:kH Q)
 (hsi:∀cs b,oi.op≠.select cs b) (I6:∀cs b,ok.op≠.select cs b) (v9:∀k∈E',k∈E/\∀w,D w->D' w) (GC:∀w w',fC w w'->D' w->D' w') (ru:(∀w,D' w)∨nK ok=true∨k∈E') (hD:D' w) {K:Act->World->Prop}
 (hy:YD P ops D' oi v a) (h:wpOp P ops Q k (λa w=>(k∈E->D w)/\K a w) (a.put oi.dst v) w):wpOp P ops Q k (λa w=>(k∈E->D w)/\D' w/\YD P ops D' oi v a/\K (a.put oi.dst v) w) a w:=by
 obtain⟨h1,h2,h3⟩:=Oper.apart_spec hap
 have keep:∀(a:Act),YD P ops D' oi v a->∀u,YD P ops D' oi v (a.put ok.dst u):=λa hy u=>hy.of_same (execOp_put oi hsi a ok.dst u h3) (wanted_put oi a ok.dst u h3)
 unfold wpOp at *
 simp only[hk]at *
 rw[wanted_put ok a oi.dst v h1]at h
 by_cases hw:Region.wanted ok (yielded ops a.tmps)=true
 ·rw[au hw]at h⊢
  rcases h with h | h
  ·left
   unfold Oper.wp at *
   rw[execOp_put ok I6 a oi.dst v h1]at h
   have hkeep:=λ(hb:nK ok=true) x w' hr=>rf (P:=P) hb a.eval w w' x hr
   generalize (execOp a.eval ok).run P w=r at *
   cases r with
   | ok x w' =>
    have GD:(k∈E->D w')->D' w':=by
     intro hE
     rcases ru with mb | hb | hb
     ·exact mb w'
     ·exact GC w w' (hkeep hb x w' rfl).2 hD
     ·exact(v9 k hb).2 _ (hE (v9 k hb).1)
    cases x<;>simp only[Oper.upon]at h⊢
    case value u=>exact⟨h.1,GD h.1,keep a hy u,by rw[<-Act.put_comm a v u h2];exact h.2⟩
    case skip=>exact⟨h.1,GD h.1,keep a hy _,by rw[<-Act.put_comm a v undef h2];exact h.2⟩
    case defer df =>
     refine⟨h.1,GD h.1,?_,?_⟩
     ·have:YD P ops D' oi v ({a with defers:=df::a.defers}:Act):=hy
      exact keep _ this _
     ·have e:=Act.put_comm ({a with defers:=df::a.defers}:Act) v undef h2
      rw[<-e]
      have e2:({(a.put oi.dst v)with defers:=df::(a.put oi.dst v).defers}:Act)=({a with defers:=df::a.defers}:Act).put oi.dst v:=by cases oi.dst<;>rfl
      rw[<-e2]
      exact h.2
    case enter f args =>
     have Dj:∀w'',(k∈E->D w'')->D' w'':=by
      intro w'' hE
      rcases ru with mb | hb | hb
      ·exact mb w''
      ·obtain⟨⟨u,hu⟩,_⟩:=hkeep hb _ _ rfl
       cases hu
      ·exact(v9 k hb).2 _ (hE (v9 k hb).1)
     refine h.mono λe w'' he => ?_
     cases e with
     | returned u=>exact⟨he.1,Dj _ he.1,keep a hy u,by rw[<-Act.put_comm a v u h2];exact he.2⟩
     | panicked ch=>exact yg ch a w'' _ _ he
     | outgrown=>exact he
    case row rw' args =>
     have Dj:∀w'',(k∈E->D w'')->D' w'':=by
      intro w'' hE
      rcases ru with mb | hb | hb
      ·exact mb w''
      ·obtain⟨⟨u,hu⟩,_⟩:=hkeep hb _ _ rfl
       cases hu
      ·exact(v9 k hb).2 _ (hE (v9 k hb).1)
     refine h.mono λu w'' he => ?_
     exact⟨he.1,Dj _ he.1,keep a hy u,by rw[<-Act.put_comm a v u h2];exact he.2⟩
   | halt x w' =>
    cases x<;>simp only[Oper.upon]at h⊢
    exact yg _ a w' _ _ h
  ·right
   refine⟨?_,h.2⟩
   have:=h.1
   unfold Oper.asks at *
   rw[execOp_put ok I6 a oi.dst v h1]at this
   exact this
 ·rw[aj hw]at h⊢
  exact⟨h.1,hD,keep a hy _,by rw[<-Act.put_comm a v undef h2];exact h.2⟩
theorem iT{D D':World->Prop}{E E':List Nat}{i:Nat}{oi:Oper}(hi:ops[i]? = some oi)(yg:kH Q)(hsel:∀(k:Nat) (o:Oper) cs b,ops[k]? = some o->o.op≠.select cs b)(I7:i∈E->∀w,D' w->D w)(v9:∀k∈E',k∈E/\∀w,D w->D' w)(GC:∀w w',fC w w'->D' w->D' w')
 (hU:Array Bool) (ru:(∀w,D' w)∨rq md ops E' hU i=true) :
 ∀(fuel:Nat) (listed:Array Bool) (a:Act) (w:World),
   (∀k ok,ops[k]? = some ok->k≠i->listed.getD k true=false->(∀e∈ok.after,Region.binds md e=true->e.on≠i)->oi.apart ops ok=true)->
   (∀k,listed.getD k true=false->hU.getD k true=false)->
   (∀k,listed.getD k false=true->hU.getD k false=true∨∀f,rj md ops hU i f k=true)->
   i∈Region.ready md ops listed->D' w->YD P ops D' oi v a->
   fb P md ops Q D E fuel (listed.setIfInBounds i true) (a.put oi.dst v) w->fb P md ops Q D E (fuel+1) listed a w:=by
 intro fuel
 have hcan:∀(listed:Array Bool),(∀k,listed.getD k false=true->hU.getD k false=true∨∀f,rj md ops hU i f k=true)->∀k ok,ops[k]? = some ok->k≠i->(∀e∈ok.after,Region.binds md e=true->listed.getD e.on false=true)->∀f,rj md ops hU i f k=true:=by
  intro listed hl k ok hk qR mb f
  cases f with
  | zero=>rfl
  | succ f =>
   simp only[rj,hk,aec,bne_iff_ne,ne_eq,qR,not_false_eq_true,true_and]
   rw[Array.all_eq_true_iff_forall_mem]
   intro e he
   by_cases hb:Region.binds md e=true
   ·rcases hl _ (mb e he hb)with h | h
    ·simp[h]
    ·simp[h f]
   ·simp[hb]
 have hp:∀(listed:Array Bool),(∀k,listed.getD k true=false->hU.getD k true=false)->(∀k,listed.getD k false=true->hU.getD k false=true∨∀f,rj md ops hU i f k=true)->∀k ok,ops[k]? = some ok->k≠i->listed.getD k true=false->(∀e∈ok.after,Region.binds md e=true->listed.getD e.on false=true)->(∀w,D' w)∨nK ok=true∨k∈E':=by
  intro listed Dk hl k ok hk qR hun mb
  rcases ru with h | h
  ·exact .inl h
  ·right
   have hc:=hcan listed hl k ok hk qR mb ops.size
   have h1:=List.all_eq_true.1 h k (List.mem_range.2 (Array.getElem?_eq_some_iff.1 hk).1)
   simp only[hk,af6,afT,qR,false_or,Dk k hun,agD,hc,Bool.not_true,List.contains_iff_mem]at h1
   exact h1.symm
 induction fuel with
 | zero =>
  intro listed a w _ _ _ hr hD hy H
  refine⟨λh=>(by rw[h]at hr;cases hr),λk hk => ?_⟩
  by_cases qR:k=i
  ·subst qR;exact hy.wpOp hi hD ⟨λh=>I7 h _ hD,H⟩
  ·have:=ready_mono hk qR
   rw[H.1]at this
   cases this
 | succ fuel ih =>
  intro listed a w hfree Dk hl hr hD hy H
  refine⟨λh=>(by rw[h]at hr;cases hr),λk hk => ?_⟩
  by_cases qR:k=i
  ·subst qR;exact hy.wpOp hi hD ⟨λh=>I7 h _ hD,H⟩
  ·have h1:=H.2 k (ready_mono hk qR)
   obtain⟨yy,ok,hok,mb⟩:=mem_ready.1 hk
   have hnot:∀e∈ok.after,Region.binds md e=true->e.on≠i:=λe he hb heq=>by
    have h1:=mb e he hb
    have h0:=(mem_ready.1 hr).1
    rw[heq]at h1
    rcases agl i listed.size with h' | h'
    ·simp[h']at h0 h1;rw[h0]at h1;cases h1
    ·simp[Array.getElem?_eq_none h']at h1
   have h2:=aaa (D:=D) (E:=E) (E':=E') hok (hfree k ok hok qR yy hnot) yg (λcs b=>hsel i oi cs b hi) (λcs b=>hsel k ok cs b hok) v9 GC (hp listed Dk hl k ok hok qR yy mb) hD hy h1
   have AQ:∀m om,ops[m]? = some om->m≠i->(listed.setIfInBounds k true).getD m true=false->
    (∀e∈om.after,Region.binds md e=true->e.on≠i)->oi.apart ops om=true:=λm om hm GF hun hno=>by
    refine hfree m om hm GF ?_ hno
    by_cases hkm:k=m
    ·subst hkm;exact yy
    ·rw[getD_set_ne true hkm]at hun;exact hun
   have GG:∀m,(listed.setIfInBounds k true).getD m true=false->hU.getD m true=false:=λm hm=>by
    by_cases hkm:k=m
    ·subst hkm;exact Dk k yy
    ·rw[getD_set_ne true hkm]at hm;exact Dk m hm
   have hl':∀m,(listed.setIfInBounds k true).getD m false=true->hU.getD m false=true∨∀f,rj md ops hU i f m=true:=λm hm=>by
    by_cases hkm:k=m
    ·subst hkm;exact .inr (hcan listed hl k ok hok qR mb)
    ·rw[getD_set_ne false hkm]at hm;exact hl m hm
   refine wpOp_mono (λa' w' h3=>⟨h3.1,ih (listed.setIfInBounds k true) a' w' AQ GG hl' (ready_mono hr (Ne.symm qR)) h3.2.1 h3.2.2.1 ?_⟩) h2
   rw[Array.setIfInBounds_comm _ _ qR]
   exact h3.2.2.2
theorem ac6{id:Nat}{lo:List Oper}{H:M5}(D:World->Prop)(E:List Nat)(hF:Fit w0 H w)(hm:P.follows .mixedOrders=true)(k:∀w,Fit w0 H w->fb P .any lo.toArray Q D E lo.toArray.size (Array.replicate lo.toArray.size false) a w) :
 (Code.region id lo.toArray true).wp P Q a w:=aby hF hm λw h=>V9 _ _ _ _ (k w h)
theorem e_val{D:World->Prop}{E:List Nat}{fuel i:Nat}{listed:Array Bool}(yg:kH Q)(hi:ops[i]? = some o)(vg:Region.noSelect ops=true)(hrd:(Region.ready .any ops listed).contains i=true)(hfr:Region.free .any ops listed i=true)
 (Dl:E.contains i=false) (hw:Region.wanted o (yielded ops a.tmps)=true) (hd:o.dst=some d) (hn:Nat.blt d n=true) (hr:fy Df n (lk l j) a) (hrun:∀w,(execOp (po (lk l j)) o).run P w= .ok (.value v) w)
 (k:∀a,fy Df n (lk ((d,v)::l) j) a->fb P .any ops Q D E fuel (listed.setIfInBounds i true) a w):fb P .any ops Q D E (fuel+1) listed a w:=by
 refine iT (D:=D) (D':=λ_=>True) (E:=E) (E':=[]) (v:=v) hi yg (agH vg) (λh=>absurd h (by simpa using Dl)) (λ_ h=>nomatch h) (λ_ _ _ _=>trivial) listed (.inl λ_=>trivial) fuel listed a w (Region.free_spec hi hfr) (λ_ h=>h) (λ_ h=>.inl h) (by simpa using hrd) trivial ?_ ?_
 ·exact .inl ⟨hw,λw _=>by rw[hr.eval];exact hrun w⟩
 ·rw[hd];exact k _ (hr.put d v hn)
theorem e_off{D:World->Prop}{E:List Nat}{fuel i:Nat}{listed:Array Bool}(yg:kH Q)(hi:ops[i]? = some o)(vg:Region.noSelect ops=true)(hrd:(Region.ready .any ops listed).contains i=true)(hfr:Region.free .any ops listed i=true)
 (Dl:E.contains i=false) (hw:Region.wanted o (yielded ops a.tmps)=false) (hd:o.dst=some d) (hn:Nat.blt d n=true) (hr:fy Df n (lk l j) a)
 (k:∀a,fy Df n (lk ((d,undef)::l) j) a->fb P .any ops Q D E fuel (listed.setIfInBounds i true) a w):fb P .any ops Q D E (fuel+1) listed a w:=by
 refine iT (D:=D) (D':=λ_=>True) (E:=E) (E':=[]) (v:=undef) hi yg (agH vg) (λh=>absurd h (by simpa using Dl)) (λ_ h=>nomatch h) (λ_ _ _ _=>trivial) listed (.inl λ_=>trivial) fuel listed a w (Region.free_spec hi hfr) (λ_ h=>h) (λ_ h=>.inl h) (by simpa using hrd) trivial ?_ ?_
 ·exact .inr ⟨hw,rfl⟩
 ·rw[hd];exact k _ (hr.put d undef hn)
theorem oG:∀(cs:List Value) (b off:Nat) (w w':World),fC w w'->lI w b off cs->lI w' b off cs
 | [],_,_,_,_,_,_=>trivial
 | _::cs,b,off,w,w',hg,h=>⟨hg _ _ h.1,oG cs b (off+1) w w' hg h.2⟩
theorem AU{D:World->Prop}{E:List Nat}(E':List Nat){fuel i:Nat}{listed:Array Bool}{b off:Nat}{cs:List Value}(yg:kH Q)(v9:∀k∈E',k∈E/\∀w,D w->lI w b off cs)(hi:ops[i]? = some o)(vg:Region.noSelect ops=true)(hrd:(Region.ready .any ops listed).contains i=true)(hfr:Region.free .any ops listed i=true)
 (Dj:rq .any ops E' listed i=true) (Dl:E.contains i=false) (hw:Region.wanted o (yielded ops a.tmps)=true) (hd:o.dst=some d) (hn:Nat.blt d n=true) (hr:fy Df n (lk l j) a)
 (hc:lI w b off cs) (hrun:∀w,lI w b off cs->(execOp (po (lk l j)) o).run P w= .ok (.value v) w)
 (k:∀a,fy Df n (lk ((d,v)::l) j) a->fb P .any ops Q D E fuel (listed.setIfInBounds i true) a w):fb P .any ops Q D E (fuel+1) listed a w:=by
 refine iT (D:=D) (D':=λw=>lI w b off cs) (E:=E) (E':=E') (v:=v) hi yg (agH vg) (λh=>absurd h (by simpa using Dl)) v9 (λw w'=>oG cs b off w w') listed (.inr Dj) fuel listed a w (Region.free_spec hi hfr) (λ_ h=>h) (λ_ h=>.inl h) (by simpa using hrd) hc ?_ ?_
 ·exact .inl ⟨hw,λw h=>by rw[hr.eval];exact hrun w h⟩
 ·rw[hd];exact k _ (hr.put d v hn)
theorem Pw{D:World->Prop}{E:List Nat}{fuel:Nat}{listed:Array Bool}(r:List Nat)(hrd:Region.ready .any ops listed=r)(hne:r.isEmpty=false)
 (k:yt (λi =>∃o,ops[i]? = some o/\wpList P ops (Exit.then (λa w=>(i∈E->D w)/\fb P .any ops Q D E fuel (listed.setIfInBounds i true) a w) Q) [o] a w) r):fb P .any ops Q D E (fuel+1) listed a w:=by
 refine⟨(λh=>by rw[hrd]at h;rw[h]at hne;cases hne),λk' hk' => ?_⟩
 rw[hrd]at hk'
 obtain⟨o,hi,k⟩:=yt.mem k k' hk'
 unfold wpOp
 simp only[hi]
 unfold wpList at k
 have hlo:LetsOut (Exit.then (λa w=>(k'∈E->D w)/\fb P .any ops Q D E fuel (listed.setIfInBounds k' true) a w) Q)->LetsOut Q:=λ⟨a,w,h⟩=>⟨a,w,h⟩
 have hmo:∀{x:Act} {y:World} {K:Act->World->Prop},o.wp P x y K (Exit.then (λa w=>(k'∈E->D w)/\fb P .any ops Q D E fuel (listed.setIfInBounds k' true) a w) Q)->o.wp P x y K Q:=by
  intro x y K h
  unfold Oper.wp at *
  generalize (execOp x.eval o).run P y=r at *
  cases r with
  | ok z w' =>
   cases z<;>simp only[Oper.upon]at h⊢<;> first
    | exact h
    | (refine h.mono λe w'' he => ?_
       cases e with
       | returned u=>exact he
       | panicked ch=>exact he
       | outgrown=>exact hlo he)
  | halt z w'=>cases z<;>simp only[Oper.upon]at h⊢<;> exact h
 split
 ·rename_i hw
  rw[au hw]at k
  rcases k with k | k
  ·exact .inl (Oper.wp_mono (λ_ _ h=>h) (hmo k))
  ·exact .inr ⟨k.1,hlo k.2⟩
 ·rename_i hw
  rw[aj hw]at k
  exact k
theorem ac7{D:World->Prop}{E:List Nat}{fuel i:Nat}{listed:Array Bool}(hrd:Region.ready .any ops listed=[i])(hi:ops[i]? = some o)
 (k:wpList P ops (Exit.then (λa w=>(i∈E->D w)/\fb P .any ops Q D E fuel (listed.setIfInBounds i true) a w) Q) [o] a w):fb P .any ops Q D E (fuel+1) listed a w:=
 Pw [i] hrd rfl (Nj ⟨o,hi,k⟩ OH)
theorem ac8{D:World->Prop}{E:List Nat}{fuel:Nat}{listed:Array Bool}(hrd:Region.ready .any ops listed=[])(k:Q .normal a w):fb P .any ops Q D E fuel listed a w:=by
 cases fuel with
 | zero=>exact⟨hrd,k⟩
 | succ f=>exact⟨λ_=>k,λi hi=>by rw[hrd]at hi;cases hi⟩
theorem Qh{c:Code}(I:Act->World->Prop)(h:c.wp P (Exit.then I Q) a w)(k:∀a w,I a w->Q .normal a w):c.wp P Q a w:=
 Code.wp_mono (λe a w q=>by
  cases e with
  | normal=>exact k a w q
  | _=>exact q) h
class PI (Q:Exit->Act->World->Prop):Prop where
 pi:kH Q
instance FC {fn:Func} {R:Ending->World->Prop}:PI (bodyPost P fn R):=⟨rh⟩
instance FD {K:Act->World->Prop} [h:PI Q]:PI (Exit.then K Q):=⟨Yp h.pi⟩
instance Dm {i:Nat} [h:PI Q]:PI (Exit.inBlock i Q):=⟨qb h.pi⟩
def okB(ops:Array Oper)(E:List Nat)(listed:Array Bool)(i:Nat):Bool:=Region.noSelect ops&&(Region.ready .any ops listed).contains i&&Region.free .any ops listed i && !E.contains i
theorem wz{E:List Nat}{listed:Array Bool}{i:Nat}(h:okB ops E listed i=true):Region.noSelect ops=true/\(Region.ready .any ops listed).contains i=true/\Region.free .any ops listed i=true/\E.contains i=false:=by
 unfold okB at h
 simp only[aec,Bool.not_eq_true']at h
 exact⟨h.1.1.1,h.1.1.2,h.1.2,h.2⟩
theorem ev{D:World->Prop}{E:List Nat}{listed:Array Bool}[hp:PI Q](fuel i:Nat)(hi:ops[i]? = some o)(hB:okB ops E listed i=true)(hw:Region.wanted o (yielded ops a.tmps)=true)(hr:fy Df n (lk l j) a)(v:Value)
 (hrun:∀w,(execOp (po (lk l j)) o).run P w= .ok (.value v) w) (k:∀a,fy Df n (lk ((d,v)::l) j) a->fb P .any ops Q D E fuel (listed.setIfInBounds i true) a w) (hd:o.dst=some d:=by rfl) (hn:Nat.blt d n=true:=by rfl) :
 fb P .any ops Q D E (fuel+1) listed a w:=
 have hb:=wz hB
 e_val hp.pi hi hb.1 hb.2.1 hb.2.2.1 hb.2.2.2 hw hd hn hr hrun k
theorem eo{D:World->Prop}{E:List Nat}{listed:Array Bool}[hp:PI Q](fuel i:Nat)(hi:ops[i]? = some o)(hB:okB ops E listed i=true)(hw:Region.wanted o (yielded ops a.tmps)=false)(hr:fy Df n (lk l j) a)
 (k:∀a,fy Df n (lk ((d,undef)::l) j) a->fb P .any ops Q D E fuel (listed.setIfInBounds i true) a w) (hd:o.dst=some d:=by rfl) (hn:Nat.blt d n=true:=by rfl) :
 fb P .any ops Q D E (fuel+1) listed a w:=
 have hb:=wz hB
 e_off hp.pi hi hb.1 hb.2.1 hb.2.2.1 hb.2.2.2 hw hd hn hr k
def Dn(ops:Array Oper)(E:List Nat)(listed:Array Bool)(i:Nat):Bool:=Region.noSelect ops&&(Region.ready .any ops listed).contains i&&Region.free .any ops listed i&&rq .any ops E listed i
theorem zO{E:List Nat}{listed:Array Bool}{i:Nat}(h:Dn ops E listed i=true):Region.noSelect ops=true/\(Region.ready .any ops listed).contains i=true/\Region.free .any ops listed i=true/\rq .any ops E listed i=true:=by
 unfold Dn at h
 simp only[aec]at h
 exact⟨h.1.1.1,h.1.1.2,h.1.2,h.2⟩
theorem J1{D:World->Prop}{E:List Nat}{listed:Array Bool}[hp:PI Q](GH:∀w w',fC w w'->D w->D w')(GI:D w)(fuel i:Nat)(hi:ops[i]? = some o)(hB:Dn ops E listed i=true)(hw:Region.wanted o (yielded ops a.tmps)=true)(hr:fy Df n (lk l j) a)(v:Value)
 (hrun:∀w,(execOp (po (lk l j)) o).run P w= .ok (.value v) w) (k:∀a,fy Df n (lk ((d,v)::l) j) a->fb P .any ops Q D E fuel (listed.setIfInBounds i true) a w) (hd:o.dst=some d:=by rfl) (hn:Nat.blt d n=true:=by rfl) :
 fb P .any ops Q D E (fuel+1) listed a w:=by
 have hb:=zO hB
 refine iT (D:=D) (D':=D) (E:=E) (E':=E) (v:=v) hi hp.pi (agH hb.1) (λ_ _ h=>h) (λk hk=>⟨hk,λ_ h=>h⟩) GH listed (.inr hb.2.2.2) fuel listed a w (Region.free_spec hi hb.2.2.1) (λ_ h=>h) (λ_ h=>.inl h) (by simpa using hb.2.1) GI ?_ ?_
 ·exact .inl ⟨hw,λw _=>by rw[hr.eval];exact hrun w⟩
 ·rw[hd];exact k _ (hr.put d v hn)
theorem J2{D:World->Prop}{E:List Nat}{listed:Array Bool}[hp:PI Q](GH:∀w w',fC w w'->D w->D w')(GI:D w)(fuel i:Nat)(hi:ops[i]? = some o)(hB:Dn ops E listed i=true)(hw:Region.wanted o (yielded ops a.tmps)=false)(hr:fy Df n (lk l j) a)
 (k:∀a,fy Df n (lk ((d,undef)::l) j) a->fb P .any ops Q D E fuel (listed.setIfInBounds i true) a w) (hd:o.dst=some d:=by rfl) (hn:Nat.blt d n=true:=by rfl) :
 fb P .any ops Q D E (fuel+1) listed a w:=by
 have hb:=zO hB
 refine iT (D:=D) (D':=D) (E:=E) (E':=E) (v:=undef) hi hp.pi (agH hb.1) (λ_ _ h=>h) (λk hk=>⟨hk,λ_ h=>h⟩) GH listed (.inr hb.2.2.2) fuel listed a w (Region.free_spec hi hb.2.2.1) (λ_ h=>h) (λ_ h=>.inl h) (by simpa using hb.2.1) GI ?_ ?_
 ·exact .inr ⟨hw,rfl⟩
 ·rw[hd];exact k _ (hr.put d undef hn)
theorem el{D:World->Prop}{E:List Nat}{listed:Array Bool}(E':List Nat){b off:Nat}{cs:List Value}[hp:PI Q](v9:∀k∈E',k∈E/\∀w,D w->lI w b off cs)(fuel i:Nat)(hi:ops[i]? = some o)(hB:(okB ops E listed i&&rq .any ops E' listed i)=true)(hw:Region.wanted o (yielded ops a.tmps)=true)(hr:fy Df n (lk l j) a)(v:Value)
 (hc:lI w b off cs) (hrun:∀w,lI w b off cs->(execOp (po (lk l j)) o).run P w= .ok (.value v) w)
 (k:∀a,fy Df n (lk ((d,v)::l) j) a->fb P .any ops Q D E fuel (listed.setIfInBounds i true) a w) (hd:o.dst=some d:=by rfl) (hn:Nat.blt d n=true:=by rfl) :
 fb P .any ops Q D E (fuel+1) listed a w:=by
 rw[aec]at hB
 have hb:=wz hB.1
 exact AU E' hp.pi v9 hi hb.1 hb.2.1 hb.2.2.1 hB.2 hb.2.2.2 hw hd hn hr hc hrun k
theorem ov(hr:fy Df n (lk l j) a)(v:Value)(hrun:(execOp (po (lk l j)) o).run P w= .ok (.value v) w)(k:∀a,fy Df n (lk ((d,v)::l) j) a->wpList P ops Q rest a w)
 (hg:o.guard=none:=by rfl) (hd:o.dst=some d:=by rfl) (hn:Nat.blt d n=true:=by rfl):wpList P ops Q (o::rest) a w:=wh (wn hg) hd hn hr hrun k
def Yr(P:Program):List Oper->List Value->List (Nat×Value)->(Nat->Value)->World->List (Option Nat×Option (Nat×Bool)×Result Next)
 | o::os,v::vs,l,j,w=>(o.dst,o.guard,(execOp (po (lk l j)) o).run P w)::Yr P os vs ((o.dst.getD 0,v)::l) j w
 | _,_,_,_,_=>[]
def Ys:List Nat->List Value->World->List (Option Nat×Option (Nat×Bool)×Result Next)
 | d::ds,v::vs,w=>(some d,none,.ok (.value v) w)::Ys ds vs w
 | _,_,_=>[]
def aay:List Nat->List Value->List (Nat×Value)->List (Nat×Value)
 | d::ds,v::vs,l=>aay ds vs ((d,v)::l)
 | _,_,l=>l
theorem ovs:∀(ds:List Nat) (vs:List Value) {os:List Oper} {a:Act} {l:List (Nat×Value)} (hr:fy Df n (lk l j) a) (hl:ds.length=vs.length/\ds.all (λd=>Nat.blt d n)=true) (hrun:Yr P (os.take ds.length) vs l j w=Ys ds vs w)
 (k:∀a,fy Df n (lk (aay ds vs l) j) a->wpList P ops Q (os.drop ds.length) a w),wpList P ops Q os a w
 | [],[],os,a,l,hr,_,_,k=>k a hr
 | d::ds,v::vs,[],a,l,hr,hl,hrun,k=>by simp[Yr,Ys]at hrun
 | d::ds,v::vs,o::os,a,l,hr,hl,hrun,k=>by
  simp only[af2,aej,Yr,Ys,List.cons.injEq,Prod.mk.injEq]at hrun
  obtain⟨⟨h1,h2,h3⟩,h4⟩:=hrun
  obtain⟨I9,Dq⟩:=hl
  simp only[List.all_cons,aec]at Dq
  refine wh (wn h2) h1 Dq.1 hr h3 λa hr => ?_
  rw[h1]at h4
  exact ovs ds vs hr ⟨by simpa using I9,Dq.2⟩ h4 k
theorem _root_.Go.Proofs.YtpikpffbcjpmcaaGreatDoor.GX.fy.ac9{e:Nat->Value}(h:fy Df n e a)(l:List (Nat×Value))(hl:l.map (λp=>e p.1)=l.map (·.2)) :∃j,fy Df n (lk l j) a:=by
 refine h.fold l ?_
 induction l with
 | nil=>trivial
 | cons p l ih=>simp only[afZ,List.cons.injEq]at hl;exact⟨hl.1,ih hl.2⟩
theorem Oh{c:Operand}{x y:Code}{e:Nat->Value}(hr:fy Df n e a){b:Bool}(hb:b=true)(h:x.wp P Q a w)(hc:po e c= .bool b:=by kernel_rfl):(Code.cond c x y).wp P Q a w:=AH hr hc hb h
theorem O3{c:Operand}{x y:Code}{e:Nat->Value}(hr:fy Df n e a){b:Bool}(hb:b=false)(h:y.wp P Q a w)(hc:po e c= .bool b:=by kernel_rfl):(Code.cond c x y).wp P Q a w:=AJ hr hc hb h
end
end GX
end
section
namespace SL
open Go Go.RowKit
structure I8(sz:Nat) where
 cs:List Value
 len:cs.length=sz
 one:∀u∈cs,u.oneCell'=true
theorem V0{sz:Nat}(h:0<sz):QB (I8.cs (sz:=sz)) sz:=⟨λx=>x.len,λx=>x.one,h⟩
def Qw{α:Type}(e:TypeId)(sz:Nat)(own:α->List Value->M5)(v:Value)(l:List α):M5:=
 exs λcss:List (I8 sz)=>cQ (Z7 (css.length=l.length)::rowOf e sz I8.cs v css::List.zipWith (λx c=>own x c.cs) l css)
def Tt{α:Type}(e:TypeId)(sz:Nat)(own:α->List Value->M5)(v:Value)(l:List α)(i:Nat)(cs:List Value):M5:=
 exs λcss:List (I8 sz)=>cQ (Z7 (css.length=l.length/\(css[i]?).map I8.cs=some cs)::rowOf e sz I8.cs v css::(List.zipWith (λx c=>own x c.cs) l css).eraseIdx i)
section
variable {w0 w:World}{L:List M5}{α:Type}{e:TypeId}{sz n cc i:Nat}{own:α->List Value->M5}{v:Value}{l:List α}{ca:Option Addr}{cs:List Value}{x y:α}
theorem Fit.TS(h:Fit w0 (cQ (Qw e sz own v l::L)) w) :∃css:List (I8 sz),css.length=l.length/\Fit w0 (cQ (rowOf e sz I8.cs v css::(List.zipWith (λx c=>own x c.cs) l css++L))) w:=by
 obtain⟨css,h⟩:=h.PC
 have h:=h.u9
 obtain⟨hl,h⟩:=h.Su
 exact⟨css,hl,h⟩
theorem Fit.TT{css:List (I8 sz)}(hl:css.length=l.length)(h:Fit w0 (cQ (rowOf e sz I8.cs v css::(List.zipWith (λx c=>own x c.cs) l css++L))) w):Fit w0 (cQ (Qw e sz own v l::L)) w:=by
 refine Fit.O1 css ?_
 refine Fit.vb (Z7 (css.length=l.length)::rowOf e sz I8.cs v css::List.zipWith (λx c=>own x c.cs) l css) L ?_
 exact h.RF hl
theorem Fit.TU(h:Fit w0 (cQ (Tt e sz own v l i cs::L)) w) :∃css:List (I8 sz),css.length=l.length/\(css[i]?).map I8.cs=some cs/\Fit w0 (cQ (rowOf e sz I8.cs v css::((List.zipWith (λx c=>own x c.cs) l css).eraseIdx i++L))) w:=by
 obtain⟨css,h⟩:=h.PC
 have h:=h.u9
 obtain⟨hl,h⟩:=h.Su
 exact⟨css,hl.1,hl.2,h⟩
theorem Fit.ZJ{css:List (I8 sz)}(hl:css.length=l.length)(hi:(css[i]?).map I8.cs=some cs)(h:Fit w0 (cQ (rowOf e sz I8.cs v css::((List.zipWith (λx c=>own x c.cs) l css).eraseIdx i++L))) w):Fit w0 (cQ (Tt e sz own v l i cs::L)) w:=by
 refine Fit.O1 css ?_
 refine Fit.vb (Z7 (css.length=l.length/\(css[i]?).map I8.cs=some cs)::rowOf e sz I8.cs v css::(List.zipWith (λx c=>own x c.cs) l css).eraseIdx i) L ?_
 exact h.RF ⟨hl,hi⟩
theorem Fit.UF(h:Fit w0 (cQ L) w):Fit w0 (cQ (Qw e sz own (.slice none 0 0) ([]:List α)::L)) w:=
 Fit.TT (css:=[]) rfl (Fit.ua h)
theorem Fit.Y9(h:Fit w0 (cQ (Qw e sz own (.slice ca n cc) l::L)) w):n=l.length:=by
 obtain⟨css,hl,h⟩:=h.TS
 rw[<-hl];exact h.N4
theorem Fit.acp(h:Fit w0 (cQ (Tt e sz own (.slice ca n cc) l i cs::L)) w):n=l.length:=by
 obtain⟨css,hl,_,h⟩:=h.TU
 rw[<-hl];exact h.N4
theorem Fit.Pr(h:Fit w0 (cQ (Qw e sz own v l::L)) w)(hi:l[i]? = some x) :∃cs,Fit w0 (cQ (Tt e sz own v l i cs::own x cs::L)) w:=by
 obtain⟨css,hl,h⟩:=h.TS
 have J7:i<css.length:=by rw[hl];exact(List.getElem?_eq_some_iff.1 hi).1
 have hc:css[i]? = some css[i]:=List.getElem?_eq_getElem J7
 refine⟨css[i].cs,Fit.ZJ hl (by rw[hc];rfl) ?_⟩
 have hz:(List.zipWith (λx c=>own x c.cs) l css)[i]? = some (own x css[i].cs):=by
  rw[List.getElem?_zipWith,hi,hc]
 have h2:Fit w0 (cQ (List.zipWith (λx c=>own x c.cs) l css++(rowOf e sz I8.cs v css::L))) w:=h.perm (by
  refine(afN (l₁:=List.zipWith (λx c=>own x c.cs) l css) (a:=rowOf e sz I8.cs v css) (l₂:=L)).symm)
 have h3:=Fit.vb _ _ h2
 have h4:Fit w0 (cQ (cQ (own x css[i].cs::(List.zipWith (λx c=>own x c.cs) l css).eraseIdx i)::rowOf e sz I8.cs v css::L)) w:=by
  refine h3.head λq hq => ?_
  have:=u7 i (List.zipWith (λx c=>own x c.cs) l css)
  unfold SL.pick at this
  rw[hz]at this
  show cQ _ q
  rw[this];exact hq
 have h5:=h4.u9
 refine h5.perm ?_
 simp only[afy]
 refine((afN (l₁:=(List.zipWith (λx c=>own x c.cs) l css).eraseIdx i) (a:=rowOf e sz I8.cs v css) (l₂:=L)).cons _).trans ?_
 refine(List.Perm.swap _ _ _).trans (List.Perm.cons _ ?_)
 exact(afN (l₁:=(List.zipWith (λx c=>own x c.cs) l css).eraseIdx i) (a:=own x css[i].cs) (l₂:=L)).symm
theorem Fit.aaz(hi:i<l.length)(h:Fit w0 (cQ (Tt e sz own v l i cs::own y cs::L)) w):Fit w0 (cQ (Qw e sz own v (l.set i y)::L)) w:=by
 obtain⟨css,hl,hc,h⟩:=h.TU
 have J7:i<css.length:=by rw[hl];exact hi
 have KW:css[i]? = some css[i]:=List.getElem?_eq_getElem J7
 rw[KW]at hc
 simp only[afG,Option.some.injEq]at hc
 refine Fit.TT (css:=css) (by rw[acG];exact hl) ?_
 have hz:(List.zipWith (λx c=>own x c.cs) (l.set i y) css)[i]? = some (own y cs):=by
  rw[List.getElem?_zipWith,List.getElem?_set_self hi,KW,<-hc]
 have he:(List.zipWith (λx c=>own x c.cs) (l.set i y) css).eraseIdx i=(List.zipWith (λx c=>own x c.cs) l css).eraseIdx i:=by
  have h1:List.zipWith (λx c=>own x c.cs) (l.set i y) css=(List.zipWith (λx c=>own x c.cs) l css).set i (own y css[i].cs):=by
   apply afS
   intro k
   rw[List.getElem?_zipWith]
   by_cases hk:i=k
   ·subst hk
    rw[List.getElem?_set_self hi,KW,List.getElem?_set_self (by rw[List.length_zipWith];omega)]
   ·rw[List.getElem?_set_ne hk,List.getElem?_set_ne hk,List.getElem?_zipWith]
  rw[h1]
  apply afS
  intro k
  rw[List.getElem?_eraseIdx,List.getElem?_eraseIdx]
  split
  ·rw[List.getElem?_set_ne (by omega)]
  ·rw[List.getElem?_set_ne (by omega)]
 have h2:Fit w0 (cQ ((own y cs::(List.zipWith (λx c=>own x c.cs) (l.set i y) css).eraseIdx i)++(rowOf e sz I8.cs v css::L))) w:=by
  rw[he]
  refine h.perm ?_
  simp only[afy]
  refine(List.Perm.cons _ (afN (l₁:=(List.zipWith (λx c=>own x c.cs) l css).eraseIdx i) (a:=own y cs) (l₂:=L))).trans ?_
  refine(List.Perm.swap _ _ _).trans (List.Perm.cons _ ?_)
  exact(afN (l₁:=(List.zipWith (λx c=>own x c.cs) l css).eraseIdx i) (a:=rowOf e sz I8.cs v css) (l₂:=L)).symm
 have h3:=Fit.vb _ _ h2
 have h4:Fit w0 (cQ (cQ (List.zipWith (λx c=>own x c.cs) (l.set i y) css)::rowOf e sz I8.cs v css::L)) w:=by
  refine h3.head λq hq => ?_
  have:=u7 i (List.zipWith (λx c=>own x c.cs) (l.set i y) css)
  unfold SL.pick at this
  rw[hz]at this
  rw[<-this];exact hq
 exact h4.u9.perm (afN (l₁:=List.zipWith (λx c=>own x c.cs) (l.set i y) css) (a:=rowOf e sz I8.cs v css) (l₂:=L))
theorem Fit.P8(h:Fit w0 (cQ (Tt e sz own (.slice ca n cc) l i cs::L)) w)(hp:0<sz){f:Nat}{u:Value}(hf:cs[f]? = some u):w.cell? ⟨GX.Cp ca,i*sz+f,none⟩=some u:=by
 obtain⟨css,hl,hc,h⟩:=h.TU
 cases KW:css[i]? with
 | none=>rw[KW]at hc;simp at hc
 | some c =>
  rw[KW]at hc
  simp only[afG,Option.some.injEq]at hc
  exact h.Ng (V0 hp) KW (by rw[hc];exact hf)
theorem Fit.ZK(h:Fit w0 (cQ (Tt e sz own v l i cs::L)) w):i<l.length:=by
 obtain⟨css,hl,hc,_⟩:=h.TU
 cases KW:css[i]? with
 | none=>rw[KW]at hc;simp at hc
 | some c=>have:=(List.getElem?_eq_some_iff.1 KW).1;omega
theorem Fit.Sz(h:Fit w0 (cQ (Tt e sz own v l i cs::own y cs::L)) w):Fit w0 (cQ (Qw e sz own v (l.set i y)::L)) w:=h.aaz h.ZK
theorem Fit.OC[Inhabited α](h:Fit w0 (cQ (Tt e sz own v l i cs::own (GX.ag l i) cs::L)) w):Fit w0 (cQ (Qw e sz own v l::L)) w:=by
 have hi:=h.ZK
 have h:=h.Sz
 have e1:l.set i (GX.ag l i)=l:=by
  apply afS
  intro k
  by_cases hk:i=k
  ·subst hk;rw[List.getElem?_set_self hi,GX.get_at hi]
  ·rw[List.getElem?_set_ne hk]
 rw[e1]at h;exact h
theorem Fit.Xs(h:Fit w0 (cQ (Qw e sz own (.slice ca n cc) l::L)) w)(hl:0<l.length):ca=some ⟨GX.Cp ca,0,none⟩:=by
 obtain⟨css,hl',h⟩:=h.TS
 exact(h.Qq (by omega)).1
theorem Fit.aab(h:Fit w0 (cQ (Tt e sz own (.slice ca n cc) l i cs::L)) w):ca=some ⟨GX.Cp ca,0,none⟩:=by
 obtain⟨css,hl',hc,h⟩:=h.TU
 have:0<css.length:=by
  cases KW:css[i]? with
  | none=>rw[KW]at hc;simp at hc
  | some c=>have:=(List.getElem?_eq_some_iff.1 KW).1;omega
 exact(h.Qq this).1
theorem Fit.TV{enc:α->List Value}{b:Nat}{cs:Array Value}{T:TypeId}(hl:l.length=n)(hc:cs.toList=l.flatMap enc)(he:QB enc sz)(hm:n<=maxLen)(h:Fit w0 (cQ (pts b (.cells cs T)::L)) w) :
 Fit w0 (cQ (rowOf T sz enc (.slice (some ⟨b,0,none⟩) n n) l::L)) w:=by
 subst hl
 refine h.head λz hz=>.inr ⟨b,l.length,cs,rfl,aea _,hm,?_,?_,hz⟩
 ·rw[<-afB,hc,he.flat]
 ·rw[hc];exact agh (by rw[he.flat];exact aea _)
end
end SL
namespace GX
open Go Go.RowKit SL
section
variable {P:Program}{ops:Array Oper}{Q:Exit->Act->World->Prop}{a:Act}{w w0 w1:World}{rest:List Oper}{o:Oper}{n d t:Nat}{v:Value}{l:List (Nat×Value)}{j e:Nat->Value}{L:List M5}{H:M5}{Df:List Deferred}
variable {α:Type}{E:TypeId}{sz n0 cc:Nat}{enc:α->List Value}{xs:List α}{ca:Option Addr}{own:α->List Value->M5}
theorem V1{w':World}{x y:Operand}{k:IntKind}{i:Int}(ho:o.op= .indexAddr t x y)(hx:po e x= .slice ca n cc)(hy:po e y= .int k i)
 (ht:P.underlying t=some (.slice E)) (hs:(P.info? E).map (·.size)=some sz) (hF:Fit w0 (cQ (Qw E sz own (.slice ca n cc) xs::L)) w) (hi:aZ i xs.length):(execOp (po e) o).run P w'= .ok (.value (.pointer (some ⟨Cp ca,i.toNat*sz,none⟩))) w':=by
 have hn:=hF.Y9
 have h0:=hi.1;have h1:=hi.2
 exact ack (hF.Xs (by omega)) ho hx hy ht hs h0 (by omega)
theorem RA{w':World}{x y:Operand}{k:IntKind}{i:Int}{i0:Nat}{cs:List Value}(ho:o.op= .indexAddr t x y)(hx:po e x= .slice ca n cc)(hy:po e y= .int k i)
 (ht:P.underlying t=some (.slice E)) (hs:(P.info? E).map (·.size)=some sz) (hF:Fit w0 (cQ (Tt E sz own (.slice ca n cc) xs i0 cs::L)) w) (hi:aZ i xs.length):(execOp (po e) o).run P w'= .ok (.value (.pointer (some ⟨Cp ca,i.toNat*sz,none⟩))) w':=by
 have hn:=hF.acp
 have h0:=hi.1;have h1:=hi.2
 exact ack hF.aab ho hx hy ht hs h0 (by omega)
theorem Za{x y:Operand}{k:IntKind}{i:Int}{b N:Nat}{w':World}(ho:o.op= .indexAddr t x y)(hx:po e x= .pointer (some ⟨b,0,none⟩))(hy:po e y= .int k i)
 (ht:P.underlying t=some (.array N E)) (hs:(P.info? E).map (·.size)=some sz) (hN:xs.length=N) (hi:aZ i xs.length):(execOp (po e) o).run P w'= .ok (.value (.pointer (some ⟨Cp (some ⟨b,0,none⟩),i.toNat*sz,none⟩))) w':=by
 unfold execOp
 have h0:=hi.1;have h1:=hi.2
 simp only[ho,hx,hy]
 subst hN
 cases hq:P.info? E with
 | none=>simp[hq]at hs
 | some q =>
  simp[hq]at hs
  simp[Instr.indexAt,Instr.sureAddr,run_underlying ht,asIntOf,h0,h1,sizeOf,typeInfo,hq,hs,afL,Cp]
theorem Uj{x y:Operand}{i f:Nat}{cs:List Value}(hw:Region.wanted o (yielded ops a.tmps)=true)(hd:o.dst=none)(hr:fy Df n (lk l j) a)(ho:o.op= .store t x y)
 (hx:po (lk l j) x= .pointer (some ⟨Cp ca,i*sz+f,none⟩)) (hy:po (lk l j) y=v) (hv:v.cells=#[v]) (h1:v.oneCell'=true) (hs:(P.info? t).map (·.size)=some 1) (hp:Nat.blt 0 sz=true)
 (hF:Fit w0 (cQ (Tt E sz own (.slice ca n0 cc) xs i cs::L)) w) (hf:f<sz)
 (k:∀w1,Fit w0 (cQ (Tt E sz own (.slice ca n0 cc) xs i (cs.set f v)::L)) w1->wpList P ops Q rest a w1):wpList P ops Q (o::rest) a w:=by
 obtain⟨css,hl,hc,h⟩:=hF.TU
 have hp':0<sz:=aei hp
 cases KW:css[i]? with
 | none=>rw[KW]at hc;simp at hc
 | some c =>
  rw[KW]at hc
  simp only[afG,Option.some.injEq]at hc
  have hlt:i<css.length:=(List.getElem?_eq_some_iff.1 KW).1
  let q:I8 sz:=⟨c.cs.set f v,by rw[acG];exact c.len,λu hu=>by
   rcases List.mem_or_eq_of_mem_set hu with h | h
   ·exact c.one u h
   ·subst h;exact h1⟩
  refine M7 hw hd hr ho hx hy hv h1 hs (V0 hp') h (p:=c) (q:=q) KW hf rfl λw1 h=>k w1 ?_
  refine Fit.ZJ (css:=css.set i q) (by rw[acG];exact hl) (by rw[List.getElem?_set_self hlt,<-hc];rfl) ?_
  have he:(List.zipWith (λx c=>own x c.cs) xs (css.set i q)).eraseIdx i=(List.zipWith (λx c=>own x c.cs) xs css).eraseIdx i:=by
   apply afS
   intro k
   rw[List.getElem?_eraseIdx,List.getElem?_eraseIdx]
   split
   ·rw[List.getElem?_zipWith,List.getElem?_zipWith,List.getElem?_set_ne (by omega)]
   ·rw[List.getElem?_zipWith,List.getElem?_zipWith,List.getElem?_set_ne (by omega)]
  rw[he];exact h
theorem Tu{bytes:Nat}{s x:Operand}{ad:Addr}{c:Nat}{y:α}{cs:List Value}(hw:Region.wanted o (yielded ops a.tmps)=true)(hd:o.dst=some d)(hn:Nat.blt d n=true)(hr:fy Df n (lk l j) a)
 (ho:o.op= .call {callee:=.builtin .append,args:=#[s,x],argTypes:=#[t,t]}) (hs:po (lk l j) s= .slice ca n0 cc) (hx:po (lk l j) x= .slice (some ad) 1 c)
 (hty:P.underlying t=some (.slice E)) (Qe:(P.info? E).map (λi=>(i.size,i.bytes,i.zero.map (·.cells.size)))=some (sz,bytes,some sz))
 (hsz:cs.length=sz) (hone:cs.all (·.oneCell')=true) (hp:Nat.blt 0 sz=true)
 (hF:Fit w0 (cQ (Qw E sz own (.slice ca n0 cc) xs::own y cs::L)) w) (hnews:∀j u,cs[j]? = some u->w.cell? (ad.add j)=some u)
 (hb:(xs.length+1)*bytes<=140737488355328) (YZ:Nat.blt 0 bytes=true)
 (k:∀ca cc w1 a,Fit w0 (cQ (Qw E sz own (.slice ca (xs++[y]).length cc) (xs++[y])::L)) w1->fy Df n (lk ((d,.slice ca (xs++[y]).length cc)::l) j) a->wpList P ops Q rest a w1):wpList P ops Q (o::rest) a w:=by
 obtain⟨css,hl,h⟩:=hF.TS
 have hp':0<sz:=aei hp
 let c0:I8 sz:=⟨cs,hsz,by simpa using hone⟩
 have hlen:(css++[c0]).length=(xs++[y]).length:=by rw[ad9,ad9,hl];rfl
 refine O9 (m:=1) (c:=c) (bytes:=bytes) hw hd hn hr ho hs hx (V0 hp') (E:=E) (xs:=css) hty Qe h (news:=[c0]) rfl (by simpa using hnews) (by rw[hl];exact hb) YZ λca cc w1 a h Xq => ?_
 rw[hlen]at h Xq
 refine k ca cc w1 a (Fit.TT (css:=css++[c0]) hlen ?_) Xq
 rw[List.zipWith_append (by rw[hl])]
 simp only[List.zipWith_cons_cons,List.zipWith_nil_right,aeA,afy,afU]
 exact h
theorem SS{bytes:Nat}{s x:Operand}{va:Option Addr}{m0 c:Nat}(hw:Region.wanted o (yielded ops a.tmps)=true)(hd:o.dst=some d)(hn:Nat.blt d n=true)(hr:fy Df n (lk l j) a)
 (ho:o.op= .call {callee:=.builtin .append,args:=#[s,x],argTypes:=#[t,t]}) (hs:po (lk l j) s= .slice ca n0 cc) {news:List α} (hx:po (lk l j) x= .slice va news.length c)
 (he:QB enc sz) (hty:P.underlying t=some (.slice E)) (Qe:(P.info? E).map (λi=>(i.size,i.bytes,i.zero.map (·.cells.size)))=some (sz,bytes,some sz))
 (hF:Fit w0 (cQ (rowOf E sz enc (.slice ca n0 cc) xs::L)) w) (hnews:jJ L sz enc va news)
 (hb:(xs.length+news.length)*bytes<=140737488355328) (YZ:Nat.blt 0 bytes=true)
 (k:∀ca cc w1 a,Fit w0 (cQ (rowOf E sz enc (.slice ca (xs++news).length cc) (xs++news)::L)) w1->fy Df n (lk ((d,.slice ca (xs++news).length cc)::l) j) a->wpList P ops Q rest a w1):wpList P ops Q (o::rest) a w:=by
 by_cases h0:news.length=0
 ·have JA:news=[]:=agr h0
  subst JA
  have JD:=hF.N4
  simp only[af0]at k
  obtain⟨q,z,hq,h1,h2,h3,h4⟩ :∃i z,P.info? E=some i/\i.size=sz/\i.bytes=bytes/\i.zero=some z/\z.cells.size=sz:=by
   cases hi:P.info? E with
   | none=>simp[hi]at Qe
   | some i =>
    simp only[hi,afG,Option.some.injEq,Prod.mk.injEq]at Qe
    cases hz:i.zero with
    | none=>simp[hz]at Qe
    | some z=>exact⟨i,z,rfl,Qe.1,Qe.2.1,hz,by simpa [hz]using Qe.2.2⟩
  obtain⟨a',c',e1,_,yI⟩:=hF.VZ
  simp only[Value.slice.injEq]at e1
  obtain⟨rfl,_,rfl⟩:=e1
  refine Qg (w1:=w) (v:=.slice ca xs.length cc) hw hd hn hr ?_ (λa hr=>k ca cc w a (JD▸ hF) hr)
  unfold execOp
  have hle:n0<=cc:=by omega
  simp only[ho,resolve,invoke,builtin,aee,afu,aef,agk,afZ,af5,hs,hx]
  subst JD
  cases ca with
  | none=>cases va<;>simp[Builtin.append_,run_underlying hty,sizeOf,typeInfo,hq,Builtin.lenOf,Builtin.firstCells,loadCells,loadCellsFrom,yI]
  | some ac=>cases va<;>simp[Builtin.append_,run_underlying hty,sizeOf,typeInfo,hq,Builtin.lenOf,Builtin.firstCells,loadCells,loadCellsFrom,yI,storeCells]
 ·obtain⟨y,hy⟩ :∃y,news[0]? = some y:=⟨_,List.getElem?_eq_getElem (by omega)⟩
  have hva:=(hnews 0 y hy).1
  rw[hva]at hx
  refine O9 (m:=news.length) (c:=c) (bytes:=bytes) hw hd hn hr ho hs hx he hty Qe hF (news:=news) rfl (λi u hu => ?_) hb YZ k
  have hlt:=(List.getElem?_eq_some_iff.1 hu).1
  rw[he.flat]at hlt
  have hp:=he.pos
  have hdiv:i/sz<news.length:=(Nat.div_lt_iff_lt_mul hp).2 hlt
  have hm:i%sz<sz:=Nat.mod_lt _ hp
  have hyi:news[i/sz]? = some (news[i/sz]'hdiv):=List.getElem?_eq_getElem hdiv
  have hg:=he.get news (i/sz) (i%sz) _ hyi hm
  rw[show i/sz*sz+i%sz=i by rw[Nat.mul_comm];exact Nat.div_add_mod i sz,hu]at hg
  have:=(hnews _ _ hyi).2 (i%sz) u hg.symm w0 w hF.drop
  rw[afL]
  rw[show sJ va+i=sJ va+i/sz*sz+i%sz by rw[Nat.add_assoc,Nat.mul_comm,Nat.div_add_mod]]
  exact this
end
end GX
end
section
namespace Ar
open Go Go.RowKit SL GX
structure Acc where
 who:Int
 kind:Int
 addr:Int
 a:Int
 b:Int
 ok:Bool
deriving Inhabited,DecidableEq
def lP(x:Int):List Value:=[.int .i64 x]
def af1(x:Acc):List Value:=[.int .i64 x.who,.int .i64 x.kind,.int .i64 x.addr,.int .i64 x.a,.int .i64 x.b,.bool x.ok]
structure nI where
 size:Int
 cells:List Int
 log:List Acc
 lK:Int
 on:Bool
def agY(on:Bool)(log:List Acc)(x:Acc):List Acc:=if on=true then log++[x]else log
def nI.note(S:nI)(k i x y:Int)(ok:Bool):nI:={S with log:=agY S.on S.log ⟨S.lK,k,i,x,y,ok⟩}
def agV(mk ad:Int):Bool:=decide (ad>=0)&&decide (ad<mk)
def nI.load(S:nI)(i:Int):(Int×Int)×nI:=
 if agV S.cells.length i=true then((ag S.cells i.toNat,0),S.note 0 i (ag S.cells i.toNat) 0 true)else((0,20),S)
def nI.store(S:nI)(i v:Int):Int×nI:=
 if agV S.cells.length i=true then(0,{S with cells:=S.cells.set i.toNat v}.note 1 i v 0 true)else(20,S)
def nI.cas(S:nI)(i x y:Int):(Bool×Int)×nI:=
 if agV S.cells.length i=true then
  if ag S.cells i.toNat=x then((true,0),{S with cells:=S.cells.set i.toNat y}.note 2 i x y true)
  else ((false,0),S.note 2 i x y false)
 else ((false,20),S)
def nI.add(S:nI)(i d:Int):(Int×Int)×nI:=
 if agV S.cells.length i=true then
  ((IntKind.i64.wrap (ag S.cells i.toNat+d),0),{S with cells:=S.cells.set i.toNat (IntKind.i64.wrap (ag S.cells i.toNat+d))}.note 3 i d (IntKind.i64.wrap (ag S.cells i.toNat+d)) true)
 else ((0,20),S)
def nI.reserve(S:nI)(n:Int):(Int×Int)×nI:=
 if n<1 then((0,21),S)
 else if n>S.size-S.cells.length then((0,22),S)
 else ((((S.cells.length:Nat):Int),0),{S with cells:=S.cells++List.replicate n.toNat 0}.note 4 S.cells.length n 0 true)
def nI.done(S:nI)(k i x y:Int):(Int×Bool×Int)×nI:=
 if k=0 then(((S.load i).1.1,(S.load i).1.2==0,(S.load i).1.2),(S.load i).2)
 else if k=1 then((0,(S.store i x).1==0,(S.store i x).1),(S.store i x).2)
 else if k=2 then((0,(S.cas i x y).1.1,(S.cas i x y).1.2),(S.cas i x y).2)
 else if k=3 then(((S.add i x).1.1,(S.add i x).1.2==0,(S.add i x).1.2),(S.add i x).2)
 else (((S.reserve x).1.1,(S.reserve x).1.2==0,(S.reserve x).1.2),(S.reserve x).2)
def nI.new(n:Int):nI:={size:=n,cells:=[],log:=[],lK:=0,on:=false}
def agT(S:nI)(ca:Option Addr)(cc:Nat)(la:Option Addr)(lc:Nat):Obj:=
 .cells #[.int .i64 S.size,.int .i64 ((S.cells.length:Nat):Int),.slice ca S.cells.length cc,.slice la S.log.length lc,.int .i64 S.lK,.bool S.on] 92
def K6(A:Nat)(S:nI):M5:=exs λca=>exs λcc=>exs λla=>exs λlc =>
 cQ [pts A (agT S ca cc la lc),rowOf 2 1 lP (.slice ca S.cells.length cc) S.cells,rowOf 159 6 af1 (.slice la S.log.length lc) S.log]
section
variable {z w:World}{L:List M5}{A:Nat}{S:nI}
theorem K6.op(h:Fit z (cQ (K6 A S::L)) w) :∃ca cc la lc,Fit z (cQ (pts A (agT S ca cc la lc)::rowOf 2 1 lP (.slice ca S.cells.length cc) S.cells::rowOf 159 6 af1 (.slice la S.log.length lc) S.log::L)) w:=by
 obtain⟨ca,h⟩:=h.PC
 obtain⟨cc,h⟩:=h.PC
 obtain⟨la,h⟩:=h.PC
 obtain⟨lc,h⟩:=h.PC
 exact⟨ca,cc,la,lc,h.u9⟩
theorem K6.sh{n m:Nat}{q:Int}{ca cc la lc}(h:Fit z (cQ (pts A (.cells #[.int .i64 S.size,.int .i64 q,.slice ca n cc,.slice la m lc,.int .i64 S.lK,.bool S.on] 92)::rowOf 2 1 lP (.slice ca n cc) S.cells::rowOf 159 6 af1 (.slice la m lc) S.log::L)) w)
 (hq:q=((n:Nat):Int)) (hn:n=S.cells.length) (hm:m=S.log.length):Fit z (cQ (K6 A S::L)) w:=by
 subst hq
 subst hn
 subst hm
 exact Fit.O1 ca (Fit.O1 cc (Fit.O1 la (Fit.O1 lc (Fit.vb [_,_,_] L h))))
theorem K6.mk{n:Int}(h:Fit z (cQ (pts A (.cells #[.int .i64 n,.int .i64 0,.slice none 0 0,.slice none 0 0,.int .i64 0,.bool false] 92)::L)) w):Fit z (cQ (K6 A (nI.new n)::L)) w:=by
 have h1:Fit z (cQ (rowOf 159 6 af1 (.slice none 0 0) ([]:List Acc)::pts A _::L)) w:=h.ua
 have h2:Fit z (cQ (rowOf 2 1 lP (.slice none 0 0) ([]:List Int)::rowOf 159 6 af1 (.slice none 0 0) ([]:List Acc)::pts A _::L)) w:=h1.ua
 exact K6.sh (S:=nI.new n) (h2.pick 2) rfl rfl rfl
end
end Ar
end
section
namespace RK
open Go Go.RowKit Go.ChangeShapes Go.WideShapes Go.Deep SL GX Ar
section
variable {H:Type}{enc:TypeId×Value->H}{P:Program}{w W:World}{base:Nat}{spare:Nat->Bool}{held:Bool}{r:Reach}{b0:Nat}{t e:TypeId}{v:Value}{d:DataW H}{ps:List MemPlace}
theorem mO(hl:laidOutB P=true){W':World}(hb:Below W.heap.size W W'):∀{ts:List TypeId} {vs:List Value} {ds:List (DataW H)} {ps:List MemPlace},
 ts.all (λt=>P.readableRec t&&decide (t<P.types.size))=true->DataW.TrodAll enc P W 0 (λ_=>true) true ts vs ds ps->DataW.TrodAll enc P W' 0 (λb=>decide (b<W.heap.size)) true ts vs ds ps
 | [],[],[],_,_,h=>h
 | t::ts,v::vs,d::ds,_,hts,⟨p,q,h1,h2,e⟩=>by
  simp only[List.all_cons,aec,af7]at hts
  refine⟨p,q,Below.trod hl hts.1.1 hts.1.2 h1 hb ?_,mO hl hb hts.2 h2,e⟩
  obtain⟨n,hn⟩:=h1
  exact DataW.trod_lt n _ _ _ hn
theorem wf_i64{x:Int}(h:(Lit.int .i64 x).wf=true):-9223372036854775808<=x/\x<=9223372036854775807:=by
 simp only[Lit.wf,aec,af7]at h
 exact⟨h.1,h.2⟩
end
open Go Go.RowKit Go.ChangeShapes Go.WideShapes Go.Deep SL GX
theorem ry{H:Type}(d:DataW H):1<=Rows.uptoBulk d:=by
 cases d with
 | lit l=>cases l<;>simp[Rows.uptoBulk]
 | nil=>simp[Rows.uptoBulk]
 | ptr d=>simp[Rows.uptoBulk]
 | slice elems spare=>simp[Rows.uptoBulk]
 | agg parts=>simp[Rows.uptoBulk]
 | iface t d=>simp[Rows.uptoBulk]
 | map entries=>simp[Rows.uptoBulk]
 | held h=>simp[Rows.uptoBulk]
theorem pR{H:Type}{d:DataW H}{l:List (DataW H)}(h:d∈l):Rows.uptoBulk d<=Rows.uptoBulkAll l:=by
 induction l with
 | nil=>cases h
 | cons x r ih =>
  simp only[Rows.uptoBulkAll]
  cases List.mem_cons.1 h with
  | inl e=>subst e;omega
  | inr e=>have:=ih e;omega
theorem wA{H:Type}(l:List (DataW H)):l.length<=Rows.uptoBulkAll l:=by
 induction l with
 | nil=>simp
 | cons x r ih=>have:=ry x;simp only[Rows.uptoBulkAll,af2];omega
def oI(x:Int):Prop:=-9223372036854775808<=x/\x<=9223372036854775807
end RK
end
section
namespace GX
open Go Go.RowKit SL
abbrev vI(x:Int):Value:=.int .i64 x
abbrev vB(x:Bool):Value:=.bool x
abbrev pN:Value:=.pointer none
abbrev pA(b off:Nat):Value:=.pointer (some ⟨b,off,none⟩)
section
variable {P:Program}{ops:Array Oper}{Q:Exit->Act->World->Prop}{a:Act}{w w0 w1:World}{rest:List Oper}{o:Oper}{n d t T:Nat}{v u:Value}{l:List (Nat×Value)}{j e:Nat->Value}{L:List M5}{Df:List Deferred}
theorem PB{i:Nat}{b x c r:Bool}(hr:fy Df n e a)(pf:x=c)(hg:o.guard=some (i,b):=by rfl)(hi:(ops[i]?).bind (·.dst)=some t:=by rfl)(ht:Nat.blt t n=true:=by rfl)(he:e t= .bool x:=by kernel_rfl)(hc:(c==b)=r:=by rfl) :
 Region.wanted o (yielded ops a.tmps)=r:=by
 subst pf hc;exact wg hr hg hi ht he
theorem adO(hw:Region.wanted o (yielded ops a.tmps)=false)(hr:fy Df n (lk l j) a)(k:∀a,fy Df n (lk ((d,undef)::l) j) a->wpList P ops Q rest a w)(hd:o.dst=some d:=by rfl)(hn:Nat.blt d n=true:=by rfl):wpList P ops Q (o::rest) a w:=Y7 hw hd hn hr k
theorem Y0(hw:Region.wanted o (yielded ops a.tmps)=true)(hr:fy Df n (lk l j) a)(v:Value)(hrun:(execOp (po (lk l j)) o).run P w= .ok (.value v) w)(k:∀a,fy Df n (lk ((d,v)::l) j) a->wpList P ops Q rest a w)(hd:o.dst=some d:=by rfl)(hn:Nat.blt d n=true:=by rfl):wpList P ops Q (o::rest) a w:=wh hw hd hn hr hrun k
theorem ld{x:Operand}{ad:Addr}(hw:Region.wanted o (yielded ops a.tmps)=true)(hr:fy Df n (lk l j) a)(v:Value)(hc:w.cell? ad=some v)(k:∀a,fy Df n (lk ((d,v)::l) j) a->wpList P ops Q rest a w)
 (hd:o.dst=some d:=by rfl) (hn:Nat.blt d n=true:=by rfl) (ho:o.op= .load T x:=by rfl) (hx:po (lk l j) x= .pointer (some ad):=by kernel_rfl) (hu:SR (P.underlying T)=true:=by kernel_rfl):wpList P ops Q (o::rest) a w:=wh hw hd hn hr (rl ho hx hu hc) k
theorem RI{x:Operand}{b off:Nat}{cs:List Value}(hw:Region.wanted o (yielded ops a.tmps)=true)(hr:fy Df n (lk l j) a)(v:Value)(hc:lI w b off cs)(k:∀a,fy Df n (lk ((d,v)::l) j) a->wpList P ops Q rest a w)(hv: .agg cs.toArray=v:=by rfl)
 (hd:o.dst=some d:=by rfl) (hn:Nat.blt d n=true:=by rfl) (ho:o.op= .load T x:=by rfl) (hx:po (lk l j) x= .pointer (some ⟨b,off,none⟩):=by kernel_rfl) (hu:Rs (P.underlying T)=true:=by kernel_rfl) (hs:(P.info? T).map (·.size)=some cs.length:=by kernel_rfl):wpList P ops Q (o::rest) a w:=by
 subst hv;exact wh hw hd hn hr (rlm ho hx hu hs hc) k
theorem _root_.Go.Proofs.YtpikpffbcjpmcaaGreatDoor.SL.Fit.held{z:World}{b:Nat}{cs:Array Value}{t:TypeId}{q:Nat×Nat}(h:Fit z (cQ (pts b (.cells cs t q)::L)) w)(off:Nat){xs:List Value}(hx:(cs.toList.drop off).take xs.length=xs):lI w b off xs:=by
 have hg:∀k u,xs[k]? = some u->w.cell? ⟨b,off+k,none⟩=some u:=by
  intro k u hk
  refine h.cell (off+k) ?_
  rw[<-hx,List.getElem?_take]at hk
  split at hk
  ·rw[List.getElem?_drop]at hk;simpa using hk
  ·cases hk
 clear hx
 induction xs generalizing off with
 | nil=>trivial
 | cons x xs ih =>
  refine⟨hg 0 x rfl,ih (off+1) λk u hk => ?_⟩
  have:=hg (k+1) u (by simpa using hk)
  rw[show off+1+k=off+(k+1) by omega];exact this
theorem sr{J9:Nat}{y:Code}{os:List Oper}(h:wpList P os.toArray (Exit.then (y.wp P Q) Q) os a w):(Code.seq (.region J9 os.toArray false) y).wp P Q a w:=wp_seq (wp_region_lit h)
theorem ON{D:World->Prop}{E:List Nat}{listed:Array Bool}[hp:PI Q](fuel i:Nat)(hi:ops[i]? = some o)(hw:Region.wanted o (yielded ops a.tmps)=true)(hr:fy Df n (lk l j) a)(v:Value)
 (k:∀a,fy Df n (lk ((d,v)::l) j) a->fb P .any ops Q D E fuel (listed.setIfInBounds i true) a w) (hB:okB ops E listed i=true:=by kernel_rfl)
 (hrun:∀w,(execOp (po (lk l j)) o).run P w= .ok (.value v) w:=by intro w;kernel_rfl) (hd:o.dst=some d:=by rfl) (hn:Nat.blt d n=true:=by rfl) :
 fb P .any ops Q D E (fuel+1) listed a w:=ev fuel i hi hB hw hr v hrun k hd hn
theorem eos{D:World->Prop}{E:List Nat}{listed:Array Bool}[hp:PI Q](fuel i:Nat)(hi:ops[i]? = some o)(hw:Region.wanted o (yielded ops a.tmps)=false)(hr:fy Df n (lk l j) a)
 (k:∀a,fy Df n (lk ((d,undef)::l) j) a->fb P .any ops Q D E fuel (listed.setIfInBounds i true) a w) (hB:okB ops E listed i=true:=by kernel_rfl) (hd:o.dst=some d:=by rfl) (hn:Nat.blt d n=true:=by rfl) :
 fb P .any ops Q D E (fuel+1) listed a w:=eo fuel i hi hB hw hr k hd hn
abbrev nb(b:Nat):Value:=pA b 0
theorem o1(hr:fy Df n (lk l j) a)(v:Value)(k:∀a,fy Df n (lk ((d,v)::l) j) a->wpList P ops Q rest a w)(hrun:(execOp (po (lk l j)) o).run P w= .ok (.value v) w:=by kernel_rfl)(hg:o.guard=none:=by rfl)(hd:o.dst=some d:=by rfl)(hn:Nat.blt d n=true:=by rfl):wpList P ops Q (o::rest) a w:=ov hr v hrun k hg hd hn
theorem oo(ds:List Nat)(vs:List Value){os:List Oper}(hr:fy Df n (lk l j) a)(k:∀a,fy Df n (lk (aay ds vs l) j) a->wpList P ops Q (os.drop ds.length) a w)(hl:ds.length=vs.length/\ds.all (λd=>Nat.blt d n)=true:=by exact⟨rfl,rfl⟩)(hrun:Yr P (os.take ds.length) vs l j w=Ys ds vs w:=by kernel_rfl):wpList P ops Q os a w:=ovs ds vs hr hl hrun k
theorem cl{f:FuncId}{args:Array Value}{R:Ending->World->Prop}(hw:Region.wanted o (yielded ops a.tmps)=true)(hr:fy Df n (lk l j) a)(hc:Calls P f args w R)
 (k:∀e w1,R e w1->∃v,e= .returned v/\∀a,fy Df n (lk ((d,v)::l) j) a->wpList P ops Q rest a w1) (hrun:(execOp (po (lk l j)) o).run P w= .ok (.enter f args) w:=by kernel_rfl) (hd:o.dst=some d:=by rfl) (hn:Nat.blt d n=true:=by rfl):wpList P ops Q (o::rest) a w:=ng hw hd hn hr hrun hc k
theorem acq(hw:Region.wanted o (yielded ops a.tmps)=true)(hr:fy Df n (lk l j) a)(hF:Fit w0 (cQ L) w)(vf:Nat->Value)(cs:Array Value)(T:TypeId)
 (k:∀b w1 a,Fit w0 (cQ (pts b (.cells cs T)::L)) w1->fy Df n (lk ((d,vf b)::l) j) a->wpList P ops Q rest a w1) (hrun:(execOp (po (lk l j)) o).run P w= .ok (.value (vf w.heap.size)) (w.alloc (.cells cs T)):=by kernel_rfl) (hd:o.dst=some d:=by rfl) (hn:Nat.blt d n=true:=by rfl):wpList P ops Q (o::rest) a w:=Y8 hw hd hn hr hF hrun k
theorem VD{α:Type}{E:TypeId}{sz n0 cc:Nat}{enc:α->List Value}{xs:List α}{ca:Option Addr}{x y:Operand}(hw:Region.wanted o (yielded ops a.tmps)=true)(hr:fy Df n (lk l j) a)(he:QB enc sz)(hF:Fit w0 (cQ (rowOf E sz enc (.slice ca n0 cc) xs::L)) w)(i f:Nat)(v:Value)(p q:α)(hp:xs[i]? = some p)
 (k:∀w1,Fit w0 (cQ (rowOf E sz enc (.slice ca n0 cc) (xs.set i q)::L)) w1->wpList P ops Q rest a w1) (hd:o.dst=none:=by rfl) (ho:o.op= .store T x y:=by rfl) (hx:po (lk l j) x= .pointer (some ⟨Cp ca,i*sz+f,none⟩):=by kernel_rfl) (hy:po (lk l j) y=v:=by kernel_rfl)
 (hv:v.cells=#[v]:=by rfl) (h1:v.oneCell'=true:=by rfl) (hs:(P.info? T).map (·.size)=some 1:=by kernel_rfl) (hf:f<sz:=by decide) (hq:enc q=(enc p).set f v:=by rfl):wpList P ops Q (o::rest) a w:=M7 hw hd hr ho hx hy hv h1 hs he hF hp hf hq k
theorem ln{K:Act->World->Prop}(h:K a w):wpList P ops (Exit.then K Q) [] a w:=wpList_nil (q8 h)
end
end GX
end
section
namespace SL
open Go Go.RowKit
section
variable {z w:World}{L L':List M5}
theorem Fit.m1{A0 A1:M5}(h:Fit z (cQ (A0::A1::L)) w):Fit z (cQ (A1::A0::L)) w:=h.pick 1
theorem Fit.m2{A0 A1 A2:M5}(h:Fit z (cQ (A0::A1::A2::L)) w):Fit z (cQ (A2::A0::A1::L)) w:=h.pick 2
theorem Fit.m3{A0 A1 A2 A3:M5}(h:Fit z (cQ (A0::A1::A2::A3::L)) w):Fit z (cQ (A3::A0::A1::A2::L)) w:=h.pick 3
theorem Fit.m4{A0 A1 A2 A3 A4:M5}(h:Fit z (cQ (A0::A1::A2::A3::A4::L)) w):Fit z (cQ (A4::A0::A1::A2::A3::L)) w:=h.pick 4
theorem Fit.m5{A0 A1 A2 A3 A4 A5:M5}(h:Fit z (cQ (A0::A1::A2::A3::A4::A5::L)) w):Fit z (cQ (A5::A0::A1::A2::A3::A4::L)) w:=h.pick 5
theorem Fit.m6{A0 A1 A2 A3 A4 A5 A6:M5}(h:Fit z (cQ (A0::A1::A2::A3::A4::A5::A6::L)) w):Fit z (cQ (A6::A0::A1::A2::A3::A4::A5::L)) w:=h.pick 6
theorem Fit.m7{A0 A1 A2 A3 A4 A5 A6 A7:M5}(h:Fit z (cQ (A0::A1::A2::A3::A4::A5::A6::A7::L)) w):Fit z (cQ (A7::A0::A1::A2::A3::A4::A5::A6::L)) w:=h.pick 7
theorem Fit.m8{A0 A1 A2 A3 A4 A5 A6 A7 A8:M5}(h:Fit z (cQ (A0::A1::A2::A3::A4::A5::A6::A7::A8::L)) w):Fit z (cQ (A8::A0::A1::A2::A3::A4::A5::A6::A7::L)) w:=h.pick 8
theorem Fit.m9{A0 A1 A2 A3 A4 A5 A6 A7 A8 A9:M5}(h:Fit z (cQ (A0::A1::A2::A3::A4::A5::A6::A7::A8::A9::L)) w):Fit z (cQ (A9::A0::A1::A2::A3::A4::A5::A6::A7::A8::L)) w:=h.pick 9
theorem Fit.Y1{A0 A1 A2 A3 A4 A5 A6 A7 A8 A9 A10:M5}(h:Fit z (cQ (A0::A1::A2::A3::A4::A5::A6::A7::A8::A9::A10::L)) w):Fit z (cQ (A10::A0::A1::A2::A3::A4::A5::A6::A7::A8::A9::L)) w:=h.pick 10
theorem Fit.m11{A0 A1 A2 A3 A4 A5 A6 A7 A8 A9 A10 A11:M5}(h:Fit z (cQ (A0::A1::A2::A3::A4::A5::A6::A7::A8::A9::A10::A11::L)) w):Fit z (cQ (A11::A0::A1::A2::A3::A4::A5::A6::A7::A8::A9::A10::L)) w:=h.pick 11
theorem Fit.Wa{n m:Nat}(e:n=m)(F:Nat->M5)(h:Fit z (cQ (F n::L)) w):Fit z (cQ (F m::L)) w:=e▸ h
theorem Fit.oH{α:Type}{e sz cc n:Nat}{enc:α->List Value}{ca:Option Addr}{l:List α}{P:M5}(h:Fit z (cQ (rowOf e sz enc (.slice ca n cc) l::P::L)) w)(f:Nat->M5)(hp:P=f n:=by rfl):Fit z (cQ (rowOf e sz enc (.slice ca l.length cc) l::f l.length::L)) w:=by
 have hn:=h.N4;subst hn;exact hp▸ h
theorem Fit.se(h:Fit z (cQ L) w)(n:Nat)(is:List Nat)(hB:GX.GB n is=true:=by kernel_rfl)(e:is.map (λi=>L.getD i sI)++L.drop n=L':=by kernel_rfl):Fit z (cQ L') w:=h.Di n is hB e
end
end SL
namespace GX
open Go Go.RowKit SL
section
variable {P:Program}{ops:Array Oper}{Q:Exit->Act->World->Prop}{a:Act}{w w0 w1:World}{rest os:List Oper}{o:Oper}{n d t T:Nat}{v u:Value}{l:List (Nat×Value)}{j e:Nat->Value}{L:List M5}{Df:List Deferred}
theorem fy.fj{X:Prop}(h:fy Df n e a)(hX:X)(hl:l.map (λp=>e p.1)=l.map (·.2):=by kernel_rfl) :∃j,fy Df n (lk l j) a/\X:=let ⟨j,h⟩:=h.ac9 l hl;⟨j,h,hX⟩
theorem fy.re(h:fy Df n (lk l j) a)(t:Nat){v v':Value}(e:v=v')(hv:lk l j t=v:=by kernel_rfl):fy Df n (lk ((t,v')::l) j) a:=by
 obtain⟨h1,h2,h3⟩:=h
 refine⟨h1,λq => ?_,h3⟩
 rw[h2 q]
 show lk l j q=bif Nat.beq q t then v' else lk l j q
 cases hb:Nat.beq q t with
 | false=>rfl
 | true=>have:=agM hb;subst this;rw[hv,e];rfl
def HL:List (Nat×Nat×List Value)->World->Prop
 | [],_=>True
 | p::r,w=>lI w p.1 p.2.1 p.2.2/\HL r w
theorem wB:∀D w w',fC w w'->HL D w->HL D w'
 | [],_,_,_,_=>trivial
 | p::r,w,w',g,h=>⟨oG _ _ _ _ _ g h.1,wB r w w' g h.2⟩
theorem Wb:∀{D:List (Nat×Nat×List Value)} {k:Nat} {p:Nat×Nat×List Value},D[k]? = some p->HL D w->lI w p.1 p.2.1 p.2.2
 | [],k,p,e,_=>by simp at e
 | q::r,0,p,e,h=>by simp at e;subst e;exact h.1
 | q::r,k+1,p,e,h=>Wb (D:=r) (k:=k) (by simpa using e) h.2
variable {D:List (Nat×Nat×List Value)}{E:List Nat}{listed:Array Bool}{N:Nat}
theorem Ob{id:Nat}{lo:List Oper}{H:M5}(D:List (Nat×Nat×List Value))(E:List Nat)(N:Nat)(hF:Fit w0 H w)(hd:∀{w},Fit w0 H w->HL D w)
 (k:∀w,Fit w0 H w->HL D w->fb P .any lo.toArray Q (HL D) E N (Array.replicate N false) a w) (hm:P.follows .mixedOrders=true:=by kernel_rfl) (hN:lo.toArray.size=N:=by rfl) :
 (Code.region id lo.toArray true).wp P Q a w:=by
 subst hN;exact ac6 (HL D) E hF hm λw h=>k w h (hd h)
def FE(ops:Array Oper)(E:List Nat)(listed:Array Bool)(i:Nat):Bool:=okB ops E listed i||Dn ops E listed i
theorem e1[hp:PI Q](hd:HL D w)(fuel i:Nat)(hi:ops[i]? = some o)(hB:FE ops E listed i=true)(hw:Region.wanted o (yielded ops a.tmps)=true)(hr:fy Df n (lk l j) a)(v:Value)
 (hrun:∀w,(execOp (po (lk l j)) o).run P w= .ok (.value v) w) (k:∀a,fy Df n (lk ((d,v)::l) j) a->fb P .any ops Q (HL D) E fuel (listed.setIfInBounds i true) a w) (h1:o.dst=some d) (hn:Nat.blt d n=true) :
 fb P .any ops Q (HL D) E (fuel+1) listed a w:=by
 unfold FE at hB
 rw[af6]at hB
 rcases hB with hB | hB
 ·exact ev fuel i hi hB hw hr v hrun k h1 hn
 ·exact J1 (wB D) hd fuel i hi hB hw hr v hrun k h1 hn
theorem e0[hp:PI Q](hd:HL D w)(fuel i:Nat)(hi:ops[i]? = some o)(hB:FE ops E listed i=true)(hw:Region.wanted o (yielded ops a.tmps)=false)(hr:fy Df n (lk l j) a)
 (k:∀a,fy Df n (lk ((d,undef)::l) j) a->fb P .any ops Q (HL D) E fuel (listed.setIfInBounds i true) a w) (h1:o.dst=some d) (hn:Nat.blt d n=true) :
 fb P .any ops Q (HL D) E (fuel+1) listed a w:=by
 unfold FE at hB
 rw[af6]at hB
 rcases hB with hB | hB
 ·exact eo fuel i hi hB hw hr k h1 hn
 ·exact J2 (wB D) hd fuel i hi hB hw hr k h1 hn
theorem eof[hp:PI Q](hd:HL D w)(f i:Nat)(hi:ops[i]? = some o)(hw:Region.wanted o (yielded ops a.tmps)=false)(hr:fy Df n (lk l j) a)
 (k:∀a,fy Df n (lk ((d,undef)::l) j) a->fb P .any ops Q (HL D) E f (listed.setIfInBounds i true) a w) (hB:FE ops E listed i=true:=by kernel_rfl) (h1:o.dst=some d:=by rfl) (hn:Nat.blt d n=true:=by rfl) :
 fb P .any ops Q (HL D) E (f+1) listed a w:=e0 hd f i hi hB hw hr k h1 hn
theorem Pj[hp:PI Q](hd:HL D w)(f i:Nat)(hi:ops[i]? = some o)(hw:Region.wanted o (yielded ops a.tmps)=true)(hr:fy Df n (lk l j) a)(v:Value)
 (k:∀a,fy Df n (lk ((d,v)::l) j) a->fb P .any ops Q (HL D) E f (listed.setIfInBounds i true) a w) (hB:FE ops E listed i=true:=by kernel_rfl) (hrun:∀w,(execOp (po (lk l j)) o).run P w= .ok (.value v) w:=by intro w;kernel_rfl) (h1:o.dst=some d:=by rfl) (hn:Nat.blt d n=true:=by rfl) :
 fb P .any ops Q (HL D) E (f+1) listed a w:=e1 hd f i hi hB hw hr v hrun k h1 hn
def abz:List (Nat×Nat×Value)->Array Bool->Array Bool
 | [],s=>s
 | p::r,s=>abz r (s.setIfInBounds p.1 true)
def abA:List (Nat×Nat×Value)->List (Nat×Value)->List (Nat×Value)
 | [],l=>l
 | p::r,l=>abA r ((p.2.1,p.2.2)::l)
def Yt(P:Program)(ops:Array Oper):List (Nat×Nat×Value)->List (Nat×Value)->(Nat->Value)->World->List (Option (Option Nat×Option (Nat×Bool))×Result Next)
 | [],_,_,_=>[]
 | p::r,l,j,w=>((ops[p.1]?).map λo=>(o.dst,o.guard),(match ops[p.1]? with | some o=>(execOp (po (lk l j)) o).run P w | none=>.ok .skip w))::Yt P ops r ((p.2.1,p.2.2)::l) j w
def Vz:List (Nat×Nat×Value)->World->List (Option (Option Nat×Option (Nat×Bool))×Result Next)
 | [],_=>[]
 | p::r,w=>(some (some p.2.1,none),.ok (.value p.2.2) w)::Vz r w
def okE(ops:Array Oper)(E:List Nat)(n:Nat):List (Nat×Nat×Value)->Array Bool->Bool
 | [],_=>true
 | p::r,s=>FE ops E s p.1&&Nat.blt p.2.1 n&&okE ops E n r (s.setIfInBounds p.1 true)
theorem evl[hp:PI Q](hd:HL D w)(f:Nat):∀(is:List (Nat×Nat×Value)) {listed:Array Bool} {a:Act} {l:List (Nat×Value)} (hr:fy Df n (lk l j) a)
 (k:∀a,fy Df n (lk (abA is l) j) a->fb P .any ops Q (HL D) E f (abz is listed) a w) (hB:okE ops E n is listed=true:=by kernel_rfl) (hrun:∀w,Yt P ops is l j w=Vz is w:=by intro w;kernel_rfl),
 fb P .any ops Q (HL D) E (f+is.length) listed a w
 | [],listed,a,l,hr,k,_,_=>k a hr
 | p::is,listed,a,l,hr,k,hB,hrun=>by
  simp only[okE,aec]at hB
  obtain⟨⟨h1,h2⟩,h3⟩:=hB
  have ada:∀w,Yt P ops is ((p.2.1,p.2.2)::l) j w=Vz is w:=λw=>by have:=hrun w;simp only[Yt,Vz,List.cons.injEq]at this;exact this.2
  cases ho:ops[p.1]? with
  | none=>have:=hrun w;simp only[Yt,Vz,ho,List.cons.injEq]at this;simp at this
  | some o =>
   have h4:∀w,(o.dst=some p.2.1/\o.guard=none)/\(execOp (po (lk l j)) o).run P w= .ok (.value p.2.2) w:=λw=>by
    have:=hrun w;simp only[Yt,Vz,ho,List.cons.injEq,afG,Prod.mk.injEq,Option.some.injEq]at this;exact this.1
   have h5:=(h4 w).1
   exact e1 hd (f+is.length) p.1 ho h1 (wn h5.2) hr p.2.2 (λw=>(h4 w).2) (λa hr=>evl hd f is hr k h3 ada) h5.1 h2
theorem adP[hp:PI Q](hd:HL D w)(f:Nat)(is:List (Nat×Nat×Value))(hr:fy Df n (lk l j) a)(k:∀a,fy Df n (lk (abA is l) j) a->fb P .any ops Q (HL D) E f (abz is listed) a w)
 (hN:f+is.length=N:=by rfl) (hB:okE ops E n is listed=true:=by kernel_rfl) (hrun:∀w,Yt P ops is l j w=Vz is w:=by intro w;kernel_rfl):fb P .any ops Q (HL D) E N listed a w:=by
 subst hN;exact evl hd f is hr k hB hrun
theorem elx[hp:PI Q](hd:HL D w)(q f i:Nat){b off:Nat}{x:Operand}(hr:fy Df n (lk l j) a)(hw:Region.wanted o (yielded ops a.tmps)=true)(hi:ops[i]? = some o)(hq:D[q]? = some (b,off,[v]))
 (k:∀a,fy Df n (lk ((d,v)::l) j) a->fb P .any ops Q (HL D) E f (listed.setIfInBounds i true) a w) (hB:(okB ops E listed i&&rq .any ops E listed i)=true:=by kernel_rfl)
 (ho:o.op= .load T x:=by rfl) (hx:po (lk l j) x= .pointer (some ⟨b,off,none⟩):=by kernel_rfl) (hu:SR (P.underlying T)=true:=by kernel_rfl) (h1:o.dst=some d:=by rfl) (hn:Nat.blt d n=true:=by rfl) :
 fb P .any ops Q (HL D) E (f+1) listed a w:=
 el E (b:=b) (off:=off) (cs:=[v]) (λ_ hk=>⟨hk,λw h=>Wb hq h⟩) f i hi hB hw hr v (Wb hq hd) (λw hc=>rl ho hx hu hc.1) k h1 hn
theorem elm[hp:PI Q](hd:HL D w)(q f i:Nat){b off:Nat}{cs:List Value}{x:Operand}(hr:fy Df n (lk l j) a)(hw:Region.wanted o (yielded ops a.tmps)=true)(hi:ops[i]? = some o)(hq:D[q]? = some (b,off,cs))
 (k:∀a,fy Df n (lk ((d,.agg cs.toArray)::l) j) a->fb P .any ops Q (HL D) E f (listed.setIfInBounds i true) a w) (hB:(okB ops E listed i&&rq .any ops E listed i)=true:=by kernel_rfl)
 (ho:o.op= .load T x:=by rfl) (hx:po (lk l j) x= .pointer (some ⟨b,off,none⟩):=by kernel_rfl) (hu:Rs (P.underlying T)=true:=by kernel_rfl) (hs:(P.info? T).map (·.size)=some cs.length:=by kernel_rfl) (h1:o.dst=some d:=by rfl) (hn:Nat.blt d n=true:=by rfl) :
 fb P .any ops Q (HL D) E (f+1) listed a w:=
 el E (b:=b) (off:=off) (cs:=cs) (λ_ hk=>⟨hk,λw h=>Wb hq h⟩) f i hi hB hw hr _ (Wb hq hd) (λw hc=>rlm ho hx hu hs hc) k h1 hn
theorem eE{p X Y:Prop}(hd:Y)(k:Y->X):(p->Y)/\X:=⟨λ_=>hd,k hd⟩
theorem xE{i:Nat}{X Y:Prop}(k:X)(hB:¬i∈E:=by decide):(i∈E->Y)/\X:=⟨λh=>absurd h hB,k⟩
theorem N3(i:Nat){D:World->Prop}{fuel:Nat}(hi:ops[i]? = some o)(k:wpList P ops (Exit.then (λa w=>(i∈E->D w)/\fb P .any ops Q D E fuel (listed.setIfInBounds i true) a w) Q) [o] a w)
 (hrd:Region.ready .any ops listed=[i]:=by kernel_rfl):fb P .any ops Q D E (fuel+1) listed a w:=ac7 hrd hi k
theorem O4{D:World->Prop}{fuel:Nat}(k:Q .normal a w)(hrd:Region.ready .any ops listed=[]:=by kernel_rfl):fb P .any ops Q D E fuel listed a w:=ac8 hrd k
section
variable {β:Type}{p:Prop}[Decidable p]{X Y r:Option β}{c:Operand}{x y:Code}
theorem cD(hr:fy Df n e a)(H:(if p then X else Y)=r)(k1:p->X=r->x.wp P Q a w)(k2:¬p->Y=r->y.wp P Q a w)(hc:po e c= .bool (decide p):=by kernel_rfl):(Code.cond c x y).wp P Q a w:=by
 by_cases h:p
 ·rw[au h]at H;exact AH hr hc (afC h) (k1 h H)
 ·rw[aj h]at H;exact AJ hr hc (agE h) (k2 h H)
theorem cN(hr:fy Df n e a)(H:(if p then X else Y)=r)(k1:p->X=r->y.wp P Q a w)(k2:¬p->Y=r->x.wp P Q a w)(hc:po e c= .bool (!decide p):=by kernel_rfl):(Code.cond c x y).wp P Q a w:=by
 by_cases h:p
 ·rw[au h]at H;exact AJ hr hc (by simp[h]) (k1 h H)
 ·rw[aj h]at H;exact AH hr hc (by simp[h]) (k2 h H)
theorem cV{b:Bool}(hr:fy Df n e a)(H:(if b=true then X else Y)=r)(k1:b=true->X=r->x.wp P Q a w)(k2:¬b=true->Y=r->y.wp P Q a w)(hc:po e c= .bool b:=by kernel_rfl):(Code.cond c x y).wp P Q a w:=by
 by_cases h:b=true
 ·rw[au h]at H;exact AH hr hc h (k1 h H)
 ·rw[aj h]at H;exact AJ hr hc (by simpa using h) (k2 h H)
theorem cM{b:Bool}(hr:fy Df n e a)(H:(if b=true then X else Y)=r)(k1:b=true->X=r->y.wp P Q a w)(k2:¬b=true->Y=r->x.wp P Q a w)(hc:po e c= .bool (!b):=by kernel_rfl):(Code.cond c x y).wp P Q a w:=by
 by_cases h:b=true
 ·rw[au h]at H;exact AJ hr hc (by simp[h]) (k1 h H)
 ·rw[aj h]at H;exact AH hr hc (by simpa using h) (k2 h H)
end
def aaA(P:Program)(ops:Array Oper)(n:Nat):List Oper->List Value->List (Nat×Value)->(Nat->Value)->World->List (Option Nat×Option (Bool×Option (Bool×Value))×Result Next)
 | o::os,v::vs,l,j,w=>(o.dst,o.guard.map (λg=>(g.2,((ops[g.1]?).bind (·.dst)).map λt=>(Nat.blt t n,lk l j t))),(execOp (po (lk l j)) o).run P w)::aaA P ops n os vs ((o.dst.getD 0,v)::l) j w
 | _,_,_,_,_=>[]
def Yu(x c:Bool):List Nat->List Value->World->List (Option Nat×Option (Bool×Option (Bool×Value))×Result Next)
 | d::ds,v::vs,w=>(some d,some (c,some (true,.bool x)),.ok (.value v) w)::Yu x c ds vs w
 | _,_,_=>[]
theorem wgx{i:Nat}{b x c:Bool}(hr:fy Df n e a)(pf:x=c)(h:o.guard.map (λg=>(g.2,((ops[g.1]?).bind (·.dst)).map λt=>(Nat.blt t n,e t)))=some (b,some (true,.bool x))):Region.wanted o (yielded ops a.tmps)=(c==b):=by
 subst pf
 cases hg:o.guard with
 | none=>rw[hg]at h;cases h
 | some g =>
  obtain⟨i,b'⟩:=g
  simp only[hg,afG,Option.some.injEq,Prod.mk.injEq]at h
  obtain⟨rfl,h⟩:=h
  cases ht:(ops[i]?).bind (·.dst)with
  | none=>rw[ht]at h;cases h
  | some t =>
   simp only[ht,afG,Option.some.injEq,Prod.mk.injEq]at h
   exact wg hr hg ht h.1 h.2
theorem onl{x c:Bool}(pf:x=c):∀(ds:List Nat) (vs:List Value) {os:List Oper} {a:Act} {l:List (Nat×Value)} (hr:fy Df n (lk l j) a) (k:∀a,fy Df n (lk (aay ds vs l) j) a->wpList P ops Q (os.drop ds.length) a w)
 (hl:ds.length=vs.length/\ds.all (λd=>Nat.blt d n)=true:=by exact⟨rfl,rfl⟩) (hrun:aaA P ops n (os.take ds.length) vs l j w=Yu x c ds vs w:=by kernel_rfl),wpList P ops Q os a w
 | [],[],os,a,l,hr,k,_,_=>k a hr
 | [],v::vs,os,a,l,hr,k,hl,_=>by simp at hl
 | d::ds,[],os,a,l,hr,k,hl,_=>by simp at hl
 | d::ds,v::vs,[],a,l,hr,k,hl,hrun=>by simp[aaA,Yu]at hrun
 | d::ds,v::vs,o::os,a,l,hr,k,hl,hrun=>by
  simp only[af2,aej,aaA,Yu,List.cons.injEq,Prod.mk.injEq]at hrun
  obtain⟨⟨h1,h2,h3⟩,h4⟩:=hrun
  obtain⟨I9,Dq⟩:=hl
  simp only[List.all_cons,aec]at Dq
  refine wh (by rw[wgx (i:=0) hr pf h2];simp) h1 Dq.1 hr h3 λa hr => ?_
  rw[h1]at h4
  exact onl pf ds vs hr k ⟨by simpa using I9,Dq.2⟩ h4
def XK(ops:Array Oper)(n:Nat):List Oper->List (Nat×Value)->(Nat->Value)->List (Option Nat×Option (Bool×Option (Bool×Value)))
 | o::os,l,j=>(o.dst,o.guard.map (λg=>(g.2,((ops[g.1]?).bind (·.dst)).map λt=>(Nat.blt t n,lk l j t))))::XK ops n os ((o.dst.getD 0,undef)::l) j
 | _,_,_=>[]
def UG(b:Bool)(gv:Value):List Nat->List (Option Nat×Option (Bool×Option (Bool×Value)))
 | d::ds=>(some d,some (b,some (true,gv)))::UG b gv ds
 | _=>[]
def aaB:List Nat->List (Nat×Value)->List (Nat×Value)
 | d::ds,l=>aaB ds ((d,undef)::l)
 | _,l=>l
theorem adb{x c:Bool}(pf:x=c):∀(ds:List Nat) {os:List Oper} {a:Act} {l:List (Nat×Value)} (hr:fy Df n (lk l j) a) (k:∀a,fy Df n (lk (aaB ds l) j) a->wpList P ops Q (os.drop ds.length) a w)
 (hl:ds.all (λd=>Nat.blt d n)=true:=by rfl) (hrun:XK ops n (os.take ds.length) l j=UG (!c) (.bool x) ds:=by kernel_rfl),wpList P ops Q os a w
 | [],os,a,l,hr,k,_,_=>k a hr
 | d::ds,[],a,l,hr,k,hl,hrun=>by simp[XK,UG]at hrun
 | d::ds,o::os,a,l,hr,k,hl,hrun=>by
  simp only[af2,aej,XK,UG,List.cons.injEq,Prod.mk.injEq]at hrun
  obtain⟨⟨h1,h2⟩,h4⟩:=hrun
  simp only[List.all_cons,aec]at hl
  refine Y7 (by rw[wgx (i:=0) hr pf h2];cases c<;>rfl) h1 hl.1 hr λa hr => ?_
  rw[h1]at h4
  exact adb pf ds hr k hl.2 h4
theorem wux{b:Bool}(hr:fy Df n e a)(h:o.guard.map (λg=>(g.2,((ops[g.1]?).bind (·.dst)).map λt=>(Nat.blt t n,e t)))=some (b,some (true,undef))):Region.wanted o (yielded ops a.tmps)=false:=by
 cases hg:o.guard with
 | none=>rw[hg]at h;cases h
 | some g =>
  obtain⟨i,b'⟩:=g
  simp only[hg,afG,Option.some.injEq,Prod.mk.injEq]at h
  obtain⟨rfl,h⟩:=h
  cases ht:(ops[i]?).bind (·.dst)with
  | none=>rw[ht]at h;cases h
  | some t =>
   simp only[ht,afG,Option.some.injEq,Prod.mk.injEq]at h
   exact aaw hr hg ht h.1 h.2
theorem ade(b:Bool):∀(ds:List Nat) {os:List Oper} {a:Act} {l:List (Nat×Value)} (hr:fy Df n (lk l j) a) (k:∀a,fy Df n (lk (aaB ds l) j) a->wpList P ops Q (os.drop ds.length) a w)
 (hl:ds.all (λd=>Nat.blt d n)=true:=by rfl) (hrun:XK ops n (os.take ds.length) l j=UG b undef ds:=by kernel_rfl),wpList P ops Q os a w
 | [],os,a,l,hr,k,_,_=>k a hr
 | d::ds,[],a,l,hr,k,hl,hrun=>by simp[XK,UG]at hrun
 | d::ds,o::os,a,l,hr,k,hl,hrun=>by
  simp only[af2,aej,XK,UG,List.cons.injEq,Prod.mk.injEq]at hrun
  obtain⟨⟨h1,h2⟩,h4⟩:=hrun
  simp only[List.all_cons,aec]at hl
  refine Y7 (wux hr h2) h1 hl.1 hr λa hr => ?_
  rw[h1]at h4
  exact ade b ds hr k hl.2 h4
theorem st1{x y:Operand}{b:Nat}{cs:Array Value}{T':TypeId}(hw:Region.wanted o (yielded ops a.tmps)=true)(hr:fy Df n (lk l j) a)(hF:Fit w0 (cQ (pts b (.cells cs T')::L)) w)(i:Nat)(v:Value)(A:M5)
 (k:∀w1,Fit w0 (cQ (A::L)) w1->wpList P ops Q rest a w1) (hd:o.dst=none:=by rfl) (ho:o.op= .store T x y:=by rfl) (hx:po (lk l j) x= .pointer (some ⟨b,i,none⟩):=by kernel_rfl) (hy:po (lk l j) y=v:=by kernel_rfl)
 (hv:v.cells=#[v]:=by rfl) (h1:v.oneCell'=true:=by rfl) (hs:(P.info? T).map (·.size)=some 1:=by kernel_rfl) (hc:(cs[i]?).isSome=true:=by kernel_rfl) (hA:pts b (.cells (cs.setIfInBounds i v) T')=A:=by kernel_rfl):wpList P ops Q (o::rest) a w:=by
 subst hA
 cases hu:cs[i]? with
 | none=>rw[hu]at hc;cases hc
 | some u=>exact aav hw hd hr ho hx hy hv h1 hs hF hu k
theorem stm{x y:Operand}{b:Nat}{cs:Array Value}{T':TypeId}(hw:Region.wanted o (yielded ops a.tmps)=true)(hr:fy Df n (lk l j) a)(hF:Fit w0 (cQ (pts b (.cells cs T')::L)) w)(i:Nat)(vs:List Value)(A:M5)
 (k:∀w1,Fit w0 (cQ (A::L)) w1->wpList P ops Q rest a w1) (hd:o.dst=none:=by rfl) (ho:o.op= .store T x y:=by rfl) (hx:po (lk l j) x= .pointer (some ⟨b,i,none⟩):=by kernel_rfl) (hy:po (lk l j) y= .agg vs.toArray:=by kernel_rfl)
 (h1:vs.all (·.oneCell')=true:=by rfl) (hfit:Nat.ble (i+vs.length) cs.size=true:=by rfl) (hs:(P.info? T).map (·.size)=some vs.length:=by kernel_rfl) (hA:pts b (.cells (cs.toList.take i++vs++cs.toList.drop (i+vs.length)).toArray T')=A:=by kernel_rfl):wpList P ops Q (o::rest) a w:=by
 subst hA;exact Xr hw hd hr ho hx hy h1 hfit hs hF rfl k
end
end GX
end
section
namespace GX
open Go Go.RowKit SL
section
variable {P:Program}{w w0 w1 z:World}{ops:Array Oper}{a:Act}{rest:List Oper}{e:Nat->Value}{o:Oper}{t E:TypeId}{n d cc sz vh:Nat}{α β:Type}{l:List (Nat×Value)}{j:Nat->Value}{Df:List Deferred}{L:List M5}
def wC(L:List M5)(sz vh:Nat)(enc:Option Addr->Nat->α->List Value)(lP:β->List Value)(vi:α->List β)(va:Option Addr)(hs:Nat->Option Addr×Nat)(l:List α):Prop:=
 ∀i x,l[i]? = some x->va=some ⟨Cp va,sJ va,none⟩/\(∀f u,(enc (hs i).1 (hs i).2 x)[f]? = some u->∀z w,Fit z (cQ L) w->w.cell? ⟨Cp va,sJ va+i*sz+f,none⟩=some u)/\jJ L vh lP (hs i).1 (vi x)
section
variable {enc:Option Addr->Nat->α->List Value}{lP:β->List Value}{vi:α->List β}{va:Option Addr}{hs:Nat->Option Addr×Nat}{l:List α}
theorem wC.nil{L:List M5}:wC L sz vh enc lP vi va hs ([]:List α):=λi x h=>by simp at h
theorem wC.up(k:Nat){L':List M5}(h:wC (L'.drop k) sz vh enc lP vi va hs l):wC L' sz vh enc lP vi va hs l:=
 λi x hx=>⟨(h i x hx).1,λf u hu z w hw=>(h i x hx).2.1 f u hu z w (hw.dn k),(h i x hx).2.2.up k⟩
theorem wC.take{L:List M5}(h:wC L sz vh enc lP vi va hs l)(k:Nat):wC L sz vh enc lP vi va hs (l.take k):=by
 intro i x hx
 refine h i x ?_
 rw[List.getElem?_take]at hx
 split at hx
 ·exact hx
 ·cases hx
theorem wC.cell{z:World}{L:List M5}[Inhabited α]{i:Int}(hF:wC L sz vh enc lP vi va hs l)(hi:aZ i l.length)(h:Fit z (cQ L) w)(f:Nat){u:Value}(hu:(enc (hs i.toNat).1 (hs i.toNat).2 (ag l i.toNat))[f]? = some u):w.cell? ⟨Cp va,sJ va+i.toNat*sz+f,none⟩=some u:=
 (hF _ _ (zN hi)).2.1 f u hu z w h
theorem wC.Rj{L:List M5}[Inhabited α]{i:Int}(hF:wC L sz vh enc lP vi va hs l)(hi:aZ i l.length):jJ L vh lP (hs i.toNat).1 (vi (ag l i.toNat)):=(hF _ _ (zN hi)).2.2
theorem wC.cast{L:List M5}{l2:List α}(h:wC L sz vh enc lP vi va hs l)(e:l=l2):wC L sz vh enc lP vi va hs l2:=e▸ h
theorem wC.ne{L:List M5}(hF:wC L sz vh enc lP vi va hs l)(h:0<l.length):va=some ⟨Cp va,sJ va,none⟩:=(hF 0 _ (List.getElem?_eq_getElem h)).1
end
theorem jJ.ne{L:List M5}{enc:α->List Value}{va:Option Addr}{l:List α}(hF:jJ L sz enc va l)(h:0<l.length):va=some ⟨Cp va,sJ va,none⟩:=(hF 0 _ (List.getElem?_eq_getElem h)).1
theorem jJ.Wc{z:World}{L:List M5}{enc:α->List Value}{b:Nat}[Inhabited α]{l:List α}{i:Int}(hF:jJ L sz enc (some ⟨b,0,none⟩) l)(hi:aZ i l.length)(h:Fit z (cQ L) w)(f:Nat){u:Value}(hu:(enc (ag l i.toNat))[f]? = some u):w.cell? ⟨Cp (some ⟨b,0,none⟩),i.toNat*sz+f,none⟩=some u:=by
 have e:=(hF _ _ (zN hi)).2 f u hu z w h
 have o:sJ (some ⟨b,0,none⟩:Option Addr)=0:=rfl
 rw[o,af3]at e
 exact e
theorem SA{x y:Operand}{k:IntKind}{i:Int}{n0:Nat}{L:List M5}{enc:Option Addr->Nat->α->List Value}{lP:β->List Value}{vi:α->List β}{va:Option Addr}{hs:Nat->Option Addr×Nat}[Inhabited α]{l:List α}(ho:o.op= .indexAddr t x y)(hx:po e x= .slice va n0 cc)(hy:po e y= .int k i)(JA:n0=l.length)
 (ht:P.underlying t=some (.slice E)) (hs':(P.info? E).map (·.size)=some sz) (hF:wC L sz vh enc lP vi va hs l) (hi:aZ i l.length):(execOp (po e) o).run P w= .ok (.value (.pointer (some ⟨Cp va,sJ va+i.toNat*sz,none⟩))) w:=by
 have h0:=hi.1;have h1:=hi.2
 exact rie (hF _ _ (zN hi)).1 ho hx hy ht hs' h0 (by omega)
theorem Xt(d:Nat){T:TypeId}(b:Addr)(m c n' c':Nat)(h:P.underlying T=some (.slice E)):(Op.equalIn (d+1) T (.slice (some b) m c) (.slice none n' c')).run P w= .ok false w:=by
 simp[Op.equalIn,run_underlying h]
theorem abB{x y:Operand}{T T':TypeId}{n0:Nat}{va:Option Addr}(ho:o.op= .binOp .eql T x y T')(hx:po e x= .slice va n0 cc)(hy:po e y= .slice none 0 0)(ht:P.underlying T=some (.slice E))(hv:va=some ⟨Cp va,sJ va,none⟩):(execOp (po e) o).run P w= .ok (.value (.bool false)) w:=by
 rw[hv]at hx
 have h:=Xt (P:=P) (w:=w) 9999 ⟨Cp va,sJ va,none⟩ n0 cc 0 0 ht
 unfold execOp
 simp only[ho,hx,hy,eqGuard,binOp,Op.equal,Op.maxDepth]
 simp[h]
theorem aaC{x y:Operand}{T T':TypeId}{n0:Nat}{va:Option Addr}(ho:o.op= .binOp .neq T x y T')(hx:po e x= .slice va n0 cc)(hy:po e y= .slice none 0 0)(ht:P.underlying T=some (.slice E))(hv:va=some ⟨Cp va,sJ va,none⟩):(execOp (po e) o).run P w= .ok (.value (.bool true)) w:=by
 rw[hv]at hx
 have h:=Xt (P:=P) (w:=w) 9999 ⟨Cp va,sJ va,none⟩ n0 cc 0 0 ht
 unfold execOp
 simp only[ho,hx,hy,eqGuard,binOp,Op.equal,Op.maxDepth]
 simp[h]
def eK(x y:Int):Int:=IntKind.i64.wrap ((BitVec.ofInt 64 x &&& BitVec.ofInt 64 y).toNat)
def FF(x y:Int):Int:=IntKind.i64.wrap ((BitVec.ofInt 64 x ||| BitVec.ofInt 64 y).toNat)
theorem rand{x y:Operand}{p q:Int}{T T':TypeId}(ho:o.op= .binOp .and T x y T')(hx:po e x= .int .i64 p)(hy:po e y= .int .i64 q):(execOp (po e) o).run P w= .ok (.value (.int .i64 (eK p q))) w:=by
 unfold execOp
 simp[ho,hx,hy,eqGuard,binOp,Op.intBits];rfl
theorem ror{x y:Operand}{p q:Int}{T T':TypeId}(ho:o.op= .binOp .or T x y T')(hx:po e x= .int .i64 p)(hy:po e y= .int .i64 q):(execOp (po e) o).run P w= .ok (.value (.int .i64 (FF p q))) w:=by
 unfold execOp
 simp[ho,hx,hy,eqGuard,binOp,Op.intBits];rfl
theorem Fit.acd{Q:M5}(hz:∀{z w:World} {L:List M5},Fit z (cQ L) w->Fit z (cQ (Q::L)) w){L:List M5}(h:Fit w0 (cQ L) w):∀n,Fit w0 (cQ (List.replicate n Q++L)) w
 | 0=>h
 | n+1=>by rw[List.replicate_succ];exact hz (Fit.acd hz h n)
theorem _root_.Go.Proofs.YtpikpffbcjpmcaaGreatDoor.SL.Fit.aac{own:α->List Value->M5}{v:Value}{z0:α}{c:I8 sz}{L:List M5}(hz:∀{z w:World} {L:List M5},Fit z (cQ L) w->Fit z (cQ (own z0 c.cs::L)) w)(n:Nat)(h:Fit w0 (cQ (rowOf E sz I8.cs v (List.replicate n c)::L)) w):Fit w0 (cQ (Qw E sz own v (List.replicate n z0)::L)) w:=by
 refine Fit.TT (css:=List.replicate n c) (by simp) ?_
 have e:List.zipWith (λx c=>own x c.cs) (List.replicate n z0) (List.replicate n c)=List.replicate n (own z0 c.cs):=by simp[List.zipWith_replicate']
 rw[e]
 exact(Fit.acd hz h n).perm afN
variable {Q:Exit->Act->World->Prop}
theorem UH{x y:Operand}{i:Int}{bytes:Nat}{zc:Array Value}{own:α->List Value->M5}(z0:α)(hw:Region.wanted o (yielded ops a.tmps)=true)(hd:o.dst=some d)(hn:Nat.blt d n=true)(hr:fy Df n (lk l j) a)
 (ho:o.op= .makeSlice t x y) (hx:po (lk l j) x= .int .i64 i) (hy:po (lk l j) y= .int .i64 i) (hi:0<=i/\i*bytes<=140737488355328) (hlen:zc.toList.length=sz) (hone:∀u∈zc.toList,u.oneCell'=true) (hsz:0<sz) (hty:P.underlying t=some (.slice E))
 (Qe:(P.info? E).map (λi=>(i.size,i.bytes,i.zero.map (·.cells)))=some (sz,bytes,some zc)) (YZ:Nat.blt 0 bytes=true) (hz:∀{z w:World} {L:List M5},Fit z (cQ L) w->Fit z (cQ (own z0 zc.toList::L)) w) (hF:Fit w0 (cQ L) w)
 (k:∀ca w1 a,Fit w0 (cQ (Qw E sz own (.slice ca (List.replicate i.toNat z0).length i.toNat) (List.replicate i.toNat z0)::L)) w1->fy Df n (lk ((d,.slice ca (List.replicate i.toNat z0).length i.toNat)::l) j) a->wpList P ops Q rest a w1):wpList P ops Q (o::rest) a w:=
 PS (⟨zc.toList,hlen,hone⟩:I8 sz) hw hd hn hr ho hx hy hi (V0 hsz) hty Qe rfl YZ hF λca w1 a h Xq=>by
  have e:(List.replicate i.toNat (⟨zc.toList,hlen,hone⟩:I8 sz)).length=(List.replicate i.toNat z0).length:=by simp
  rw[e]at h Xq
  exact k ca w1 a (h.aac hz) Xq
theorem Us{β:Type}(F vs:List β)(a s f:Nat)(hf:f+vs.length<=s)(hs:a+s<=F.length) :
 F.take a++(((F.drop a).take s).take f++vs++((F.drop a).take s).drop (f+vs.length))++F.drop (a+s)=F.take (a+f)++vs++F.drop (a+f+vs.length):=by
 have e1:F.take a++((F.drop a).take s).take f=F.take (a+f):=by
  rw[List.take_take,afX (by omega),List.take_add]
 have e2:((F.drop a).take s).drop (f+vs.length)++F.drop (a+s)=F.drop (a+f+vs.length):=by
  have h:=agt s (F.drop a)
  rw[List.drop_drop]at h
  have h2:=afr (List.drop (f+vs.length)) h
  rw[agy (by rw[afA,af4];omega),List.drop_drop]at h2
  rw[h2];congr 1;omega
 rw[<-e1,<-e2]
 simp only[aeA]
theorem Ol{x y:Operand}{vs:List Value}{f:Nat}{α:Type}{sz n0 cc:Nat}{enc:α->List Value}{xs:List α}{ca:Option Addr}(hw:Region.wanted o (yielded ops a.tmps)=true)(hd:o.dst=none)(hr:fy Df n (lk l j) a)(ho:o.op= .store t x y)
 {i:Nat} (hx:po (lk l j) x= .pointer (some ⟨Cp ca,i*sz+f,none⟩)) (hy:po (lk l j) y= .agg vs.toArray) (h1:vs.all (·.oneCell')=true) (hs:(P.info? t).map (·.size)=some vs.length)
 (he:QB enc sz) (hF:Fit w0 (cQ (rowOf E sz enc (.slice ca n0 cc) xs::L)) w) {p q:α} (hp:xs[i]? = some p) (hfit:f+vs.length<=sz) (hq:enc q=(enc p).take f++vs++(enc p).drop (f+vs.length))
 (k:∀w1,Fit w0 (cQ (rowOf E sz enc (.slice ca n0 cc) (xs.set i q)::L)) w1->wpList P ops Q rest a w1):wpList P ops Q (o::rest) a w:=by
 have hi:i<xs.length:=(List.getElem?_eq_some_iff.1 hp).1
 have hn:=hF.N4
 obtain⟨hca,Ui⟩:=hF.Qq (by omega)
 obtain⟨I9,Dq⟩:=Ui.R7
 obtain⟨cur,Jp,HC,hP⟩:=Ui.P7
 have hle:i*sz+sz<=xs.length*sz:=by
  have:(i+1)*sz<=xs.length*sz:=afm _ hi
  rw[afz]at this
  omega
 have acm:xs.length*sz<=cc*sz:=afm _ I9
 have hst:=run_storeCells_at P (Cp ca) (i*sz+f) E vs 0 cur w hP.block (by omega) (by simpa using h1)
 simp only[agj]at hst
 refine UD (w1:=w.setRow (Cp ca) (cur.toList.take (i*sz+f)++vs++cur.toList.drop (i*sz+f+vs.length)).toArray) hw hd hr ?_ (k _ (Fit.Sx ?_ hca (by rw[acG];exact hn)))
 ·unfold execOp
  cases RG:P.info? t with
  | none=>simp[RG]at hs
  | some q =>
   simp[RG]at hs
   simp only[ho,hx,hy,Instr.storeAt,Instr.sureAddr,storeVar,aee,afu,aef,sizeOf,typeInfo,run_program,RG,Value.cells]
   simp[hs,hst]
 ·refine(hP.turn (w':=w.setRow (Cp ca) (cur.toList.take (i*sz+f)++vs++cur.toList.drop (i*sz+f+vs.length)).toArray) (setRow_heap w (Cp ca) cur _ E (0,0) hP.block) (λk hk _=>setRow_other w (Cp ca) k _ hk) rfl rfl rfl (by simp)).head λz hz=>⟨by simpa using I9,Dq,_,?_,?_,hz⟩
  ·simp only[af9,ad9,afA,af4,afB]
   omega
  ·have JB:((xs.flatMap enc).drop (i*sz)).take sz=enc p:=by
    apply afS
    intro k
    rw[List.getElem?_take]
    by_cases hk:k<sz
    ·rw[au hk,List.getElem?_drop]
     exact he.get xs i k p hp hk
    ·rw[aj hk,List.getElem?_eq_none (by rw[he.len];omega)]
   rw[acG,he.set xs i q hi,hq,<-JB,Us _ _ _ _ _ hfit (by rw[he.flat];exact hle),<-HC]
   have hA:(cur.toList.take (i*sz+f)).length=i*sz+f:=by rw[afA,afB];omega
   have e1:(cur.toList.take (i*sz+f)++vs++cur.toList.drop (i*sz+f+vs.length)).take (xs.length*sz)=cur.toList.take (i*sz+f)++vs++(cur.toList.drop (i*sz+f+vs.length)).take (xs.length*sz-(i*sz+f+vs.length)):=by
    rw[agz,agh (by rw[ad9,hA];omega),ad9,hA]
   rw[agA,e1,List.take_take,afX (by omega),agB]
structure wD(l:List Value)(n:Nat):Prop where
 len:l.length=n
 one:∀u∈l,u.oneCell'=true
theorem wD.lit{l:List Value}(n:Nat)(h:(Nat.beq l.length n&&l.all (·.oneCell'))=true):wD l n:=by
 simp only[aec,List.all_eq_true]at h
 exact⟨agM h.1,h.2⟩
theorem wD.app{a b:List Value}{m n:Nat}(h:wD a m)(k:wD b n):wD (a++b) (m+n):=
 ⟨by rw[ad9,h.len,k.len],λu hu=>(List.mem_append.1 hu).elim (h.one u) (k.one u)⟩
theorem _root_.Go.Proofs.YtpikpffbcjpmcaaGreatDoor.SL.QB.p{enc:α->List Value}(he:QB enc sz)(x:α):wD (enc x) sz:=⟨he.len x,he.one x⟩
theorem wD.enc{enc:α->List Value}{N:Nat}(h:∀x,wD (enc x) N)(hp:0<N)(e:N=sz):QB enc sz:=by
 subst e;exact⟨λx=>(h x).len,λx=>(h x).one,hp⟩
def O8[Inhabited α](N:Nat)(enc:α->List Value)(l:List α):List Value:=(List.range N).flatMap (λi=>enc (ag l i))
theorem V2[Inhabited α](N:Nat){enc:α->List Value}(he:QB enc sz)(l:List α):wD (O8 N enc l) (N*sz):=by
 unfold O8
 refine⟨?_,λu hu => ?_⟩
 ·have e:(List.range N).flatMap (λi=>enc (ag l i))=((List.range N).map (λi=>ag l i)).flatMap enc:=by rw[List.flatMap_map]
  rw[e,he.flat];simp
 ·obtain⟨i,_,hi⟩:=List.mem_flatMap.1 hu
  exact he.one _ u hi
theorem Wd{b:Nat}:∀(xs:List Value) (off:Nat),(∀k u,xs[k]? = some u->w.cell? ⟨b,off+k,none⟩=some u)->lI w b off xs
 | [],_,_=>trivial
 | x::xs,off,h=>⟨by simpa using h 0 x rfl,Wd xs (off+1) λk u hu=>by have:=h (k+1) u (by simpa using hu);rw[show off+1+k=off+(k+1) by omega];exact this⟩
theorem _root_.Go.Proofs.YtpikpffbcjpmcaaGreatDoor.SL.Fit.MX{L:List M5}{enc:α->List Value}{ca:Option Addr}{n i f:Nat}{l:List α}{x:α}{xs:List Value}(h:Fit w0 (cQ (rowOf E sz enc (.slice ca n cc) l::L)) w)(he:QB enc sz)(hx:l[i]? = some x)(hxs:((enc x).drop f).take xs.length=xs):lI w (Cp ca) (i*sz+f) xs:=by
 refine Wd xs _ λk u hu => ?_
 rw[<-hxs,List.getElem?_take]at hu
 split at hu
 ·rw[List.getElem?_drop]at hu
  rw[show i*sz+f+k=i*sz+(f+k) by omega]
  exact h.Ng he hx hu
 ·cases hu
def vj[Inhabited α](N:Nat)(ys l:List α):List α:=(List.range N).map (λi=>if i<ys.length then ag ys i else ag l i)
def kI[Inhabited α](N:Nat)(l:List α)(k:Nat)(y:α):List α:=(List.range N).map (λi=>if i=k then y else ag l i)
theorem aaD[Inhabited α]{l:List α}{i:Nat}(h:i<l.length):ag l i=l[i]:=by
 have:=get_at h
 rw[List.getElem?_eq_getElem h]at this
 exact(Option.some.inj this).symm
theorem ace[Inhabited α]{N i:Nat}(f:Nat->α)(h:i<N):ag ((List.range N).map f) i=f i:=by
 rw[aaD (by simpa using h)]
 simp
theorem TW[Inhabited α](N:Nat)(enc:α->List Value)(l:List α):O8 N enc l=((List.range N).map (λi=>ag l i)).flatMap enc:=by unfold O8;rw[List.flatMap_map]
theorem XL[Inhabited α]{N:Nat}{enc:α->List Value}(he:QB enc sz){ys l:List α}(h:ys.length<=N):O8 N enc (vj N ys l)=ys.flatMap enc++(O8 N enc l).drop (ys.length*sz):=by
 have e1:(List.range N).map (λi=>ag (vj N ys l) i)=ys++((List.range N).map (λi=>ag l i)).drop ys.length:=by
  apply agI
  ·simp;omega
  ·intro i h1 h2
   have hi:i<N:=by simpa using h1
   simp only[List.getElem_map,List.getElem_range]
   unfold vj
   rw[ace _ hi,List.getElem_append]
   by_cases c:i<ys.length
   ·rw[au c,dif_pos c,aaD c]
   ·rw[aj c,dif_neg c]
    simp only[List.getElem_drop,List.getElem_map,List.getElem_range]
    congr 1;omega
 have e2:∀(m:List α) (k:Nat),(m.drop k).flatMap enc=(m.flatMap enc).drop (k*sz):=by
  intro m k
  by_cases hk:k<=m.length
  ·have e:(m.take k).flatMap enc++(m.drop k).flatMap enc=m.flatMap enc:=by rw[<-age,agt]
   have hl:((m.take k).flatMap enc).length=k*sz:=by rw[he.flat,afA,afX hk]
   rw[<-e,<-hl,List.drop_left]
  ·rw[agN (by omega),agN (by rw[he.flat];exact afm _ (by omega))];rfl
 rw[TW,e1,age,e2,<-TW]
theorem aaE[Inhabited α]{N k:Nat}{enc:α->List Value}(he:QB enc sz){l:List α}{y:α}(h:k<N):O8 N enc (kI N l k y)=(O8 N enc l).take (k*sz)++enc y++(O8 N enc l).drop (k*sz+sz):=by
 have e1:(List.range N).map (λi=>ag (kI N l k y) i)=((List.range N).map (λi=>ag l i)).set k y:=by
  apply agI
  ·simp
  ·intro i h1 h2
   have hi:i<N:=by simpa using h1
   simp only[List.getElem_map,List.getElem_range]
   unfold kI
   rw[ace _ hi,List.getElem_set]
   by_cases c:i=k
   ·rw[au c,au c.symm]
   ·rw[aj c,aj (λe=>c e.symm)]
    simp
 rw[TW,e1,he.set _ _ _ (by simpa using h),<-TW]
theorem aaF{A E ys:List Value}{f k:Nat}(hA:A.length=f):A++(ys++E.drop k)=(A++E).take f++ys++(A++E).drop (f+k):=by
 subst hA
 rw[agi,aeA,List.drop_append]
 simp
theorem We{s x:Operand}{α β:Type}{sz vh n0 cc i f N cv:Nat}{enc:α->List Value}{lP:β->List Value}{xs:List α}{ca va:Option Addr}{ys:List β}{E I:TypeId}{p q:α}(hw:Region.wanted o (yielded ops a.tmps)=true)(hd:o.dst=some d)(hn:Nat.blt d n=true)(hr:fy Df n (lk l j) a)
 (ho:o.op= .call {callee:=.builtin .copy,args:=#[s,x],argTypes:=#[t,t]}) (hs:po (lk l j) s= .slice (some ⟨Cp ca,i*sz+f,none⟩) N N) (hx:po (lk l j) x= .slice va ys.length cv)
 (he:QB enc sz) (hi:QB lP vh) (hty:P.underlying t=some (.slice I)) (hsz:(P.info? I).map (·.size)=some vh) (hlen:ys.length<=N)
 (hF:Fit w0 (cQ (rowOf E sz enc (.slice ca n0 cc) xs::L)) w) (hv:jJ L vh lP va ys) (hp:xs[i]? = some p) (hfit:f+ys.length*vh<=sz) (hq:enc q=(enc p).take f++ys.flatMap lP++(enc p).drop (f+ys.length*vh))
 (k:∀w1 a,Fit w0 (cQ (rowOf E sz enc (.slice ca n0 cc) (xs.set i q)::L)) w1->fy Df n (lk ((d,.int .i64 ((ys.length:Nat):Int))::l) j) a->wpList P ops Q rest a w1):wpList P ops Q (o::rest) a w:=by
 have J7:i<xs.length:=(List.getElem?_eq_some_iff.1 hp).1
 have hn':=hF.N4
 obtain⟨hca,Ui⟩:=hF.Qq (by omega)
 obtain⟨I9,Dq⟩:=Ui.R7
 obtain⟨cur,Jp,HC,hP⟩:=Ui.P7
 have hle:i*sz+sz<=xs.length*sz:=by
  have:(i+1)*sz<=xs.length*sz:=afm _ J7
  rw[afz]at this
  omega
 have acm:xs.length*sz<=cc*sz:=afm _ I9
 have hfl:(ys.flatMap lP).length=ys.length*vh:=hi.flat ys
 have hmin:Nat.min ys.length N=ys.length:=afX hlen
 have hcells:(Builtin.firstCells vh ys.length (.slice va ys.length cv)).run P w= .ok (ys.flatMap lP).toArray w:=by
  rcases Nat.eq_zero_or_pos ys.length with h0 | h0
  ·have e:ys=[]:=agr h0
   subst e
   cases va with
   | none=>exact run_firstCells_none (P:=P) w vh _ _ _
   | some ad=>exact run_firstCells_some (P:=P) w vh 0 _ _ _ [] (by simp) (by simp)
  ·have hva:=hv.ne h0
   rw[hva]
   refine run_firstCells_some (P:=P) w vh ys.length _ _ _ (ys.flatMap lP) hfl ?_
   intro jj u hu
   have hj:jj<ys.length*vh:=by rw[<-hfl];exact(List.getElem?_eq_some_iff.1 hu).1
   have hpos:0<vh:=hi.pos
   have h1:jj/vh<ys.length:=Nat.div_lt_of_lt_mul (by rw[Nat.mul_comm];exact hj)
   have h2:jj%vh<vh:=Nat.mod_lt _ hpos
   have h3:jj/vh*vh+jj%vh=jj:=by rw[Nat.mul_comm];exact Nat.div_add_mod jj vh
   have h4:=hi.get ys (jj/vh) (jj%vh) ys[jj/vh] (List.getElem?_eq_getElem h1) h2
   rw[h3,hu]at h4
   have h5:=(hv _ _ (List.getElem?_eq_getElem h1)).2 _ _ h4.symm _ _ hF.drop
   rw[afL,show sJ va+jj=sJ va+jj/vh*vh+jj%vh by omega]
   exact h5
 have hst:=run_storeCells_at P (Cp ca) (i*sz+f) E (ys.flatMap lP) 0 cur w hP.block (by rw[hfl];omega) (hi.Sv ys)
 simp only[agj]at hst
 refine Qg (w1:=w.setRow (Cp ca) (cur.toList.take (i*sz+f)++ys.flatMap lP++cur.toList.drop (i*sz+f+(ys.flatMap lP).length)).toArray) (v:=.int .i64 ((ys.length:Nat):Int)) hw hd hn hr ?_ (λa hr=>k _ a (Fit.Sx ?_ hca (by rw[acG];exact hn')) hr)
 ·unfold execOp
  cases RG:P.info? I with
  | none=>simp[RG]at hsz
  | some q =>
   simp[RG]at hsz
   simp only[ho,resolve,invoke,builtin,aee,afu,aef,agk,afZ,af5,hs,hx]
   simp[Builtin.copy_,run_underlying hty,Builtin.lenOf,sizeOf,typeInfo,RG,hsz,hmin,hcells,hst,goInt]
 ·refine(hP.turn (w':=w.setRow (Cp ca) (cur.toList.take (i*sz+f)++ys.flatMap lP++cur.toList.drop (i*sz+f+(ys.flatMap lP).length)).toArray) (setRow_heap w (Cp ca) cur _ E (0,0) hP.block) (λk hk _=>setRow_other w (Cp ca) k _ hk) rfl rfl rfl (by simp)).head λz hz=>⟨by simpa using I9,Dq,_,?_,?_,hz⟩
  ·simp only[af9,ad9,afA,af4,afB]
   omega
  ·have JB:((xs.flatMap enc).drop (i*sz)).take sz=enc p:=by
    apply afS
    intro k
    rw[List.getElem?_take]
    by_cases hk:k<sz
    ·rw[au hk,List.getElem?_drop]
     exact he.get xs i k p hp hk
    ·rw[aj hk,List.getElem?_eq_none (by rw[he.len];omega)]
   rw[<-hfl]at hq hfit
   generalize ys.flatMap lP=vs at hq hfit hst⊢
   rw[acG,he.set xs i q J7,hq,<-JB,Us _ _ _ _ _ hfit (by rw[he.flat];exact hle),<-HC]
   have hA:(cur.toList.take (i*sz+f)).length=i*sz+f:=by rw[afA,afB];omega
   have e1:(cur.toList.take (i*sz+f)++vs++cur.toList.drop (i*sz+f+vs.length)).take (xs.length*sz)=cur.toList.take (i*sz+f)++vs++(cur.toList.drop (i*sz+f+vs.length)).take (xs.length*sz-(i*sz+f+vs.length)):=by
    rw[agz,agh (by rw[ad9,hA];omega),ad9,hA]
   rw[agA,e1,List.take_take,afX (by omega),agB]
def Wf(cn:Option Addr->Nat->α->List Value)(I:TypeId)(vh:Nat)(lP:β->List Value)(vi:α->List β)(p:α×(Option Addr×Nat))(cs:List Value):M5:=
 cQ [Z7 (cs=cn p.2.1 p.2.2 p.1),rowOf I vh lP (.slice p.2.1 (vi p.1).length p.2.2) (vi p.1)]
section
variable {cn:Option Addr->Nat->α->List Value}{I:TypeId}{lP:β->List Value}{vi:α->List β}{own:α->List Value->M5}{v:Value}
theorem V3{p:α×(Option Addr×Nat)}{cs:List Value}{L:List M5}(h:Fit z (cQ (Wf cn I vh lP vi p cs::L)) w):cs=cn p.2.1 p.2.2 p.1/\Fit z (cQ (rowOf I vh lP (.slice p.2.1 (vi p.1).length p.2.2) (vi p.1)::L)) w:=by
 have h:=h.u9
 obtain⟨e,h⟩:=h.Su
 exact⟨e,h⟩
theorem abC{p:α×(Option Addr×Nat)}{L:List M5}(h:Fit z (cQ (rowOf I vh lP (.slice p.2.1 (vi p.1).length p.2.2) (vi p.1)::L)) w):Fit z (cQ (Wf cn I vh lP vi p (cn p.2.1 p.2.2 p.1)::L)) w:=by
 refine Fit.vb (Z7 (cn p.2.1 p.2.2 p.1=cn p.2.1 p.2.2 p.1)::[rowOf I vh lP (.slice p.2.1 (vi p.1).length p.2.2) (vi p.1)]) L ?_
 exact h.RF rfl
theorem ZL(hown:∀{z w:World} {L:List M5} {x:α} {cs:List Value},Fit z (cQ (own x cs::L)) w->∃(ca:Option Addr) (cc:Nat),cs=cn ca cc x/\Fit z (cQ (rowOf I vh lP (.slice ca (vi x).length cc) (vi x)::L)) w) :
 ∀(l:List α) (css:List (I8 sz)) (M:List M5),css.length=l.length->Fit z (cQ (List.zipWith (λx c=>own x c.cs) l css++M)) w->∃l':List (α×(Option Addr×Nat)),l'.map Prod.fst=l/\l'.length=css.length/\Fit z (cQ (List.zipWith (λx c=>Wf cn I vh lP vi x c.cs) l' css++M)) w
 | [],css,M,hl,h=>⟨[],rfl,by simpa using hl.symm,by simpa using h⟩
 | x::l,[],M,hl,h=>by simp at hl
 | x::l,c::css,M,hl,h=>by
  obtain⟨ca,cc,e,h⟩:=hown h
  have h:=abC (cn:=cn) (p:=(x,(ca,cc))) h
  rw[<-e]at h
  have h2:=h.perm (afN (l₁:=List.zipWith (λx c=>own x c.cs) l css) (a:=Wf cn I vh lP vi (x,(ca,cc)) c.cs) (l₂:=M)).symm
  obtain⟨l',e1,e2,h3⟩:=ZL (λh=>hown h) l css _ (by simpa using hl) h2
  exact⟨(x,(ca,cc))::l',by simp[e1],by simp[e2],h3.perm afN⟩
theorem Xu(hsh:∀{z w:World} {L:List M5} {x:α} {ca:Option Addr} {cc:Nat},Fit z (cQ (rowOf I vh lP (.slice ca (vi x).length cc) (vi x)::L)) w->Fit z (cQ (own x (cn ca cc x)::L)) w) :
 ∀(l':List (α×(Option Addr×Nat))) (css:List (I8 sz)) (M:List M5),css.length=l'.length->Fit z (cQ (List.zipWith (λx c=>Wf cn I vh lP vi x c.cs) l' css++M)) w->Fit z (cQ (List.zipWith (λx c=>own x c.cs) (l'.map Prod.fst) css++M)) w
 | [],css,M,hl,h=>by simpa using h
 | p::l,[],M,hl,h=>by simp at hl
 | p::l,c::css,M,hl,h=>by
  obtain⟨e,h⟩:=V3 h
  have h:=hsh h
  rw[<-e]at h
  have h2:=h.perm (afN (l₁:=List.zipWith (λx c=>Wf cn I vh lP vi x c.cs) l css) (a:=own p.1 c.cs) (l₂:=M)).symm
  have h3:=Xu (λh=>hsh h) l css _ (by simpa using hl) h2
  exact h3.perm afN
theorem aaG(hown:∀{z w:World} {L:List M5} {x:α} {cs:List Value},Fit z (cQ (own x cs::L)) w->∃(ca:Option Addr) (cc:Nat),cs=cn ca cc x/\Fit z (cQ (rowOf I vh lP (.slice ca (vi x).length cc) (vi x)::L)) w){l:List α}{L:List M5}
 (h:Fit z (cQ (Qw E sz own v l::L)) w) :∃l':List (α×(Option Addr×Nat)),l'.map Prod.fst=l/\Fit z (cQ (Qw E sz (Wf cn I vh lP vi) v l'::L)) w:=by
 obtain⟨css,hl,h⟩:=h.TS
 have h:=h.perm (afN (l₁:=List.zipWith (λx c=>own x c.cs) l css) (a:=rowOf E sz I8.cs v css) (l₂:=L)).symm
 obtain⟨l',e1,e2,h⟩:=ZL (own:=own) (cn:=cn) (λh=>hown h) l css _ hl h
 exact⟨l',e1,Fit.TT (css:=css) e2.symm (h.perm afN)⟩
theorem Zb(hsh:∀{z w:World} {L:List M5} {x:α} {ca:Option Addr} {cc:Nat},Fit z (cQ (rowOf I vh lP (.slice ca (vi x).length cc) (vi x)::L)) w->Fit z (cQ (own x (cn ca cc x)::L)) w){l':List (α×(Option Addr×Nat))}{L:List M5}
 (h:Fit z (cQ (Qw E sz (Wf cn I vh lP vi) v l'::L)) w) {l:List α} (e:l'.map Prod.fst=l):Fit z (cQ (Qw E sz own v l::L)) w:=by
 subst e
 obtain⟨css,hl,h⟩:=h.TS
 have h:=h.perm (afN (l₁:=List.zipWith (λx c=>Wf cn I vh lP vi x c.cs) l' css) (a:=rowOf E sz I8.cs v css) (l₂:=L)).symm
 have h:=Xu (own:=own) (λh=>hsh h) l' css _ hl h
 exact Fit.TT (css:=css) (by simpa using hl) (h.perm afN)
theorem wC.abD[Inhabited α]{l':List (α×(Option Addr×Nat))}{L' L'' L3:List M5}{ca:Option Addr}{n cc:Nat}(heI:QB lP vh)(hsz:0<sz)(h0:Fit z (cQ (Qw E sz (Wf cn I vh lP vi) (.slice ca n cc) l'::L'')) w)
 (f:∀{z w:World},Fit z (cQ L') w->Fit z (cQ (Qw E sz (Wf cn I vh lP vi) (.slice ca n cc) l'::L3)) w):wC L' sz vh cn lP vi ca (λi=>(ag l' i).2) (l'.map Prod.fst):=by
 intro i x hx
 rw[List.getElem?_map]at hx
 cases hp:l'[i]? with
 | none=>simp[hp]at hx
 | some p =>
  simp[hp]at hx
  subst hx
  have J7:i<l'.length:=(List.getElem?_eq_some_iff.1 hp).1
  have J6:ag l' i=p:=by
   have:=get_at J7
   rw[hp]at this
   exact(Option.some.inj this).symm
  have hca:=h0.Xs (by omega)
  have ho:sJ ca=0:=by rw[hca];rfl
  simp only[J6]
  refine⟨by rw[ho];exact hca,λg u hu z w hw => ?_,?_⟩
  ·rw[ho,af3]
   obtain⟨cs,h⟩:=(f hw).Pr hp
   obtain⟨e,_⟩:=V3 (h.pick 1)
   subst e
   exact h.P8 hsz hu
  ·intro k y hy
   have main:∀{z w:World},Fit z (cQ L') w->∃M,Fit z (cQ (rowOf I vh lP (.slice p.2.1 (vi p.1).length p.2.2) (vi p.1)::M)) w:=λhw=>by
    obtain⟨cs,h⟩:=(f hw).Pr hp
    obtain⟨_,h⟩:=V3 (h.pick 1)
    exact⟨_,h⟩
   have hkl:k<(vi p.1).length:=(List.getElem?_eq_some_iff.1 hy).1
   have h1 :∃M,Fit z (cQ (rowOf I vh lP (.slice p.2.1 (vi p.1).length p.2.2) (vi p.1)::M)) w:=by
    obtain⟨cs,h⟩:=h0.Pr hp
    obtain⟨_,h⟩:=V3 (h.pick 1)
    exact⟨_,h⟩
   obtain⟨M,h1⟩:=h1
   have hc:=(h1.Qq (by omega)).1
   have ho2:sJ p.2.1=0:=by rw[hc];rfl
   refine⟨by rw[ho2];exact hc,λg u hu z w hw => ?_⟩
   obtain⟨M,h2⟩:=main hw
   rw[ho2,af3]
   exact h2.Ng heI hy hu
end
end
end GX
end
section
namespace RK
open Go Go.RowKit Go.ChangeShapes Go.WideShapes Go.Deep SL GX
section
variable {H:Type}{nL:TypeId×Value->H}{P:Program}{W:World}{base:Nat}{spare:Nat->Bool}{held:Bool}{t e:TypeId}{n:Nat}{cs:List Value}{y:DataW H×List MemPlace}
theorem uf{l:List (DataW H)}{d:DataW H}(h:d∈l):Rows.uptoBulk d<=Rows.uptoBulkAll l:=pR h
theorem gi{fs:Array Field}(hs:P.underlying t=some (.struct fs))(h:DataW.trod nL P W base spare held n t cs=some y)(i:Nat){f:Field}(hf:fs[i]? = some f) :
 ∃m z,DataW.trod nL P W base spare held m f.type ((cs.drop f.offset).take (P.cellsOf f.type))=some z/\Rows.uptoBulk z.1<=Rows.uptoBulk y.1:=by
 obtain⟨xs,m,_,hx,_,hl,hg⟩:=DataW.trod_struct hs h
 have hi:i<fs.size:=(Array.getElem?_eq_some_iff.1 hf).1
 have hg:=hg i f hf
 rw[List.getElem?_eq_getElem (by omega)]at hg
 refine⟨m,_,hg,?_⟩
 rw[hx]
 simp only[Rows.uptoBulk]
 have:=uf (l:=xs.map (·.1)) (List.mem_map.2 ⟨_,List.getElem_mem (show i<xs.length by omega),rfl⟩)
 omega
theorem AV{fs:Array Field}(hs:P.underlying t=some (.struct fs))(h:DataW.trod nL P W base spare held n t cs=some y):cs.length=P.cellsOf t:=by
 obtain⟨xs,m,_,hx,hl,_⟩:=DataW.trod_struct hs h
 exact hl
theorem ju(ht:P.underlying t=some (.int .i64))(h:DataW.trod nL P W base spare held n t cs=some y) :∃x:Int,cs=[.int .i64 x]/\oI x:=by
 obtain⟨x,hx,_,hw⟩:=DataW.trod_int ht h
 exact⟨x,hx,wf_i64 hw⟩
theorem sK{α:Type}{Q:α->DataW H->Prop}{enc:α->List Value}{sz:Nat}(he:QB enc sz)(ht:P.underlying t=some (.slice e))(hC:P.cellsOf e=sz)
 (wE:∀n cs y,DataW.trod nL P W base spare held n e cs=some y->cs.length=sz->∃x:α,cs=enc x/\Q x y.1) (h:DataW.trod nL P W base spare held n t cs=some y) :
 ∃(va:Option Addr) (l:List α) (cap:Nat),cs=[.slice va l.length cap]/\jJ [old W] sz enc va l/\(∀x∈l,∃d,Q x d/\Rows.uptoBulk d<=Rows.uptoBulk y.1)/\l.length+1<=Rows.uptoBulk y.1/\l.length<=cap:=by
 rcases open_slice ht h with ⟨h0,_⟩ | ⟨a',len,cap,m,n,D,Pl,hcs,_,hl,hm,Dp,hx,hi⟩
 ·exact⟨none,[],0,h0,jJ.nil,λx h=>by simp at h,by simpa using ry y.1,by simp⟩
 ·have J3:len<=m:=by rw[Dp];split<;>omega
  rw[hC]at hi
  have hex:∀i,i<m->∃x:α,W.cells? base (a'.add (i*sz)) sz=some (enc x)/\Q x (D i):=λi J4=>by
   obtain⟨cs',h1,h2⟩:=hi i J4
   obtain⟨_,h3,_⟩:=World.cells?_some h1
   obtain⟨x,hx,hq⟩:=wE n cs' _ h2 h3
   exact⟨x,by rw[h1,hx],hq⟩
  have hlen:∀k,k<=m->∃l:List α,l.length=k/\∀i x,l[i]? = some x->W.cells? base (a'.add (i*sz)) sz=some (enc x)/\Q x (D i):=by
   intro k
   induction k with
   | zero=>intro _;exact⟨[],rfl,λi x h=>by simp at h⟩
   | succ k ih =>
    intro hk
    obtain⟨l,h1,h2⟩:=ih (by omega)
    obtain⟨x,hx⟩:=hex k (by omega)
    refine⟨l++[x],by simp[h1],λi y hy => ?_⟩
    by_cases J5:i<l.length
    ·rw[List.getElem?_append_left J5]at hy;exact h2 i y hy
    ·rw[List.getElem?_append_right (by omega)]at hy
     have FG:i=k:=by
      have:=(List.getElem?_eq_some_iff.1 hy).1
      simp at this;omega
     subst FG
     rw[h1,Nat.sub_self]at hy
     simp at hy;subst hy;exact hx
  obtain⟨l,I9,Dq⟩:=hlen len J3
  have hd:y.1= .slice ((List.range len).map D) ((List.range (m-len)).map λj=>D (len+j)):=afr Prod.fst hx
  refine⟨some a',l,cap,by rw[I9];exact hcs,λi x hx => ?_,λx hx => ?_,?_,by omega⟩
  ·have hc:=(Dq i x hx).1
   obtain⟨_,_,J6⟩:=World.cells?_some hc
   have hcell:∀f u,(enc x)[f]? = some u->W.cell? ((a'.add (i*sz)).add f)=some u:=λf u hu=>by
    have hf:f<sz:=by rw[<-he.len x];exact(List.getElem?_eq_some_iff.1 hu).1
    rw[J6 f hf,hu]
   have hsp:a'.spot=none:=by
    have hp:=he.pos
    have J7:i<l.length:=(List.getElem?_eq_some_iff.1 hx).1
    have hx0:l[0]? = some (l[0]'(by omega)):=List.getElem?_eq_getElem (by omega)
    obtain⟨_,_,GL⟩:=World.cells?_some (Dq 0 _ hx0).1
    have h0:0<(enc (l[0]'(by omega))).length:=by rw[he.len];exact hp
    have h1:W.cell? ((a'.add (0*sz)).add 0)=some _:=(GL 0 hp).trans (List.getElem?_eq_getElem h0)
    have h2:=World.cell?_spot h1
    rw[Nat.zero_mul,Addr.add,au rfl,Addr.add,au rfl]at h2
    exact h2
   obtain⟨ab,ao,LR⟩:=a'
   simp only at hsp
   subst hsp
   refine⟨rfl,λf u hu z w hw => ?_⟩
   refine hw.q7 ?_
   have:=hcell f u hu
   rw[afL,afL]at this
   exact this
  ·obtain⟨i,hi,rfl⟩:=List.getElem_of_mem hx
   obtain⟨_,hq⟩:=Dq i _ (List.getElem?_eq_getElem hi)
   refine⟨D i,hq,?_⟩
   rw[hd]
   simp only[Rows.uptoBulk]
   have:=uf (l:=(List.range len).map D) (List.mem_map.2 ⟨i,List.mem_range.2 (by omega),rfl⟩)
   omega
  ·rw[hd,I9]
   simp only[Rows.uptoBulk]
   have:=wA ((List.range len).map D)
   simp only[aga,List.length_range]at this
   omega
theorem qd(ht:P.underlying t=some (.slice e))(he:P.underlying e=some (.int .i64))(hC:P.cellsOf e=1)(h:DataW.trod nL P W base spare held n t cs=some y) :
 ∃(va:Option Addr) (l:List Int) (cap:Nat),cs=[.slice va l.length cap]/\jJ [old W] 1 oE va l/\(∀x∈l,oI x)/\l.length+1<=Rows.uptoBulk y.1/\l.length<=cap:=by
 obtain⟨va,l,cap,h1,h2,h3,h4,h5⟩:=sK (Q:=λx _=>oI x) rm ht hC (λn cs y h hl=>by
  obtain⟨x,hx,hi⟩:=ju he h
  exact⟨x,by rw[hx];rfl,hi⟩) h
 exact⟨va,l,cap,h1,h2,λx hx=>by obtain⟨_,h,_⟩:=h3 x hx;exact h,h4,h5⟩
theorem yA{α β:Type}{Q:α->DataW H->Prop}{enc:Option Addr->Nat->α->List Value}{lP:β->List Value}{vi:α->List β}{sz vh:Nat}(he:∀a c,QB (enc a c) sz)(ht:P.underlying t=some (.slice e))(hC:P.cellsOf e=sz)
 (wE:∀n cs y,DataW.trod nL P W base spare held n e cs=some y->cs.length=sz->∃(a:Option Addr) (c:Nat) (x:α),cs=enc a c x/\jJ [old W] vh lP a (vi x)/\Q x y.1) (h:DataW.trod nL P W base spare held n t cs=some y) :
 ∃(va:Option Addr) (hs:Nat->Option Addr×Nat) (l:List α) (cap:Nat),cs=[.slice va l.length cap]/\wC [old W] sz vh enc lP vi va hs l/\(∀x∈l,∃d,Q x d/\Rows.uptoBulk d<=Rows.uptoBulk y.1)/\l.length+1<=Rows.uptoBulk y.1/\l.length<=cap:=by
 obtain⟨va,l,cap,h1,h2,h3,h4,h5⟩:=sK (α:=(Option Addr×Nat)×α) (Q:=λp d=>jJ [old W] vh lP p.1.1 (vi p.2)/\Q p.2 d) (enc:=λp=>enc p.1.1 p.1.2 p.2)
  ⟨λp=>(he _ _).len _,λp u h=>(he _ _).one _ u h,(he none 0).pos⟩ ht hC (λn cs y h hl=>by
   obtain⟨a,c,x,e1,e2,e3⟩:=wE n cs y h hl
   exact⟨((a,c),x),e1,e2,e3⟩) h
 refine⟨va,λi=>(l[i]?.map (·.1)).getD (none,0),l.map (·.2),cap,by rw[aga];exact h1,λi x hx => ?_,λx hx => ?_,by rw[aga];exact h4,by rw[aga];exact h5⟩
 ·rw[List.getElem?_map]at hx
  cases hq:l[i]? with
  | none=>rw[hq]at hx;cases hx
  | some p =>
   rw[hq]at hx
   simp only[afG,Option.some.injEq]at hx
   subst hx
   obtain⟨a1,a2⟩:=h2 i p hq
   obtain⟨_,a3,_⟩:=h3 p (List.mem_of_getElem? hq)
   simp only[hq,afG,afk]
   exact⟨a1,a2,a3.1⟩
 ·obtain⟨p,hp,rfl⟩:=List.mem_map.1 hx
  obtain⟨d,a,b⟩:=h3 p hp
  exact⟨d,a.2,b⟩
end
theorem rz{P:Program}{W:World}{α:Type}{enc:α->List Value}{dE:α->DataW Unit}{sz:Nat}{name:String}{g:Nat}{t e:TypeId}{N:Nat}{l:List α}{rest:List (String×DataW Unit)}{ps:List MemPlace}(hsz:0<sz)
 (hg:P.globalNamed name=some g) (hty:(P.globals[g]?).map (·.type)=some t) (ht:P.underlying t=some (.array N e)) (hC:P.cellsOf e=sz) (J8:P.cellsOf t=N*sz) (hN:N=l.length)
 (hlen:∀x,(enc x).length=sz) (wE:∀m cs y x,DataW.trod (λ_=>()) P W 0 (λ_=>true) false m e cs=some y->cs.length=sz->y.1=dE x->cs=enc x)
 (h:DataW.LaidVars P W ((name,.agg (l.map dE))::rest) ps):jJ [old W] sz enc (some ⟨g,0,none⟩) l/\∃qs,DataW.LaidVars P W rest qs:=by
 obtain⟨g',t',cs,fuel,p,q,wF,ht',GM,hd,hr,_⟩:=h
 obtain rfl:=Option.some.inj (hg.symm.trans wF)
 obtain rfl:=Option.some.inj (hty.symm.trans ht')
 refine⟨λi x hx => ?_,_,hr⟩
 have hi:i<l.length:=(List.getElem?_eq_some_iff.1 hx).1
 refine⟨rfl,λf u hu z w hw=>hw.q7 ?_⟩
 obtain⟨xs,m,_,ex,hlc,hl,hel⟩:=DataW.trod_array ht hd
 have hf:f<sz:=by rw[<-hlen x];exact(List.getElem?_eq_some_iff.1 hu).1
 have h1:=hel i (by omega)
 rw[hC,List.getElem?_eq_getElem (by omega)]at h1
 have h2:(xs[i]'(by omega)).1=dE x:=by
  simp only[Prod.mk.injEq,DataW.agg.injEq]at ex
  have:=afr (·[i]?) ex.1
  simp only[List.getElem?_map,hx,afG,List.getElem?_eq_getElem (show i<xs.length by omega),Option.some.injEq]at this
  exact this.symm
 have hlt:cs.toList.length=N*sz:=by rw[hlc,J8]
 have h4:i*sz+sz<=N*sz:=by
  have:=afm sz (show i+1<=N by omega)
  rw[agm]at this;exact this
 have h3:=wE m _ _ x h1 (by rw[afA,af4,hlt];omega) h2
 have:=World.var?_cell hg GM (i*sz+f)
 rw[show(sJ (some ⟨g,0,none⟩:Option Addr))=0 from rfl,af3]
 show W.cell? ⟨g,i*sz+f,none⟩=some u
 rw[this,<-Array.getElem?_toList]
 rw[<-h3,List.getElem?_take,au hf,List.getElem?_drop]at hu
 exact hu
end RK
end
section
namespace GX
open Go Go.RowKit SL
def GN(x y:Int):Int:=IntKind.i64.wrap ((BitVec.ofInt 64 x ^^^ BitVec.ofInt 64 y).toNat)
def GO(x y:Int):Int:=IntKind.i64.wrap (x*2 ^ (min y.toNat 64))
def GP(x y:Int):Int:=x.fdiv (2 ^ (min y.toNat 64))
section
variable {P:Program}{ops:Array Oper}{Q:Exit->Act->World->Prop}{a:Act}{w w0 w1:World}{rest:List Oper}{o:Oper}{n d t:Nat}{v v1:Value}{l:List (Nat×Value)}{j e:Nat->Value}{L:List M5}{Df:List Deferred}{E:TypeId}
theorem adQ{x y:Operand}{p q:Int}{T T':TypeId}(ho:o.op= .binOp .xor T x y T')(hx:po e x= .int .i64 p)(hy:po e y= .int .i64 q):(execOp (po e) o).run P w= .ok (.value (.int .i64 (GN p q))) w:=by
 unfold execOp
 simp[ho,hx,hy,eqGuard,binOp,Op.intBits];rfl
theorem aaH(x:Int):0<=IntKind.u64.wrap x:=by
 simp only[IntKind.wrap,IntKind.min,IntKind.max,IntKind.signed,IntKind.bits]
 simp;omega
theorem adR{x y:Operand}{p q:Int}{T T':TypeId}(ho:o.op= .binOp .shl T x y T')(hx:po e x= .int .i64 p)(hy:po e y= .int .u64 q)(hq:0<=q):(execOp (po e) o).run P w= .ok (.value (.int .i64 (GO p q))) w:=by
 have h:¬q<0:=by omega
 unfold execOp
 simp[ho,hx,hy,eqGuard,binOp,Op.shift,h];rfl
theorem adS{x y:Operand}{p q:Int}{T T':TypeId}(ho:o.op= .binOp .shr T x y T')(hx:po e x= .int .i64 p)(hy:po e y= .int .u64 q)(hq:0<=q):(execOp (po e) o).run P w= .ok (.value (.int .i64 (GP p q))) w:=by
 have h:¬q<0:=by omega
 unfold execOp
 simp[ho,hx,hy,eqGuard,binOp,Op.shift,h];rfl
theorem ZM{x y:Operand}{k:IntKind}{i:Int}{b N off sz:Nat}{w':World}(ho:o.op= .indexAddr t x y)(hx:po e x= .pointer (some ⟨b,off,none⟩))(hy:po e y= .int k i)
 (ht:P.underlying t=some (.array N E)) (hs:(P.info? E).map (·.size)=some sz) (hi:aZ i N):(execOp (po e) o).run P w'= .ok (.value (.pointer (some ⟨b,off+i.toNat*sz,none⟩))) w':=by
 unfold execOp
 have h0:=hi.1;have h1:=hi.2
 simp only[ho,hx,hy]
 cases hq:P.info? E with
 | none=>simp[hq]at hs
 | some q =>
  simp[hq]at hs
  simp[Instr.indexAt,Instr.sureAddr,run_underlying ht,asIntOf,h0,h1,sizeOf,typeInfo,hq,hs,afL]
theorem Rk{x y:Operand}{kd:IntKind}{i j:Int}{v:Value}{w:World}(ho:o.op= .index t x y)(hy:po e y= .int kd i)(hi:i=j)(hrun:(Instr.index t (po e x) (.int kd j)).run P w= .ok v w):(execOp (po e) o).run P w= .ok (.value v) w:=by
 subst hi
 unfold execOp
 simp[ho,hy,hrun]
theorem Sf{x y:Operand}{k:IntKind}{i:Int}{b N R off sz:Nat}{w':World}(ho:o.op= .indexAddr t x y)(hx:po e x= .pointer (some ⟨b,R+off,none⟩))(hy:po e y= .int k i)
 (ht:P.underlying t=some (.array N E)) (hs:(P.info? E).map (·.size)=some sz) (hi:aZ i N):(execOp (po e) o).run P w'= .ok (.value (.pointer (some ⟨b,R+(off+i.toNat*sz),none⟩))) w':=by
 rw[<-Nat.add_assoc];exact ZM ho hx hy ht hs hi
end
section
variable {α:Type}[Inhabited α]{enc:α->List Value}{sz N:Nat}{C pre post:List Value}{l:List α}{o:Nat}
theorem Qx{i:Int}(h:aZ i N):i.toNat<N:=by have h0:=h.1;have h1:=h.2;omega
theorem aaI(he:QB enc sz){i f:Nat}(hi:i<N){u:Value}(hu:(enc (ag l i))[f]? = some u):(O8 N enc l)[i*sz+f]? = some u:=by
 have hf:f<sz:=by rw[<-he.len (ag l i)];exact(List.getElem?_eq_some_iff.1 hu).1
 rw[TW,he.get _ i f (ag l i) (by simp[hi]) hf];exact hu
theorem Tv(hC:C=pre++(O8 N enc l++post))(he:QB enc sz)(ho:pre.length=o){i f:Nat}(hi:i<N){u:Value}(hu:(enc (ag l i))[f]? = some u):C[o+i*sz+f]? = some u:=by
 have h1:=aaI (N:=N) he hi hu
 have h2:i*sz+f<(O8 N enc l).length:=(List.getElem?_eq_some_iff.1 h1).1
 rw[hC,List.getElem?_append_right (by omega),ho,show o+i*sz+f-o=i*sz+f by omega,List.getElem?_append_left h2]
 exact h1
theorem abE(hC:C=pre++(O8 N enc l++post))(he:QB enc sz)(ho:pre.length=o){i:Nat}(hi:i<N){xs:List Value}(hx:enc (ag l i)=xs):(C.drop (o+i*sz)).take xs.length=xs:=by
 subst hx
 apply afS
 intro k
 rw[List.getElem?_take]
 by_cases hk:k<(enc (ag l i)).length
 ·rw[au hk,List.getElem?_drop,Tv hC he ho hi (List.getElem?_eq_getElem hk),List.getElem?_eq_getElem hk]
 ·rw[aj hk,List.getElem?_eq_none (by omega)]
theorem Zc{C':List Value}(hC:C=pre++(O8 N enc l++post))(he:QB enc sz)(ho:pre.length=o){i:Nat}(hi:i<N){y:α}{vs:List Value}(hy:enc y=vs)(hC':C'=pre++(O8 N enc (kI N l i y)++post)):C'=C.take (o+i*sz)++vs++C.drop (o+i*sz+vs.length):=by
 have hl:=(V2 N he l).len
 have hvs:vs.length=sz:=by rw[<-hy];exact he.len y
 have hm:i*sz+sz<=N*sz:=by
  have:=afm sz (show i+1<=N by omega)
  rw[agm]at this;exact this
 have e1:(pre++(O8 N enc l++post)).take (o+i*sz)=pre++(O8 N enc l).take (i*sz):=by
  rw[agz,agh (by omega),ho,show o+i*sz-o=i*sz by omega,List.take_append_of_le_length (by omega)]
 have e2:(pre++(O8 N enc l++post)).drop (o+i*sz+sz)=(O8 N enc l).drop (i*sz+sz)++post:=by
  rw[List.drop_append,afR (by omega),ho,show o+i*sz+sz-o=i*sz+sz by omega,afU,agy (by omega)]
 rw[hC',hC,aaE he hi,<-hy,he.len y,e1,e2]
 simp only[aeA]
theorem aaJ(hC:C=pre++(O8 N enc l++post))(he:QB enc sz)(ho:pre.length=o){i m:Nat}(hi:i<N)(hm:m<=sz):o+i*sz+m<=C.length:=by
 have hl:=(V2 N he l).len
 have:i*sz+sz<=N*sz:=by
  have:=afm sz (show i+1<=N by omega)
  rw[agm]at this;exact this
 rw[hC,ad9,ad9,hl];omega
theorem UI{C':List Value}{v:Value}(hC:C=pre++(O8 N enc l++post))(he:QB enc 1)(ho:pre.length=o){i:Nat}(hi:i<N){y:α}(hy:enc y=[v])(hC':C'=pre++(O8 N enc (kI N l i y)++post)):C'=C.set (o+i*1) v:=by
 have h:=Zc hC he ho hi hy hC'
 have hl:=aaJ (m:=1) hC he ho hi (aea _)
 rw[h,List.set_eq_take_append_cons_drop,iQ_]
 simp
end
section
variable {P:Program}{ops:Array Oper}{Q:Exit->Act->World->Prop}{a:Act}{w w0 w1:World}{rest:List Oper}{o:Oper}{n d t:Nat}{v v1:Value}{l:List (Nat×Value)}{j e:Nat->Value}{L:List M5}{Df:List Deferred}{E:TypeId}
theorem _root_.Go.Proofs.YtpikpffbcjpmcaaGreatDoor.SL.Fit.aaK{b k:Nat}{C xs:List Value}{T:TypeId}(h:Fit w0 (cQ (pts b (.cells C.toArray T)::L)) w)(hx:(C.drop k).take xs.length=xs):lI w b k xs:=by
 refine Wd xs _ λq u hu => ?_
 rw[<-hx,List.getElem?_take]at hu
 split at hu
 ·rw[List.getElem?_drop]at hu
  exact h.cell (k+q) (by simpa using hu)
 ·cases hu
theorem UJ{x y:Operand}{b k:Nat}{C C' vs:List Value}{T:TypeId}(hw:Region.wanted o (yielded ops a.tmps)=true)(hd:o.dst=none)(hr:fy Df n (lk l j) a)(ho:o.op= .store t x y)
 (hx:po (lk l j) x= .pointer (some ⟨b,k,none⟩)) (hy:po (lk l j) y= .agg vs.toArray) (h1:vs.all (·.oneCell')=true) (hs:(P.info? t).map (·.size)=some vs.length)
 (hF:Fit w0 (cQ (pts b (.cells C.toArray T)::L)) w) (hk:k+vs.length<=C.length) (hC:C'=C.take k++vs++C.drop (k+vs.length))
 (K:∀w1,Fit w0 (cQ (pts b (.cells C'.toArray T)::L)) w1->wpList P ops Q rest a w1):wpList P ops Q (o::rest) a w:=
 Xr hw hd hr ho hx hy h1 (Nat.ble_eq_true_of_le (by simpa using hk)) hs hF (cs':=C'.toArray) (by rw[hC]) K
end
section
variable {P:Program}{w w0 w1 z:World}{ops:Array Oper}{Q:Exit->Act->World->Prop}{a:Act}{rest:List Oper}{e:Nat->Value}{o:Oper}{n d:Nat}{l:List (Nat×Value)}{j:Nat->Value}{Df:List Deferred}{L:List M5}{u:Value}
theorem Va{x:Operand}{T:TypeId}(hw:Region.wanted o (yielded ops a.tmps)=true)(hr:fy Df n (lk l j) a)(ho:o.op= .panic x)(hx:po (lk l j) x= .iface T u)
 (k:Q (.panic [{v:=.iface T u,recovered:=false}]) a w):wpList P ops Q (o::rest) a w:=by
 refine uc hw ?_
 unfold Oper.wp
 have h:(execOp (po (lk l j)) o).run P w= .halt (.panic (.iface T u)) w:=by
  unfold execOp
  simp[ho,hx,Instr.panic,goPanic]
 rw[hr.eval,h,Oper.upon_panic]
 exact k
theorem Yv{f:FuncId}{args:Array Value}{R:Ending->World->Prop}(hw:Region.wanted o (yielded ops a.tmps)=true)(hr:fy Df n (lk l j) a)
 (hrun:(execOp (po (lk l j)) o).run P w= .ok (.enter f args) w) (hc:Calls P f args w R)
 (k:∀e w1,R e w1->∃ch,e= .panicked ch/\Q (.panic ch) a w1):wpList P ops Q (o::rest) a w:=by
 refine uc hw ?_
 unfold Oper.wp
 rw[hr.eval,hrun,Oper.upon_enter]
 refine hc.mono λe w1 h => ?_
 obtain⟨ch,rfl,h2⟩:=k e w1 h
 exact h2
theorem PJ{K:Act->World->Prop}{ch:List PanicEntry}(h:Q (.panic ch) a w):Exit.then K Q (.panic ch) a w:=h
theorem QL{i:Nat}{ch:List PanicEntry}(h:Q (.panic ch) a w):Exit.inBlock i Q (.panic ch) a w:=h
theorem TX{fn:Func}{R:Ending->World->Prop}{ch:List PanicEntry}(hr:Gk n e a)(h:R (.panicked ch) w):bodyPost P fn R (.panic ch) a w:=⟨hr.defers,h⟩
theorem ejR{γ δ:Type}{x y:δ}(h:some (Sum.inr x:γ⊕δ)=some (Sum.inr y)):x=y:=by cases h;rfl
theorem aaL(h:Q .ret a w):Exit.noGoto Q .ret a w:=h
instance Ja [h:PI Q]:PI (Exit.noGoto Q):=⟨λch a w dst v k=>h.pi ch a w dst v k⟩
end
section
variable {P:Program}{w:World}
theorem XM(em:Bool)(d:Nat)(xs:Array Value):∀(fs:List Field) (i:Nat) (us:List Value),wm P i fs us us=true->(∀j,us[j]? = xs[i+j]?∨us.length<=j)->
 Sem.run P (forIn fs PUnit.unit λf _=>if f.name≠ "_" then do let v<-part f.type xs f.offset;Instr.checkKey em (d+1) f.type v;pure (ForInStep.yield PUnit.unit)else pure (ForInStep.yield PUnit.unit)) w= .ok PUnit.unit w
 | [],_,[],_,_=>by simp
 | f::fs,i,.int k a::us,h,hx=>by
  simp only[wm,aec,bne_iff_ne,ne_eq,afT]at h
  obtain⟨⟨⟨⟨hn,ho⟩,ht⟩,_⟩,hr⟩:=h
  have hx0:xs[i]? = some (.int k a):=by rcases hx 0 with h | h;simpa using h.symm;simp at h
  have hty :∃kk,P.underlying f.type=some (.int kk):=by
   revert ht
   cases hq:P.underlying f.type with
   | none=>simp
   | some d=>cases d<;>simp
  obtain⟨kk,hty⟩:=hty
  have ih:=XM em d xs fs (i+1) us hr (λj=>by rcases hx (j+1)with h | h;left;simpa [agL,agC]using h;right;simpa using h)
  have pa:=Ql (P:=P) (w:=w) (t:=f.type) (cs:=xs) (i:=f.offset) (v:=.int k a) (by rw[hty]) (by rw[ho];exact hx0)
  have hc:(Instr.checkKey em (d+1) f.type (.int k a)).run P w= .ok () w:=by simp[Instr.checkKey,run_underlying hty]
  rw[List.forIn_cons]
  simp only[ne_eq,au hn,aee,pa,hc,aef,afu]
  simpa using ih
 | f::fs,i,.bool a::us,h,hx=>by
  simp only[wm,aec,bne_iff_ne,ne_eq,afT]at h
  obtain⟨⟨⟨hn,ho⟩,ht⟩,hr⟩:=h
  have hx0:xs[i]? = some (.bool a):=by rcases hx 0 with h | h;simpa using h.symm;simp at h
  have hty:P.underlying f.type=some .bool:=by
   revert ht
   cases hq:P.underlying f.type with
   | none=>simp
   | some d=>cases d<;>simp
  have ih:=XM em d xs fs (i+1) us hr (λj=>by rcases hx (j+1)with h | h;left;simpa [agL,agC]using h;right;simpa using h)
  have pa:=Ql (P:=P) (w:=w) (t:=f.type) (cs:=xs) (i:=f.offset) (v:=.bool a) (by rw[hty]) (by rw[ho];exact hx0)
  have hc:(Instr.checkKey em (d+1) f.type (.bool a)).run P w= .ok () w:=by simp[Instr.checkKey,run_underlying hty]
  rw[List.forIn_cons]
  simp only[ne_eq,au hn,aee,pa,hc,aef,afu]
  simpa using ih
theorem aaM{em:Bool}{T:TypeId}{us:List Value}(d:Nat)(hu:P.underlying T=some (.struct (P.fieldsOf T)))(hf:wm P 0 (P.fieldsOf T).toList us us=true):(Instr.checkKey em (d+2) T (.agg us.toArray)).run P w= .ok () w:=by
 unfold Instr.checkKey
 simp only[run_underlying hu,aee,aef,<-Array.forIn_toList]
 rw[XM em d us.toArray _ 0 us hf (λj=>by left;simp)]
 simp
structure Jb{α:Type}[DecidableEq α](P:Program)(kt:TypeId)(ek:α->List Value):Prop where
 hp:P.stoodInHeld kt=false
 hu:P.underlying kt=some (.struct (P.fieldsOf kt))
 hf:∀x y,wm P 0 (P.fieldsOf kt).toList (ek x) (ek y)=true
 eq:∀x y,AK (ek x) (ek y)=decide (x=y)
end
section
variable {α β:Type}[DecidableEq α]
def Qj(ek:α->List Value)(ev:β->List Value)(l:List (α×β))(k:Nat):List MapEntry:=(l.zipIdx k).map λp=>{key:=.agg (ek p.1.1).toArray,val:=.agg (ev p.1.2).toArray,born:=p.2}
def mapOf(ek:α->List Value)(ev:β->List Value)(b:Nat)(l:List (α×β)):M5:=pts b (.map (Qj ek ev l 0).toArray l.length)
def pE:List (α×β)->α->Option β
 | [],_=>none
 | p::l,x=>if x=p.1 then some p.2 else pE l x
variable {P:Program}{w w0 w1 z:World}{ops:Array Oper}{Q:Exit->Act->World->Prop}{a:Act}{rest:List Oper}{e:Nat->Value}{o:Oper}{n d:Nat}{l:List (Nat×Value)}{j:Nat->Value}{Df:List Deferred}{L:List M5}{u:Value}
variable {ek:α->List Value}{ev:β->List Value}{b:Nat}{m:List (α×β)}{t kt et:TypeId}
theorem Yw(hk:Jb P kt ek)(x:α):∀(m:List (α×β)) (k i:Nat),((pE m x=none/\(Instr.findAsking kt (.agg (ek x).toArray) (Qj ek ev m k) i).run P w= .ok none w)∨∃v q,pE m x=some v/\(Instr.findAsking kt (.agg (ek x).toArray) (Qj ek ev m k) i).run P w= .ok (some (q,.agg (ev v).toArray)) w)
 | [],k,i=>by left;exact⟨rfl,by simp[Qj,Instr.findAsking]⟩
 | p::m,k,i=>by
  have h1:=run_equalIn_struct (P:=P) w 9999 kt (ek x).toArray (ek p.1).toArray hk.hu hk.hp
  rw[XJ (P:=P) (w:=w) 9998 (ek x).toArray (ek p.1).toArray (P.fieldsOf kt).toList 0 (ek x) (ek p.1) (hk.hf x p.1) (λj=>by left;simp) (λj=>by left;simp)]at h1
  have h2:(Op.equal kt (.agg (ek x).toArray) (.agg (ek p.1).toArray)).run P w= .ok (decide (x=p.1)) w:=by rw[<-hk.eq];exact h1
  have e:Qj ek ev (p::m) k={key:=.agg (ek p.1).toArray,val:=.agg (ev p.2).toArray,born:=k}::Qj ek ev m (k+1):=rfl
  rw[e]
  by_cases c:x=p.1
  ·right
   refine⟨p.2,i,by simp[pE,c],?_⟩
   rw[Instr.findAsking]
   simp only[aee,h2,aef]
   simp[c]
  ·have ih:=Yw hk x m (k+1) (i+1)
   have e2:(Instr.findAsking kt (.agg (ek x).toArray) ({key:=.agg (ek p.1).toArray,val:=.agg (ev p.2).toArray,born:=k}::Qj ek ev m (k+1)) i).run P w=(Instr.findAsking kt (.agg (ek x).toArray) (Qj ek ev m (k+1)) (i+1)).run P w:=by
    rw[Instr.findAsking]
    simp[h2,c]
   rw[e2]
   simpa [pE,c]using ih
theorem Xv(hk:Jb P kt ek)(x:α)(m:List (α×β)):((pE m x=none/\(Instr.findKey kt (.agg (ek x).toArray) (Qj ek ev m 0)).run P w= .ok none w)∨∃v q,pE m x=some v/\(Instr.findKey kt (.agg (ek x).toArray) (Qj ek ev m 0)).run P w= .ok (some (q,.agg (ev v).toArray)) w):=by
 have h:=Yw (P:=P) (w:=w) (ev:=ev) hk x m 0 0
 unfold Instr.findKey
 simp only[aee,run_underlying hk.hu,aef]
 cases m with
 | nil=>left;exact⟨rfl,by simp[Qj,Instr.findNow]⟩
 | cons p m =>
  have e:Instr.findNow (.struct (P.fieldsOf kt)) (.agg (ek x).toArray) (Qj ek ev (p::m) 0) 0=none:=rfl
  rw[e]
  exact h
theorem aaN(hw:Region.wanted o (yielded ops a.tmps)=true)(hd:o.dst=some d)(hn:Nat.blt d n=true)(hr:fy Df n (lk l j) a)(ho:o.op= .makeMap t none)(ek:α->List Value)(ev:β->List Value)(hF:Fit z (cQ L) w)
 (k:∀b w a,Fit z (cQ (mapOf ek ev b []::L)) w->fy Df n (lk ((d,.map (some b))::l) j) a->wpList P ops Q rest a w):wpList P ops Q (o::rest) a w:=by
 refine Qg hw hd hn hr (w1:=w.alloc (.map #[] 0)) (v:=.map (some w.heap.size)) ?_ λa Xq=>k _ _ a (hF.alloc _) Xq
 unfold execOp
 simp[ho,Instr.makeMap,newObj]
 rfl
theorem abF{zc:Array Value}(h:(P.info? et).bind (·.zero)=some (.agg zc)):(zeroValue et).run P w= .ok (.agg zc) w:=by
 cases hi:P.info? et with
 | none=>simp[hi]at h
 | some i =>
  simp[hi]at h
  simp[zeroValue,typeInfo,hi,h]
theorem abG{x y:Operand}{v0:β}(hw:Region.wanted o (yielded ops a.tmps)=true)(hd:o.dst=some d)(hn:Nat.blt d n=true)(hr:fy Df n (lk l j) a)(ho:o.op= .lookup t x y true)(hx:po (lk l j) x= .map (some b))(q:α)(hy:po (lk l j) y= .agg (ek q).toArray)
 (ht:P.underlying t=some (.map kt et)) (hk:Jb P kt ek) (hz:(P.info? et).bind (·.zero)=some (.agg (ev v0).toArray)) (hF:Fit z (cQ (mapOf ek ev b m::L)) w)
 (k:∀a,fy Df n (lk ((d,.tuple #[.agg (ev ((pE m q).getD v0)).toArray,.bool (pE m q).isSome])::l) j) a->wpList P ops Q rest a w):wpList P ops Q (o::rest) a w:=by
 refine Qg hw hd hn hr (w1:=w) ?_ k
 unfold execOp
 have hb:(getObj b).run P w= .ok (.map (Qj ek ev m 0).toArray m.length) w:=agO hF.block
 have hc:∀em,(Instr.checkKey em 10000 kt (.agg (ek q).toArray)).run P w= .ok () w:=λem=>aaM 9998 hk.hu (hk.hf q q)
 have hzv:=abF (P:=P) (w:=w) hz
 rcases Xv (P:=P) (w:=w) (ev:=ev) hk q m with ⟨e,h⟩ | ⟨v,i,e,h⟩
 ·simp[ho,hx,hy,Instr.lookup,run_underlying ht,hb,hc,h,e,hzv]
 ·simp[ho,hx,hy,Instr.lookup,run_underlying ht,hb,hc,h,e]
theorem Xw(p:α×β):∀(m:List (α×β)) (k:Nat),Qj ek ev (m++[p]) k=Qj ek ev m k++[{key:=.agg (ek p.1).toArray,val:=.agg (ev p.2).toArray,born:=k+m.length}]
 | [],k=>rfl
 | q::m,k=>by
  have ih:=Xw p m (k+1)
  show _::Qj ek ev (m++[p]) (k+1)=_::(Qj ek ev m (k+1)++_)
  rw[ih]
  congr 3
  simp;omega
theorem ZN{o o':Obj}(h:Fit w0 (cQ (pts b o::L)) w):Fit w0 (cQ (pts b o'::L)) {w with heap:=w.heap.setIfInBounds b o' }:=by
 refine h.turn ?_ (λk hk hlt => ?_) rfl rfl rfl (by simp)
 ·simp[h.lt]
 ·show(w.heap.setIfInBounds b o')[k]? = _
  rw[Array.getElem?_setIfInBounds_ne (by omega)]
theorem aaO{x y v:Operand}(hw:Region.wanted o (yielded ops a.tmps)=true)(hd:o.dst=none)(hr:fy Df n (lk l j) a)(ho:o.op= .mapUpdate t x y v∨o.op= .insert t x y v)(hx:po (lk l j) x= .map (some b))(q:α)(r:β)(hy:po (lk l j) y= .agg (ek q).toArray)(hv:po (lk l j) v= .agg (ev r).toArray)
 (ht:P.underlying t=some (.map kt et)) (hk:Jb P kt ek) (hq:pE m q=none) (hF:Fit z (cQ (mapOf ek ev b m::L)) w)
 (k:∀w,Fit z (cQ (mapOf ek ev b (m++[(q,r)])::L)) w->wpList P ops Q rest a w):wpList P ops Q (o::rest) a w:=by
 have hb:(getObj b).run P w= .ok (.map (Qj ek ev m 0).toArray m.length) w:=agO hF.block
 have hc:∀em,(Instr.checkKey em 10000 kt (.agg (ek q).toArray)).run P w= .ok () w:=λem=>aaM 9998 hk.hu (hk.hf q q)
 have hrun:(Instr.mapUpdate t (.map (some b)) (.agg (ek q).toArray) (.agg (ev r).toArray)).run P w= .ok () {w with heap:=w.heap.setIfInBounds b (.map (Qj ek ev (m++[(q,r)]) 0).toArray (m++[(q,r)]).length)}:=by
  rcases Xv (P:=P) (w:=w) (ev:=ev) hk q m with ⟨e,h⟩ | ⟨v,i,e,h⟩
  ·rw[Xw]
   have hs:∀o',(setObj b o').run P w= .ok () {w with heap:=w.heap.setIfInBounds b o' }:=λo'=>by simp[setObj,Sem.run,hF.block]
   simp[Instr.mapUpdate,run_underlying ht,hb,hc,h,hs]
  ·rw[e]at hq;cases hq
 refine uc hw ?_
 unfold Oper.wp
 have h2:(execOp (po (lk l j)) o).run P w= .ok .skip {w with heap:=w.heap.setIfInBounds b (.map (Qj ek ev (m++[(q,r)]) 0).toArray (m++[(q,r)]).length)}:=by
  unfold execOp
  rcases ho with ho | ho<;>simp[ho,hx,hy,hv,hrun]
 rw[hr.eval,h2,Oper.upon_skip,hd]
 exact k _ (ZN hF)
section
variable {ξ γ:Type}
noncomputable def jK(step:ξ->γ->Option γ)(s0:γ)(l:List ξ):Option γ:=
 open Classical in if h :∃r,∀l':List ξ,l'.Perm l->l'.foldlM (λs x=>step x s) s0=some r then some h.choose else none
theorem mP{step:ξ->γ->Option γ}{s0 r:γ}{l l':List ξ}(h:jK step s0 l=some r)(p:l'.Perm l):l'.foldlM (λs x=>step x s) s0=some r:=by
 unfold jK at h
 split at h
 ·rename_i hx
  rw[<-Option.some.inj h]
  exact hx.choose_spec l' p
 ·cases h
theorem rA{step:ξ->γ->Option γ}{s0 r:γ}{l:List ξ}(h:∀l':List ξ,l'.Perm l->l'.foldlM (λs x=>step x s) s0=some r):jK step s0 l=some r:=by
 unfold jK
 have hx :∃r,∀l':List ξ,l'.Perm l->l'.foldlM (λs x=>step x s) s0=some r:=⟨r,h⟩
 rw[dif_pos hx]
 have e:=hx.choose_spec l (List.Perm.refl l)
 rw[h l (List.Perm.refl l)]at e
 rw[<-Option.some.inj e]
structure Seen(l:List ξ)(step:ξ->γ->Option γ)(s0:γ)(seen:Array Nat)(s:γ):Prop where
 nd:seen.toList.Nodup
 lt:∀i∈seen.toList,i<l.length
 fold:(seen.toList.filterMap (λi=>l[i]?)).foldlM (λs x=>step x s) s0=some s
theorem Seen.nil{l:List ξ}{step:ξ->γ->Option γ}{s0:γ}:Seen l step s0 #[] s0:=⟨by simp,by simp,rfl⟩
theorem pS(l:List ξ):(List.range l.length).filterMap (λi=>l[i]?)=l:=by
 apply afS
 intro i
 have h:∀(l:List ξ),(List.range l.length).filterMap (λi=>l[i]?)=l:=by
  intro l
  induction l with
  | nil=>rfl
  | cons x l ih =>
   rw[af2,List.range_succ_eq_map,List.filterMap_cons]
   simp only[List.getElem?_cons_zero,List.filterMap_map]
   congr 1
 rw[h]
theorem jv{n:Nat}{l:List Nat}(h:l.Nodup)(hlt:∀i∈l,i<n)(mb:∀i,i<n->i∈l):l.Perm (List.range n):=
 (List.perm_ext_iff_of_nodup h List.nodup_range).2 λi=>⟨λhi=>List.mem_range.2 (hlt i hi),λhi=>mb i (List.mem_range.1 hi)⟩
theorem Seen.done{l:List ξ}{step:ξ->γ->Option γ}{s0 s r:γ}{seen:Array Nat}(h:Seen l step s0 seen s)(H:jK step s0 l=some r)(mb:∀i,i<l.length->i∈seen.toList):s=r:=by
 have p:=(jv h.nd h.lt mb).filterMap (λi=>l[i]?)
 rw[pS]at p
 have e:=mP H p
 rw[h.fold]at e
 exact Option.some.inj e
theorem Seen.push{l:List ξ}{step:ξ->γ->Option γ}{s0 s r:γ}{seen:Array Nat}(h:Seen l step s0 seen s)(H:jK step s0 l=some r){i:Nat}{x:ξ}(hx:l[i]? = some x)(hi:i∉seen.toList) :∃s',step x s=some s'/\Seen l step s0 (seen.push i) s':=by
 have J7:i<l.length:=(List.getElem?_eq_some_iff.1 hx).1
 have GQ:(seen.toList++[i]).Nodup:=by
  rw[List.nodup_append]
  exact⟨h.nd,by simp,λa ha b hb=>by simp at hb;subst hb;intro e;subst e;exact hi ha⟩
 have hlt:∀k∈seen.toList++[i],k<l.length:=λk hk=>by
  rcases List.mem_append.1 hk with hk | hk
  ·exact h.lt k hk
  ·simp at hk;omega
 let rest:=(List.range l.length).filter (λk => !(seen.toList++[i]).contains k)
 have p:((seen.toList++[i])++rest).Perm (List.range l.length):=by
  refine jv ?_ ?_ ?_
  ·rw[List.nodup_append]
   refine⟨GQ,List.nodup_range.filter _,λa ha b hb => ?_⟩
   intro e;subst e
   have:=(List.mem_filter.1 hb).2
   simp at this ha
   rcases ha with ha | ha
   ·exact this.1 ha
   ·exact this.2 ha
  ·intro k hk
   rcases List.mem_append.1 hk with hk | hk
   ·exact hlt k hk
   ·exact List.mem_range.1 (List.mem_filter.1 hk).1
  ·intro k hk
   by_cases c:k∈seen.toList++[i]
   ·exact List.mem_append.2 (.inl c)
   ·refine List.mem_append.2 (.inr (List.mem_filter.2 ⟨List.mem_range.2 hk,?_⟩))
    simpa using c
 have p2:=p.filterMap (λi=>l[i]?)
 rw[pS]at p2
 have e:=mP H p2
 rw[List.filterMap_append,List.filterMap_append,List.foldlM_append,List.foldlM_append,h.fold]at e
 have e1:List.filterMap (λi=>l[i]?) [i]=[x]:=by simp[hx]
 rw[e1]at e
 cases hs:step x s with
 | none=>simp[hs]at e
 | some s' =>
  refine⟨s',rfl,⟨by simpa using GQ,λk hk=>hlt k (by simpa using hk),?_⟩⟩
  rw[Array.toList_push,List.filterMap_append,List.foldlM_append,h.fold,e1]
  simp[hs]
theorem Seen.size{l:List ξ}{step:ξ->γ->Option γ}{s0 s:γ}{seen:Array Nat}(h:Seen l step s0 seen s):seen.size<=l.length:=by
 have p:(seen.toList++(List.range l.length).filter (λk => !seen.toList.contains k)).Perm (List.range l.length):=by
  refine jv ?_ ?_ ?_
  ·rw[List.nodup_append]
   refine⟨h.nd,List.nodup_range.filter _,λa ha b hb => ?_⟩
   intro e;subst e
   have:=(List.mem_filter.1 hb).2
   simp at this ha
   exact this ha
  ·intro k hk
   rcases List.mem_append.1 hk with hk | hk
   ·exact h.lt k hk
   ·exact List.mem_range.1 (List.mem_filter.1 hk).1
  ·intro k hk
   by_cases c:k∈seen.toList
   ·exact List.mem_append.2 (.inl c)
   ·refine List.mem_append.2 (.inr (List.mem_filter.2 ⟨List.mem_range.2 hk,?_⟩))
    simpa using c
 have h1:=p.length_eq
 simp at h1
 omega
end
theorem Zd{ξ γ:Type}{c:Code}(m:List ξ)(step:ξ->γ->Option γ)(s0:γ)(I:Array Nat->γ->Act->World->Prop)(h0:I #[] s0 a w)
 (round:∀seen s a w,Seen m step s0 seen s->I seen s a w->c.wp P (Exit.then (λa w =>∃i s',Seen m step s0 (seen.push i) s'/\I (seen.push i) s' a w) Q) a w):(Code.loop c).wp P Q a w:=by
 refine NB (λx:Array Nat×γ=>m.length-x.1.size) (λx a w=>Seen m step s0 x.1 x.2/\I x.1 x.2 a w) (#[],s0) ⟨Seen.nil,h0⟩ ?_
 rintro ⟨seen,s⟩ a w ⟨hs,hI⟩
 refine Code.wp_mono (λe a w q => ?_) (round seen s a w hs hI)
 cases e with
 | normal =>
  obtain⟨i,s',h1,h2⟩:=q
  refine⟨(seen.push i,s'),⟨h1,h2⟩,?_⟩
  have:=h1.size
  simp at this⊢
  omega
 | _=>exact q
def Wg(it b n:Nat)(seen:Array Nat):M5:=pts it (.mapIter (some b) n seen n)
theorem aaP{x:Operand}(hw:Region.wanted o (yielded ops a.tmps)=true)(hd:o.dst=some d)(hn:Nat.blt d n=true)(hr:fy Df n (lk l j) a)(ho:o.op= .range t x)(hx:po (lk l j) x= .map (some b))(ht:P.underlying t=some (.map kt et))
 (hF:Fit z (cQ (mapOf ek ev b m::L)) w)
 (k:∀it w a,Fit z (cQ (Wg it b m.length #[]::mapOf ek ev b m::L)) w->fy Df n (lk ((d,.pointer (some ⟨it,0,none⟩))::l) j) a->wpList P ops Q rest a w):wpList P ops Q (o::rest) a w:=by
 refine Qg hw hd hn hr (w1:=w.alloc (.mapIter (some b) m.length #[] m.length)) (v:=.pointer (some ⟨w.heap.size,0,none⟩)) ?_ λa Xq=>k _ _ a (hF.alloc _) Xq
 have h:=run_range_map (P:=P) w t kt et b (Qj ek ev m 0).toArray m.length ht hF.block
 unfold execOp
 simp[ho,hx,h]
theorem UK(m:List (α×β))(k i:Nat):(Qj ek ev m k)[i]? = (m[i]?).map λp=>{key:=.agg (ek p.1).toArray,val:=.agg (ev p.2).toArray,born:=k+i}:=by
 unfold Qj
 rw[List.getElem?_map,List.getElem?_zipIdx]
 cases m[i]? <;> rfl
theorem Yx{m:List (α×β)}{x:MapEntry}(h:x∈Qj ek ev m 0) :∃p,m[x.born]? = some p/\x={key:=.agg (ek p.1).toArray,val:=.agg (ev p.2).toArray,born:=x.born}:=by
 obtain⟨i,hi⟩:=List.getElem?_of_mem h
 rw[UK]at hi
 cases hm:m[i]? with
 | none=>simp[hm]at hi
 | some p =>
  simp[hm]at hi
  subst hi
  exact⟨p,hm,rfl⟩
theorem abH{x:Operand}{it n0:Nat}{seen:Array Nat}(hw:Region.wanted o (yielded ops a.tmps)=true)(hd:o.dst=some d)(hn:Nat.blt d n=true)(hr:fy Df n (lk l j) a)(ho:o.op= .next x false)(hx:po (lk l j) x= .pointer (some ⟨it,0,none⟩))(JA:n0=m.length)
 (hF:Fit z (cQ (Wg it b n0 seen::mapOf ek ev b m::L)) w)
 (k0:(∀i,i<m.length->i∈seen.toList)->∀a,fy Df n (lk ((d,.tuple #[.bool false])::l) j) a->wpList P ops Q rest a w)
 (k1:∀i x w a,m[i]? = some x->i∉seen.toList->Fit z (cQ (Wg it b n0 (seen.push i)::mapOf ek ev b m::L)) w->fy Df n (lk ((d,.tuple #[.bool true,.agg (ek x.1).toArray,.agg (ev x.2).toArray])::l) j) a->wpList P ops Q rest a w):wpList P ops Q (o::rest) a w:=by
 subst JA
 have hb1:(getObj it).run P w= .ok (.mapIter (some b) m.length seen m.length) w:=by simp[getObj,Sem.run,hF.block]
 have K8:(getObj b).run P w= .ok (.map (Qj ek ev m 0).toArray m.length) w:=agO (hF.pick 1).block
 have hold:∀x∈(Qj ek ev m 0).toArray.toList,x.born<m.length:=λx hx=>by
  obtain⟨p,hp,_⟩:=Yx (by simpa using hx)
  exact(List.getElem?_eq_some_iff.1 hp).1
 have adf:=next_test_false seen (Qj ek ev m 0).toArray m.length m.length hold (aea _)
 have adT:∀(w:World) o',w.heap[it]? = some (.mapIter (some b) m.length seen m.length)->(setObj it o').run P w= .ok () {w with heap:=w.heap.setIfInBounds it o' }:=λw o' h=>by simp[setObj,Sem.run,h]
 have hmem:∀x∈(Array.filter (λe => !seen.contains e.born) (Qj ek ev m 0).toArray).toList,x.born<m.length:=λx hx=>hold x (by simp at hx⊢;exact hx.1)
 have hsrc:∀x∈(Array.filter (λe => !seen.contains e.born) (Qj ek ev m 0).toArray).toList,∃p,m[x.born]? = some p/\x.born∉seen.toList/\x={key:=.agg (ek p.1).toArray,val:=.agg (ev p.2).toArray,born:=x.born}:=λx hx=>by
  simp at hx
  obtain⟨p,h1,h2⟩:=Yx hx.1
  exact⟨p,h1,by simpa using hx.2,h2⟩
 have mb:(Array.filter (λe => !seen.contains e.born) (Qj ek ev m 0).toArray).size=0->∀i,i<m.length->i∈seen.toList:=by
  intro h0 i hi
  have h1:Array.filter (λe => !seen.contains e.born) (Qj ek ev m 0).toArray=#[]:=Array.eq_empty_of_size_eq_zero h0
  rw[Array.filter_eq_empty_iff]at h1
  have h2:=h1 {key:=.agg (ek m[i].1).toArray,val:=.agg (ev m[i].2).toArray,born:=i} (by
   have:(Qj ek ev m 0)[i]? = some {key:=.agg (ek m[i].1).toArray,val:=.agg (ev m[i].2).toArray,born:=i}:=by rw[UK,List.getElem?_eq_getElem hi];simp
   simpa using List.mem_of_getElem? this)
  simpa using h2
 have hrun:∀ty,(∃i x w1,m[i]? = some x/\i∉seen.toList/\Fit z (cQ (Wg it b m.length (seen.push i)::mapOf ek ev b m::L)) w1/\(Instr.next (.pointer (some ⟨it,0,none⟩)) false ty).run P w= .ok (.tuple #[.bool true,.agg (ek x.1).toArray,.agg (ev x.2).toArray]) w1)∨
  ((∀i,i<m.length->i∈seen.toList)/\(Instr.next (.pointer (some ⟨it,0,none⟩)) false ty).run P w= .ok (.tuple #[.bool false]) w):=by
  intro ty
  simp only[Instr.next,aee,hb1,K8,aef,adf,agD,if_false]
  generalize Array.filter (λe => !seen.contains e.born) (Qj ek ev m 0).toArray=K at hmem hsrc mb⊢
  have e1:K.filter (λx=>decide (x.born<m.length))=K:=Array.filter_eq_self.2 (λx hx=>by simpa using hmem x (by simpa using hx))
  have e2:K.filter (λx=>decide (x.born>=m.length))=#[]:=by
   rw[Array.filter_eq_empty_iff]
   intro x hx
   have:=hmem x (by simpa using hx)
   simp
   omega
  simp only[e1,e2,Array.append_empty]
  by_cases h0:K.size=0
  ·right
   have h1:K=#[]:=Array.eq_empty_of_size_eq_zero h0
   refine⟨mb h0,?_⟩
   subst h1
   simp[choose,Sem.run,Question.forced]
  ·left
   have hne:K.isEmpty=false:=by simp[Array.isEmpty,h0]
   simp only[hne,agD,if_false,Array.empty_append,Array.size_map]
   have hch :∃(q:Nat) (w1:World),q<K.size/\(w1=w∨w1=w.drew)/\(choose (Question.mapNext K.size)).run P w= .ok q w1:=by
    by_cases hf:K.size<=1
    ·exact⟨0,w,by omega,.inl rfl,by simp[choose,Sem.run,Question.forced,hf]⟩
    ·exact⟨_,w.drew,Nat.mod_lt _ (by omega),.inr rfl,by
      simp only[choose,Sem.run,Question.forced,af7,hf,if_false,Question.cut]
      rfl⟩
   obtain⟨q,w1,hq,hw1,hrun⟩:=hch
   obtain⟨p,hp1,hp2,hp3⟩:=hsrc K[q] (by simp)
   have hF1:Fit z (cQ (Wg it b m.length seen::mapOf ek ev b m::L)) w1:=by
    rcases hw1 with rfl | rfl
    ·exact hF
    ·exact hF.drew
   refine⟨K[q].born,p,_,hp1,hp2,ZN (o':=.mapIter (some b) m.length (seen.push K[q].born) m.length) hF1,?_⟩
   have hkey:K[q].key= .agg (ek p.1).toArray:=by rw[hp3]
   have hval:K[q].val= .agg (ev p.2).toArray:=by rw[hp3]
   simp only[hrun,Array.getElem?_map,Array.getElem?_eq_getElem hq,afG,aee,adT w1 _ hF1.block,aef,hkey,hval]
   rfl
 refine uc hw ?_
 unfold Oper.wp
 rcases hrun o.type with ⟨i,y,w1,h1,h2,h3,h4⟩ | ⟨h1,h4⟩
 ·have h5:(execOp (po (lk l j)) o).run P w= .ok (.value (.tuple #[.bool true,.agg (ek y.1).toArray,.agg (ev y.2).toArray])) w1:=by
   unfold execOp
   simp[ho,hx,h4]
  rw[hr.eval,h5,Oper.upon_value,hd]
  exact k1 i y w1 _ h1 h2 h3 (hr.put d _ hn)
 ·have h5:(execOp (po (lk l j)) o).run P w= .ok (.value (.tuple #[.bool false])) w:=by
   unfold execOp
   simp[ho,hx,h4]
  rw[hr.eval,h5,Oper.upon_value,hd]
  exact k0 h1 _ (hr.put d _ hn)
theorem aaQ{x:Operand}{it n0 i:Nat}{seen:Array Nat}{p:α×β}(hw:Region.wanted o (yielded ops a.tmps)=true)(hd:o.dst=some d)(hn:Nat.blt d n=true)(hr:fy Df n (lk l j) a)(ho:o.op= .entry x)(hx:po (lk l j) x= .pointer (some ⟨it,0,none⟩))(JA:n0=m.length)
 (hF:Fit z (cQ (Wg it b n0 (seen.push i)::mapOf ek ev b m::L)) w) (hp:m[i]? = some p)
 (k:∀a,fy Df n (lk ((d,.tuple #[.agg (ek p.1).toArray,.agg (ev p.2).toArray])::l) j) a->wpList P ops Q rest a w):wpList P ops Q (o::rest) a w:=by
 subst JA
 have hb1:(getObj it).run P w= .ok (.mapIter (some b) m.length (seen.push i) m.length) w:=by simp[getObj,Sem.run,hF.block]
 have K8:(getObj b).run P w= .ok (.map (Qj ek ev m 0).toArray m.length) w:=agO (hF.pick 1).block
 have hf:(Qj ek ev m 0).toArray.find? (·.born==i)=some {key:=.agg (ek p.1).toArray,val:=.agg (ev p.2).toArray,born:=i}:=by
  rw[<-Array.find?_toList,agA]
  have hmem:{key:=.agg (ek p.1).toArray,val:=.agg (ev p.2).toArray,born:=i}∈Qj ek ev m 0:=List.mem_of_getElem? (i:=i) (by rw[UK,hp];simp)
  have GQ:((Qj ek ev m 0).map (·.born)).Nodup:=by
   have e:(Qj ek ev m 0).map (·.born)=List.range m.length:=by
    apply afS
    intro k
    rw[List.getElem?_map,UK]
    by_cases c:k<m.length
    ·simp[List.getElem?_eq_getElem c,List.getElem?_range c]
    ·rw[List.getElem?_eq_none (by omega),List.getElem?_eq_none (by simpa using c)];rfl
   rw[e];exact List.nodup_range
  exact find_born _ _ GQ hmem
 refine Qg hw hd hn hr (w1:=w) ?_ k
 unfold execOp
 have h:(Instr.entry (.pointer (some ⟨it,0,none⟩))).run P w= .ok (.tuple #[.agg (ek p.1).toArray,.agg (ev p.2).toArray]) w:=by
  simp only[Instr.entry,aee,hb1,K8,aef,Array.back?_push,bne_self_eq_false,agD,if_false,hf]
  rfl
 simp[ho,hx,h]
end
open Go Go.RowKit SL Go.MuLone Go.Conc.Locks
section
variable {P:Program}{ops:Array Oper}{Q:Exit->Act->World->Prop}{a:Act}{w w0 w1 z:World}{rest:List Oper}{o:Oper}{n d t:Nat}{v r u:Value}{l:List (Nat×Value)}{j e:Nat->Value}{L:List M5}{Df:List Deferred}{f:FuncId}{args:Array Value}
theorem aaR{q:Deferred}(hw:Region.wanted o (yielded ops a.tmps)=true)(hd:o.dst=none)(hr:fy Df n (lk l j) a)(hrun:(execOp (po (lk l j)) o).run P w= .ok (.defer q) w)
 (k:∀a,fy (q::Df) n (lk l j) a->wpList P ops Q rest a w):wpList P ops Q (o::rest) a w:=by
 refine uc hw ?_
 unfold Oper.wp
 rw[hr.eval,hrun,Oper.upon_defer,hd]
 exact k _ ⟨hr.size,hr.get,by show _::a.defers=_;rw[hr.defers]⟩
theorem acr{fn:Func}{c:Code}{R:Ending->World->Prop}(hf:P.funcs[f]? = some fn)(hb:fn.body=some c)(n:Nat)(hn:fn.ntmps=n)(hs:Nat.ble args.size n=true)
 (l:List (Nat×Value)) (hl:allEq (λt=>args.getD t undef) l) (k:∀j a,Gk n (lk l j) a->c.wp P (bodyPostD P fn R) a w):Calls P f args w R:=by
 refine calls_of_wp_defers hf hb (k (λt=>args.getD t undef) _ ?_)
 rw[lX hl]
 refine⟨?_,λt=>wj args _ t,rfl⟩
 have:=aei hs
 simp[hn]
 omega
end
open Go Go.RowKit SL
section
variable {P:Program}{w w0 w1 z:World}{a:Act}{o:Oper}{n d:Nat}{l:List (Nat×Value)}{j:Nat->Value}{L:List M5}{f:FuncId}{args:Array Value}{Q:Exit->Act->List Frame->World->Prop}{cs cs':List Frame}{Df:List Deferred}
theorem aaS{fn:Func}{c:Code}{u:FrameMode}{R:Ending->FrameMode->World->Prop}(hf:P.funcs[f]? = some fn)(hb:fn.body=some c)(n:Nat)(hn:fn.ntmps=n)(hs:Nat.ble args.size n=true)
 (l:List (Nat×Value)) (hl:allEq (λt=>args.getD t undef) l) (k:∀(c0:Frame) (cs:List Frame) j a,c0.mode=u->Gk n (lk l j) a->c.wpS P (bodyPostS P fn c0 cs R) a (c0::cs) w):CallsD P f args u w R:=by
 refine callsD_of_wpS hf hb λc0 cs hu=>k c0 cs (λt=>args.getD t undef) _ hu ?_
 rw[lX hl]
 refine⟨?_,λt=>wj args _ t,rfl⟩
 have:=aei hs
 simp[hn]
 omega
theorem Yy(hg:o.guard=none)(y:Nat->Option Bool):Region.wanted o y=true:=by simp[Region.wanted,hg]
theorem acf{J9:Nat}{y:Code}{v:Value}(hr:fy Df n (lk l j) a)(hv:recoverD cs=some (v,cs')∨recoverD cs=none/\v= .nilIface/\cs'=cs)(k:∀a,fy Df n (lk ((d,v)::l) j) a->y.wpS P Q a cs' w)
 (hg:o.guard=none) (hd:o.dst=some d) (hn:Nat.blt d n=true) (hrun:(execOp (po (lk l j)) o).run P w= .ok .recover w):(Code.seq (.region J9 #[o] false) y).wpS P Q a cs w:=by
 refine wpS_seq (wpS_region ?_)
 have e:(List.range (#[o]:Array Oper).size)=[0]:=rfl
 rw[e]
 simp only[wpOpsS,List.getElem?_toArray,List.getElem?_cons_zero]
 rw[Yy hg,au rfl,hr.eval,hrun]
 simp only
 rcases hv with h | ⟨h,rfl,rfl⟩
 ·rw[h]
  simp only
  rw[hd]
  exact k _ (hr.put d v hn)
 ·rw[h]
  simp only
  rw[hd]
  exact k _ (hr.put d _ hn)
end
theorem abI{z w:World}{L:List M5}{b:Nat}{x y k x0 y0 k0:Int}(h:Fit z (cQ (pts b (.cells #[vI x0,vI y0,vI k0] 95)::L)) w) :
 CallsD Tryz.prog 113 #[.pointer (some ⟨b,0,none⟩)] (.panicking [{v:=.iface 194 (.agg #[vI x,vI y,vI k]),recovered:=false}]) w λe u' w'=>e= .returned (.tuple #[])/\u'= .panicking [{v:=.iface 194 (.agg #[vI x,vI y,vI k]),recovered:=true}]/\Fit z (cQ (pts b (.cells #[vI x,vI y,vI k] 95)::L)) w':=by
 refine aaS Tryz.func113 rfl 12 rfl rfl [(0,pA b 0)] ⟨rfl,CH⟩ ?_
 intro c0 cs j a hm hr
 refine acf (v:=.iface 194 (.agg #[vI x,vI y,vI k])) (cs':={c0 with mode:=.panicking [{v:=.iface 194 (.agg #[vI x,vI y,vI k]),recovered:=true}]}::cs) hr (.inl (by simp[recoverD,hm])) ?_ rfl rfl rfl (by kernel_rfl)
 clear hr a;intro a hr
 refine wpS_of_wp ?_
 refine wp_block ?_
 refine sr ?_
 refine o1 hr (vB false) λa hr => ?_
 refine ln ?_
 refine O3 hr (b:=false) rfl ?_
 refine sr ?_
 refine oo [7,8,9] [.tuple #[.agg #[vI x,vI y,vI k],vB true],vB true,.agg #[vI x,vI y,vI k]] hr λa hr => ?_
 refine ln ?_
 refine Oh hr (b:=true) rfl ?_
 refine sr ?_
 refine acq (wn rfl) hr h nb (#[vI 0,vI 0,vI 0]) 194 λb2 w a h hr => ?_
 refine stm (wn rfl) hr h 0 ([vI x,vI y,vI k]) (pts b2 (.cells #[vI x,vI y,vI k] 194)) λw h => ?_
 refine ln ?_
 refine wp_region_lit ?_
 refine o1 hr (pA b2 0) λa hr => ?_
 refine RI (wn rfl) hr (.agg #[vI x,vI y,vI k]) (cs:=[vI x,vI y,vI k]) (h.held 0 rfl) λa hr => ?_
 replace h:=h.m1
 refine stm (wn rfl) hr h 0 ([vI x,vI y,vI k]) (pts b (.cells #[vI x,vI y,vI k] 95)) λw h => ?_
 refine wpList_nil ?_
 refine V6 ?_
 exact⟨hr.defers,_,rfl,_,results_none rfl _ _ _,rfl,rfl,h.se 2 [0]⟩
theorem abJ{w:World}{b:Nat} :
 CallsD Tryz.prog 113 #[.pointer (some ⟨b,0,none⟩)] .returning w λe u' w'=>e= .returned (.tuple #[])/\u'= .returning/\w'=w:=by
 refine aaS Tryz.func113 rfl 12 rfl rfl [(0,pA b 0)] ⟨rfl,CH⟩ ?_
 intro c0 cs j a hm hr
 refine acf (v:=.nilIface) (cs':=c0::cs) hr (.inr ⟨by simp[recoverD,hm],rfl,rfl⟩) ?_ rfl rfl rfl (by kernel_rfl)
 clear hr a;intro a hr
 refine wpS_of_wp ?_
 refine wp_block ?_
 refine sr ?_
 refine o1 hr (vB true) λa hr => ?_
 refine ln ?_
 refine Oh hr (b:=true) rfl ?_
 refine wp_region_lit ?_
 refine o1 hr (.nilIface) λa hr => ?_
 refine wpList_nil ?_
 refine V6 ?_
 refine⟨hr.defers,c0.mode,rfl,_,results_none rfl _ _ _,rfl,hm,rfl⟩
section
variable {P:Program}{w z:World}{a:Act}{n:Nat}{e:Nat->Value}{Df:List Deferred}{L:List M5}
theorem adg{fn:Func}{t T b off:Nat}{cs:List Value}(hres:fn.results=#[.cell t T])(hr:fy Df n e a)(hv:e t= .pointer (some ⟨b,off,none⟩))(hu:Rs (P.underlying T)=true)
 (hs:(P.info? T).map (·.size)=some cs.length) (hc:lI w b off cs):(results fn a.tmps).run P w= .ok (.agg cs.toArray) w:=by
 have hl:=run_loadCells_list (P:=P) w ⟨b,off,none⟩ cs (RC hc)
 cases hi:P.info? T with
 | none=>simp[hi]at hs
 | some q =>
  simp[hi]at hs
  have hg:=hr.get t
  rw[hv,afO]at hg
  simp[results,hres,hg,asAddr,loadVar,Rf hu,sizeOf,typeInfo,hi,hs,hl]
abbrev Yz(b:Nat):Deferred:={target:=.fn (.func 113) #[.pointer (some ⟨b,0,none⟩)],args:=#[]}
theorem ZO{b:Nat}{w:World}:(invoke (.fn (.func 113) #[.pointer (some ⟨b,0,none⟩)]) #[]).run Tryz.prog w= .ok (.enter 113 #[.pointer (some ⟨b,0,none⟩)]) w:=by kernel_rfl
theorem SU{fn:Func}{R:Ending->World->Prop}{b t:Nat}{x y k:Int}(hr:fy [Yz b] n e a)(hres:fn.results=#[.cell t 95])(hv:e t= .pointer (some ⟨b,0,none⟩))(h:Fit z (cQ (pts b (.cells #[vI x,vI y,vI k] 95)::L)) w)
 (K:R (.returned (.agg #[vI x,vI y,vI k])) w):bodyPostD Tryz.prog fn R .ret a w:=by
 show Leaves Tryz.prog fn a.tmps R a.defers .returning w
 rw[hr.defers]
 refine leaves_cons (by simp) ZO ?_
 refine abJ.mono ?_
 rintro e u' w' ⟨rfl,rfl,rfl⟩
 exact⟨_,adg hres hr hv (by kernel_rfl) (by kernel_rfl) (h.held 0 (xs:=[vI x,vI y,vI k]) rfl),K⟩
theorem Wh{fn:Func}{R:Ending->World->Prop}{b t:Nat}{x y k x0 y0 k0:Int}(hr:fy [Yz b] n e a)(hres:fn.results=#[.cell t 95])(hv:e t= .pointer (some ⟨b,0,none⟩))(h:Fit z (cQ (pts b (.cells #[vI x0,vI y0,vI k0] 95)::L)) w)
 (K:∀w,Fit z (cQ (pts b (.cells #[vI x,vI y,vI k] 95)::L)) w->R (.returned (.agg #[vI x,vI y,vI k])) w):bodyPostD Tryz.prog fn R (.panic [{v:=.iface 194 (.agg #[vI x,vI y,vI k]),recovered:=false}]) a w:=by
 show Leaves Tryz.prog fn a.tmps R a.defers (.panicking [{v:=.iface 194 (.agg #[vI x,vI y,vI k]),recovered:=false}]) w
 rw[hr.defers]
 refine leaves_cons (by simp) ZO ?_
 refine(abI h).mono ?_
 rintro e u' w' ⟨rfl,rfl,h⟩
 exact⟨_,adg hres hr hv (by kernel_rfl) (by kernel_rfl) (h.held 0 (xs:=[vI x,vI y,vI k]) rfl),K _ h⟩
end
def dn(o:Oper):Nat:=o.dst.getD 0
def zP(o:Oper)(n:Nat):Bool:=match o.dst with | some d=>o.guard.isNone&&Nat.blt d n | none=>false
def okg(o:Oper)(n:Nat):Bool:=match o.dst with | some d=>Nat.blt d n | none=>false
theorem ZP{o:Oper}{n:Nat}(h:okg o n=true):o.dst=some (dn o)/\Nat.blt (dn o) n=true:=by
 unfold okg at h;unfold dn
 cases hd:o.dst with
 | none=>rw[hd]at h;cases h
 | some d=>rw[hd]at h;exact⟨rfl,h⟩
theorem iI{o:Oper}{n:Nat}(h:zP o n=true):(o.dst=some (dn o)/\Nat.blt (dn o) n=true)/\o.guard=none:=by
 unfold zP at h;unfold dn
 cases hd:o.dst with
 | none=>rw[hd]at h;cases h
 | some d =>
  rw[hd]at h;simp only[aec]at h
  refine⟨⟨rfl,h.2⟩,?_⟩
  cases hg:o.guard with
  | none=>rfl
  | some g=>rw[hg]at h;simp at h
def abK:Nat->List Value->List (Nat×Value)
 | _,[]=>[]
 | k,v::vs=>(k,v)::abK (k+1) vs
theorem ZQ(f:Nat->Value):∀(vs:List Value) (k:Nat),(∀i,i<vs.length->f (k+i)=vs.getD i undef)->allEq f (abK k vs)
 | [],_,_=>trivial
 | v::vs,k,h=>⟨by have:=h 0 (by simp);simpa using this,ZQ f vs (k+1) λi hi=>by
  have:=h (i+1) (by simpa using hi)
  rw[show k+(i+1)=k+1+i by omega]at this
  simpa using this⟩
section
variable {P:Program}{ops:Array Oper}{Q:Exit->Act->World->Prop}{a:Act}{w w0 w1:World}{rest:List Oper}{o:Oper}{n d t T:Nat}{v u:Value}{l:List (Nat×Value)}{j e:Nat->Value}{L:List M5}{Df:List Deferred}
theorem qe{f:FuncId}{fn:Func}{c:Code}{args:Array Value}{R:Ending->World->Prop}(hf:P.funcs[f]? = some fn)(n:Nat)(hb:fn.body=some c)
 (k:∀j a,Gk n (lk (abK 0 args.toList) j) a->c.wp P (bodyPost P fn R) a w) (hn:fn.ntmps=n:=by rfl) (hs:Nat.ble args.size n=true:=by rfl):Calls P f args w R:=
 enter hf hb n hn hs _ (ZQ _ _ 0 λi hi=>by simp[afO,List.getD_eq_getElem?_getD]) k
theorem qo(hr:fy Df n (lk l j) a)(v:Value)(k:∀a,fy Df n (lk ((dn o,v)::l) j) a->wpList P ops Q rest a w)(ho:zP o n=true:=by rfl)(hrun:(execOp (po (lk l j)) o).run P w= .ok (.value v) w:=by kernel_rfl):wpList P ops Q (o::rest) a w:=
 wh (wn (iI ho).2) (iI ho).1.1 (iI ho).1.2 hr hrun k
theorem qp(hr:fy Df n (lk l j) a)(v:Value)(hrun:(execOp (po (lk l j)) o).run P w= .ok (.value v) w)(k:∀a,fy Df n (lk ((dn o,v)::l) j) a->wpList P ops Q rest a w)(ho:zP o n=true:=by rfl):wpList P ops Q (o::rest) a w:=
 wh (wn (iI ho).2) (iI ho).1.1 (iI ho).1.2 hr hrun k
theorem qpg(hw:Region.wanted o (yielded ops a.tmps)=true)(hr:fy Df n (lk l j) a)(v:Value)(hrun:(execOp (po (lk l j)) o).run P w= .ok (.value v) w)(k:∀a,fy Df n (lk ((dn o,v)::l) j) a->wpList P ops Q rest a w)(ho:okg o n=true:=by rfl):wpList P ops Q (o::rest) a w:=
 wh hw (ZP ho).1 (ZP ho).2 hr hrun k
theorem qT{b:Bool}{c x y:Operand}(hb:b=true)(hr:fy Df n (lk l j) a)(v:Value)(k:∀a,fy Df n (lk ((dn o,v)::l) j) a->wpList P ops Q rest a w)(ho:zP o n=true:=by rfl)(h1:o.op= .pick c x y:=by rfl)(h2:po (lk l j) c= .bool b:=by kernel_rfl)(h3:po (lk l j) x=v:=by kernel_rfl):wpList P ops Q (o::rest) a w:=
 qp hr v (W5 h1 h2 hb h3) k ho
theorem qF{b:Bool}{c x y:Operand}(hb:b=false)(hr:fy Df n (lk l j) a)(v:Value)(k:∀a,fy Df n (lk ((dn o,v)::l) j) a->wpList P ops Q rest a w)(ho:zP o n=true:=by rfl)(h1:o.op= .pick c x y:=by rfl)(h2:po (lk l j) c= .bool b:=by kernel_rfl)(h3:po (lk l j) y=v:=by kernel_rfl):wpList P ops Q (o::rest) a w:=
 qp hr v (XH h1 h2 hb h3) k ho
theorem getD_some{cs:Array Value}{i:Nat}(h:Nat.blt i cs.size=true):cs[i]? = some (cs.getD i undef):=by
 have h':i<cs.size:=aei h
 simp[afO,h']
theorem qL{b:Nat}{cs:Array Value}{T':TypeId}{q:Nat×Nat}{x:Operand}(hr:fy Df n (lk l j) a)(hF:Fit w0 (cQ (pts b (.cells cs T' q)::L)) w)(i:Nat)(k:∀a,fy Df n (lk ((dn o,cs.getD i undef)::l) j) a->wpList P ops Q rest a w)
 (h1:zP o n=true:=by rfl) (hi:Nat.blt i cs.size=true:=by rfl) (ho:o.op= .load T x:=by rfl) (hx:po (lk l j) x= .pointer (some ⟨b,i,none⟩):=by kernel_rfl) (hu:SR (P.underlying T)=true:=by kernel_rfl):wpList P ops Q (o::rest) a w:=
 qp hr _ (rl ho hx hu (hF.cell i (getD_some hi))) k h1
theorem qLg{b:Nat}{cs:Array Value}{T':TypeId}{q:Nat×Nat}{x:Operand}(hw:Region.wanted o (yielded ops a.tmps)=true)(hr:fy Df n (lk l j) a)(hF:Fit w0 (cQ (pts b (.cells cs T' q)::L)) w)(i:Nat)(k:∀a,fy Df n (lk ((dn o,cs.getD i undef)::l) j) a->wpList P ops Q rest a w)
 (h1:okg o n=true:=by rfl) (hi:Nat.blt i cs.size=true:=by rfl) (ho:o.op= .load T x:=by rfl) (hx:po (lk l j) x= .pointer (some ⟨b,i,none⟩):=by kernel_rfl) (hu:SR (P.underlying T)=true:=by kernel_rfl):wpList P ops Q (o::rest) a w:=
 qpg hw hr _ (rl ho hx hu (hF.cell i (getD_some hi))) k h1
theorem YA{cs:Array Value}:(cs.toList.drop 0).take cs.toList.length=cs.toList:=by rw[afM];exact List.take_length
theorem qM{b:Nat}{cs:Array Value}{T':TypeId}{q:Nat×Nat}{x:Operand}(hr:fy Df n (lk l j) a)(hF:Fit w0 (cQ (pts b (.cells cs T' q)::L)) w)(k:∀a,fy Df n (lk ((dn o,.agg cs)::l) j) a->wpList P ops Q rest a w)
 (h1:zP o n=true:=by rfl) (ho:o.op= .load T x:=by rfl) (hx:po (lk l j) x= .pointer (some ⟨b,0,none⟩):=by kernel_rfl) (hu:Rs (P.underlying T)=true:=by kernel_rfl) (hs:(P.info? T).map (·.size)=some cs.size:=by kernel_rfl):wpList P ops Q (o::rest) a w:=
 qp hr _ (by have:=rlm (P:=P) (o:=o) (e:=lk l j) ho hx hu (by rw[afB];exact hs) (hF.held 0 YA);simpa using this) k h1
theorem qN(hr:fy Df n (lk l j) a)(hF:Fit w0 (cQ L) w)(cs:Array Value)(T:TypeId)
 (k:∀b w1 a,Fit w0 (cQ (pts b (.cells cs T)::L)) w1->fy Df n (lk ((dn o,pA b 0)::l) j) a->wpList P ops Q rest a w1) (h1:zP o n=true:=by rfl) (hrun:(execOp (po (lk l j)) o).run P w= .ok (.value (pA w.heap.size 0)) (w.alloc (.cells cs T)):=by kernel_rfl):wpList P ops Q (o::rest) a w:=
 Y8 (vf:=λb=>pA b 0) (wn (iI h1).2) (iI h1).1.1 (iI h1).1.2 hr hF hrun k
theorem qV(hr:fy Df n (lk l j) a)(hF:Fit w0 (cQ L) w)(cs:Array Value)(T:TypeId)
 (k:∀b w1 a,Fit w0 (cQ (pts b (.cells cs T)::L)) w1->fy Df n (lk ((dn o,.slice (some ⟨b,0,none⟩) 1 1)::l) j) a->wpList P ops Q rest a w1) (h1:zP o n=true:=by rfl) (hrun:(execOp (po (lk l j)) o).run P w= .ok (.value (.slice (some ⟨w.heap.size,0,none⟩) 1 1)) (w.alloc (.cells cs T)):=by kernel_rfl):wpList P ops Q (o::rest) a w:=
 Y8 (vf:=λb=>.slice (some ⟨b,0,none⟩) 1 1) (wn (iI h1).2) (iI h1).1.1 (iI h1).1.2 hr hF hrun k
theorem qS{x y:Operand}{b:Nat}{cs:Array Value}{T':TypeId}(hr:fy Df n (lk l j) a)(hF:Fit w0 (cQ (pts b (.cells cs T')::L)) w)(i:Nat)(A:M5)
 (k:∀w1,Fit w0 (cQ (A::L)) w1->wpList P ops Q rest a w1) (hg:o.guard=none:=by rfl) (hd:o.dst=none:=by rfl) (ho:o.op= .store T x y:=by rfl) (hx:po (lk l j) x= .pointer (some ⟨b,i,none⟩):=by kernel_rfl)
 (hv:(po (lk l j) y).cells=#[po (lk l j) y]:=by kernel_rfl) (h1:(po (lk l j) y).oneCell'=true:=by kernel_rfl) (hs:(P.info? T).map (·.size)=some 1:=by kernel_rfl) (hc:(cs[i]?).isSome=true:=by kernel_rfl) (hA:pts b (.cells (cs.setIfInBounds i (po (lk l j) y)) T')=A:=by kernel_rfl):wpList P ops Q (o::rest) a w:=
 st1 (wn hg) hr hF i _ A k hd ho hx rfl hv h1 hs hc hA
theorem qA{x y:Operand}{b:Nat}{cs cs':Array Value}{T':TypeId}(hr:fy Df n (lk l j) a)(hF:Fit w0 (cQ (pts b (.cells cs T')::L)) w)(A:M5)
 (k:∀w1,Fit w0 (cQ (A::L)) w1->wpList P ops Q rest a w1) (hA:pts b (.cells cs' T')=A:=by rfl) (hg:o.guard=none:=by rfl) (hd:o.dst=none:=by rfl) (ho:o.op= .store T x y:=by rfl) (hx:po (lk l j) x= .pointer (some ⟨b,0,none⟩):=by kernel_rfl) (hy:po (lk l j) y= .agg cs':=by kernel_rfl)
 (h1:cs'.toList.all (·.oneCell')=true:=by rfl) (h2:cs'.size=cs.size:=by rfl) (hs:(P.info? T).map (·.size)=some cs'.size:=by kernel_rfl):wpList P ops Q (o::rest) a w:=by
 refine stm (wn hg) hr hF 0 cs'.toList A k hd ho hx (by simpa using hy) h1 (by simp[h2]) (by simpa using hs) ?_
 subst hA
 have:cs.toList.drop (0+cs'.toList.length)=[]:=by simp[h2]
 rw[this];simp
theorem qi{x y:Operand}{i:Int}{α:Type}{E:TypeId}{sz m cc:Nat}{enc:α->List Value}{xs:List α}{ca:Option Addr}(hr:fy Df n (lk l j) a)(hF:Fit w0 (cQ (rowOf E sz enc (.slice ca m cc) xs::L)) w)(hi:aZ i xs.length)
 (k:∀a,fy Df n (lk ((dn o,pA (Cp ca) (i.toNat*sz))::l) j) a->wpList P ops Q rest a w) (h1:zP o n=true:=by rfl) (ho:o.op= .indexAddr t x y:=by rfl) (hx:po (lk l j) x= .slice ca m cc:=by kernel_rfl) (hy:po (lk l j) y= .int .i64 i:=by kernel_rfl)
 (ht:P.underlying t=some (.slice E):=by kernel_rfl) (hs:(P.info? E).map (·.size)=some sz:=by kernel_rfl):wpList P ops Q (o::rest) a w:=qp hr _ (OD ho hx hy ht hs hF hi) k h1
theorem qj{x y:Operand}{i:Int}{α:Type}[Inhabited α]{sz:Nat}{enc:α->List Value}{xs:List α}{va:Option Addr}{L:List M5}(E:TypeId)(cc:Nat)(hr:fy Df n (lk l j) a)(hF:jJ L sz enc va xs)(hi:aZ i xs.length)
 (k:∀a,fy Df n (lk ((dn o,pA (Cp va) (sJ va+i.toNat*sz))::l) j) a->wpList P ops Q rest a w) (h1:zP o n=true:=by rfl) (ho:o.op= .indexAddr t x y:=by rfl) (hx:po (lk l j) x= .slice va xs.length cc:=by kernel_rfl) (hy:po (lk l j) y= .int .i64 i:=by kernel_rfl)
 (ht:P.underlying t=some (.slice E):=by kernel_rfl) (hs:(P.info? E).map (·.size)=some sz:=by kernel_rfl):wpList P ops Q (o::rest) a w:=qp hr _ (Sy ho hx hy rfl ht hs hF hi) k h1
section
variable {fn:Func}{R:Ending->World->Prop}
theorem qC{t T b:Nat}{cs:Array Value}{T':TypeId}{q:Nat×Nat}(hr:Gk n e a)(hF:Fit w0 (cQ (pts b (.cells cs T' q)::L)) w)(h:R (.returned (.agg cs)) w)(hres:fn.results=#[.cell t T]:=by rfl)(hv:e t= .pointer (some ⟨b,0,none⟩):=by kernel_rfl)(hu:Rs (P.underlying T)=true:=by kernel_rfl)
 (hs:(P.info? T).map (·.size)=some cs.size:=by kernel_rfl):bodyPost P fn R .ret a w:=
 aau (cs:=cs.toList) hres hr hv hu (by simpa using hs) (hF.held 0 YA) (by simpa using h)
theorem qn(hr:Gk n e a)(h:R (.returned (.tuple #[])) w)(hres:fn.results=#[]:=by rfl):bodyPost P fn R .normal a w:=ve hres hr h
end
end
theorem nT{b:Bool}(h:b=true):(!b)=false:=by rw[h];rfl
theorem nF{b:Bool}(h:¬b=true):(!b)=true:=by cases b<;>first | rfl | exact absurd rfl h
theorem dT{p:Prop}[Decidable p](h:p):decide p=true:=afC h
theorem dF{p:Prop}[Decidable p](h:¬p):decide p=false:=agE h
theorem bN{α:Type}[DecidableEq α]{a b:α}(h:¬a=b):(a==b)=false:=beq_eq_false_iff_ne.mpr h
section
variable {G:Prop}
theorem qh{A:Prop}(x:A)(k:A->G):G:=k x
theorem qg{γ:Type}{p:Prop}[Decidable p]{x:Option γ}{r:γ}(h:(if p then x else none)=some r)(k:p->x=some r->G):G:=k (gd h).1 (gd h).2
theorem qI{γ:Type}{p:Prop}[Decidable p]{x y:Option γ}{r:γ}(h:(if p then x else y)=some r)(k1:p->x=some r->G)(k2:¬p->y=some r->G):G:=by
 by_cases c:p
 ·exact k1 c (ifT c h)
 ·exact k2 c (ifF c h)
theorem qb0{γ:Type}{o:Option (Unit)}{f:Option γ}{r:γ}(h:wo o f=some r)(k:o=some ()->f=some r->G):G:=by
 obtain⟨e,h⟩:=bd0 h;exact k e h
theorem qd0{γ:Type}{o:Option (Unit)}{f:Option γ}{r:γ}(h:wo o f=some r)(k:∀o',o=some o'->kc0 o' f r->G):G:=by
 obtain⟨_,e,h⟩:=kd0 h;exact k _ e h
theorem Oj{bO:Type}{γ:Type}{o:Option (bO)}{f:bO->Option γ}{r:γ}(h:bH o f=some r)(k:∀x0,o=some x0->f x0=some r->G):G:=by
 obtain⟨x0,e,h⟩:=bd1 h;exact k _ e h
theorem VA{bO:Type}{γ:Type}{o:Option (bO)}{f:bO->Option γ}{r:γ}(h:bH o f=some r)(k:∀o',o=some o'->Gl o' f r->G):G:=by
 obtain⟨_,e,h⟩:=kd1 h;exact k _ e h
theorem RD{bO bW:Type}{γ:Type}{o:Option (bO×bW)}{f:bO->bW->Option γ}{r:γ}(h:iQ o f=some r)(k:∀x0 x1,o=some (x0,x1)->f x0 x1=some r->G):G:=by
 obtain⟨x0,x1,e,h⟩:=bd2 h;exact k _ _ e h
theorem qd2{bO bW:Type}{γ:Type}{o:Option (bO×bW)}{f:bO->bW->Option γ}{r:γ}(h:iQ o f=some r)(k:∀o',o=some o'->Gm o' f r->G):G:=by
 obtain⟨_,e,h⟩:=kd2 h;exact k _ e h
theorem QW{bO bW ck:Type}{γ:Type}{o:Option (bO×bW×ck)}{f:bO->bW->ck->Option γ}{r:γ}(h:gh o f=some r)(k:∀x0 x1 x2,o=some (x0,x1,x2)->f x0 x1 x2=some r->G):G:=by
 obtain⟨x0,x1,x2,e,h⟩:=bd3 h;exact k _ _ _ e h
theorem qd3{bO bW ck:Type}{γ:Type}{o:Option (bO×bW×ck)}{f:bO->bW->ck->Option γ}{r:γ}(h:gh o f=some r)(k:∀o',o=some o'->Gp o' f r->G):G:=by
 obtain⟨_,e,h⟩:=kd3 h;exact k _ e h
theorem Ze{bO bW ck cE:Type}{γ:Type}{o:Option (bO×bW×ck×cE)}{f:bO->bW->ck->cE->Option γ}{r:γ}(h:pQ o f=some r)(k:∀x0 x1 x2 x3,o=some (x0,x1,x2,x3)->f x0 x1 x2 x3=some r->G):G:=by
 obtain⟨x0,x1,x2,x3,e,h⟩:=bd4 h;exact k _ _ _ _ e h
theorem qb5{bO bW ck cE cR:Type}{γ:Type}{o:Option (bO×bW×ck×cE×cR)}{f:bO->bW->ck->cE->cR->Option γ}{r:γ}(h:Gs o f=some r)(k:∀x0 x1 x2 x3 x4,o=some (x0,x1,x2,x3,x4)->f x0 x1 x2 x3 x4=some r->G):G:=by
 obtain⟨x0,x1,x2,x3,x4,e,h⟩:=bd5 h;exact k _ _ _ _ _ e h
end
abbrev KK(D:List Deferred)(n:Nat)(l:List (Nat×Value))(j:Nat->Value)(X:Act->World->Prop)(w:World):Prop:=∀a,fy D n (lk l j) a->X a w
abbrev U:Value:=.complex .f32 0 0
def Di(v x:Value):Value:=match v with | .complex _ _ _=>x | v=>v
def av(P:Program)(o:Oper)(e:Nat->Value):Value:=match (execOp (po e) o).run P default with | .ok (.value v) _=>v | _=>U
def Jc(P:Program)(j:Nat->Value):List Oper->List Value->List (Nat×Value)->List (Nat×Value)
 | o::os,v::vs,l=>Jc P j os vs ((dn o,Di v (av P o (lk l j)))::l)
 | _,_,l=>l
def FH(P:Program)(n:Nat)(j:Nat->Value)(w:World):List Oper->List Value->List (Nat×Value)->List (Bool×Result Next)
 | o::os,v::vs,l=>(zP o n,(execOp (po (lk l j)) o).run P w)::FH P n j w os vs ((dn o,Di v (av P o (lk l j)))::l)
 | [],_::_,_=>[(false,.ok .skip w)]
 | _,[],_=>[]
def FJ(P:Program)(j:Nat->Value)(w:World):List Oper->List Value->List (Nat×Value)->List (Bool×Result Next)
 | o::os,v::vs,l=>(true,.ok (.value (Di v (av P o (lk l j)))) w)::FJ P j w os vs ((dn o,Di v (av P o (lk l j)))::l)
 | [],_::_,_=>[(true,.ok .skip w)]
 | _,[],_=>[]
def gx(ops:Array Oper)(n:Nat)(e:Nat->Value)(o:Oper):Option (Bool×Option (Bool×Value)):=o.guard.map (λg=>(g.2,((ops[g.1]?).bind (·.dst)).map λt=>(Nat.blt t n,e t)))
section
variable {P:Program}{ops:Array Oper}{Q:Exit->Act->World->Prop}{a:Act}{w w0 w1:World}{rest:List Oper}{o:Oper}{n d t T:Nat}{v u:Value}{l:List (Nat×Value)}{j e:Nat->Value}{L:List M5}{Df:List Deferred}{X:Act->World->Prop}
theorem qq(hr:fy Df n (lk l j) a)(k:KK Df n l j X w):X a w:=k a hr
theorem kwg{x c:Bool}(hr:fy Df n (lk l j) a)(pf:x=c)(hg:gx ops n (lk l j) o=some (c,some (true,.bool x))):Region.wanted o (yielded ops a.tmps)=true:=by
 rw[wgx (i:=0) hr pf hg];cases c<;>rfl
theorem ke{f:FuncId}{fn:Func}{c:Code}{args:Array Value}{R:Ending->World->Prop}(hf:P.funcs[f]? = some fn)(n:Nat)(hb:fn.body=some c)
 (k:∀j,KK [] n (abK 0 args.toList) j (c.wp P (bodyPost P fn R)) w) (hn:fn.ntmps=n:=by rfl) (hs:Nat.ble args.size n=true:=by rfl):Calls P f args w R:=qe hf n hb (λj a r=>k j a r) hn hs
theorem ks{J9:Nat}{y:Code}{os:List Oper}(h:KK Df n l j (wpList P os.toArray (Exit.then (y.wp P Q) Q) os) w):KK Df n l j ((Code.seq (.region J9 os.toArray false) y).wp P Q) w:=λa r=>sr (h a r)
theorem kn{K:Act->World->Prop}(h:KK Df n l j K w):KK Df n l j (wpList P ops (Exit.then K Q) []) w:=λa r=>ln (h a r)
theorem wq{x y:Code}(h:KK Df n l j (x.wp P (Exit.then (y.wp P Q) Q)) w):KK Df n l j ((Code.seq x y).wp P Q) w:=λa r=>wp_seq (h a r)
theorem wl{J9:Nat}{os:List Oper}(h:KK Df n l j (wpList P os.toArray Q os) w):KK Df n l j ((Code.region J9 os.toArray false).wp P Q) w:=λa r=>wp_region_lit (h a r)
theorem wk(h:KK Df n l j (Q .normal) w):KK Df n l j (Code.skip.wp P Q) w:=λa r=>wp_skip (h a r)
theorem wr(h:KK Df n l j (Q .ret) w):KK Df n l j (Code.ret.wp P Q) w:=λa r=>wp_ret (h a r)
theorem wx{i:Nat}(h:KK Df n l j (Q (.exit i)) w):KK Df n l j ((Code.exit i).wp P Q) w:=λa r=>wp_exit (h a r)
theorem wb{i:Nat}{c:Code}(h:KK Df n l j (c.wp P (Exit.inBlock i Q)) w):KK Df n l j ((Code.block i c).wp P Q) w:=λa r=>wp_block (h a r)
theorem tn{K:Act->World->Prop}(h:KK Df n l j K w):KK Df n l j (Exit.then K Q .normal) w:=h
theorem tr{K:Act->World->Prop}(h:KK Df n l j (Q .ret) w):KK Df n l j (Exit.then K Q .ret) w:=h
theorem te{K:Act->World->Prop}{i:Nat}(h:KK Df n l j (Q (.exit i)) w):KK Df n l j (Exit.then K Q (.exit i)) w:=h
theorem bn{i:Nat}(h:KK Df n l j (Q .normal) w):KK Df n l j (Exit.inBlock i Q .normal) w:=h
theorem br{i:Nat}(h:KK Df n l j (Q .ret) w):KK Df n l j (Exit.inBlock i Q .ret) w:=h
theorem bh{i:Nat}(h:KK Df n l j (Q .normal) w):KK Df n l j (Exit.inBlock i Q (.exit i)) w:=λa r=>aat (h a r)
theorem kl(h:KK Df n l j (Q .normal) w):KK Df n l j (wpList P ops Q []) w:=λa r=>wpList_nil (h a r)
theorem ko:∀(vs:List Value) {os:List Oper} {l:List (Nat×Value)} (k:KK Df n (Jc P j os vs l) j (wpList P ops Q (os.drop vs.length)) w) (hrun:FH P n j w os vs l=FJ P j w os vs l:=by kernel_rfl),KK Df n l j (wpList P ops Q os) w
 | [],os,l,k,_=>by cases os<;>exact k
 | v::vs,[],l,k,hrun=>by simp[FH,FJ]at hrun
 | v::vs,o::os,l,k,hrun=>by
  simp only[FH,FJ,List.cons.injEq,Prod.mk.injEq]at hrun
  obtain⟨⟨h1,h2⟩,h3⟩:=hrun
  exact λa hr=>qo hr _ (λa hr=>ko vs k h3 a hr) h1 h2
theorem kp(v:Value)(hrun:(execOp (po (lk l j)) o).run P w= .ok (.value v) w)(k:KK Df n ((dn o,v)::l) j (wpList P ops Q rest) w)(ho:zP o n=true:=by rfl):KK Df n l j (wpList P ops Q (o::rest)) w:=λa hr=>qp hr v hrun k ho
theorem PT{b:Bool}(hb:b=true)(v:Value)(k:KK Df n ((dn o,v)::l) j (wpList P ops Q rest) w){c x y:Operand}(ho:zP o n=true:=by rfl)(h1:o.op= .pick c x y:=by rfl)(h2:po (lk l j) c= .bool b:=by kernel_rfl)(h3:po (lk l j) x=v:=by kernel_rfl):KK Df n l j (wpList P ops Q (o::rest)) w:=λa hr=>qT hb hr v k ho h1 h2 h3
theorem PM{b:Bool}(hb:b=false)(v:Value)(k:KK Df n ((dn o,v)::l) j (wpList P ops Q rest) w){c x y:Operand}(ho:zP o n=true:=by rfl)(h1:o.op= .pick c x y:=by rfl)(h2:po (lk l j) c= .bool b:=by kernel_rfl)(h3:po (lk l j) y=v:=by kernel_rfl):KK Df n l j (wpList P ops Q (o::rest)) w:=λa hr=>qF hb hr v k ho h1 h2 h3
theorem kL{b:Nat}{cs:Array Value}{T':TypeId}{q:Nat×Nat}{x:Operand}(hF:Fit w0 (cQ (pts b (.cells cs T' q)::L)) w)(i:Nat)(k:KK Df n ((dn o,cs.getD i undef)::l) j (wpList P ops Q rest) w)
 (h1:zP o n=true:=by rfl) (hi:Nat.blt i cs.size=true:=by rfl) (ho:o.op= .load T x:=by rfl) (hx:po (lk l j) x= .pointer (some ⟨b,i,none⟩):=by kernel_rfl) (hu:SR (P.underlying T)=true:=by kernel_rfl):KK Df n l j (wpList P ops Q (o::rest)) w:=λa hr=>qL hr hF i k h1 hi ho hx hu
theorem Q7{c' x':Bool}{b:Nat}{cs:Array Value}{T':TypeId}{q:Nat×Nat}{x:Operand}(pf:x'=c')(hF:Fit w0 (cQ (pts b (.cells cs T' q)::L)) w)(i:Nat)(k:KK Df n ((dn o,cs.getD i undef)::l) j (wpList P ops Q rest) w)
 (hg:gx ops n (lk l j) o=some (c',some (true,.bool x')):=by kernel_rfl) (h1:okg o n=true:=by rfl) (hi:Nat.blt i cs.size=true:=by rfl) (ho:o.op= .load T x:=by rfl) (hx:po (lk l j) x= .pointer (some ⟨b,i,none⟩):=by kernel_rfl) (hu:SR (P.underlying T)=true:=by kernel_rfl):KK Df n l j (wpList P ops Q (o::rest)) w:=λa hr=>qLg (kwg hr pf hg) hr hF i k h1 hi ho hx hu
theorem kM{b:Nat}{cs:Array Value}{T':TypeId}{q:Nat×Nat}{x:Operand}(hF:Fit w0 (cQ (pts b (.cells cs T' q)::L)) w)(k:KK Df n ((dn o,.agg cs)::l) j (wpList P ops Q rest) w)
 (h1:zP o n=true:=by rfl) (ho:o.op= .load T x:=by rfl) (hx:po (lk l j) x= .pointer (some ⟨b,0,none⟩):=by kernel_rfl) (hu:Rs (P.underlying T)=true:=by kernel_rfl) (hs:(P.info? T).map (·.size)=some cs.size:=by kernel_rfl):KK Df n l j (wpList P ops Q (o::rest)) w:=λa hr=>qM hr hF k h1 ho hx hu hs
theorem kN(hF:Fit w0 (cQ L) w)(cs:Array Value)(T:TypeId)
 (k:∀b w1,Fit w0 (cQ (pts b (.cells cs T)::L)) w1->KK Df n ((dn o,pA b 0)::l) j (wpList P ops Q rest) w1) (h1:zP o n=true:=by rfl) (hrun:(execOp (po (lk l j)) o).run P w= .ok (.value (pA w.heap.size 0)) (w.alloc (.cells cs T)):=by kernel_rfl):KK Df n l j (wpList P ops Q (o::rest)) w:=λa hr=>qN hr hF cs T (λb w a h r=>k b w h a r) h1 hrun
theorem kV(hF:Fit w0 (cQ L) w)(cs:Array Value)(T:TypeId)
 (k:∀b w1,Fit w0 (cQ (pts b (.cells cs T)::L)) w1->KK Df n ((dn o,.slice (some ⟨b,0,none⟩) 1 1)::l) j (wpList P ops Q rest) w1) (h1:zP o n=true:=by rfl) (hrun:(execOp (po (lk l j)) o).run P w= .ok (.value (.slice (some ⟨w.heap.size,0,none⟩) 1 1)) (w.alloc (.cells cs T)):=by kernel_rfl):KK Df n l j (wpList P ops Q (o::rest)) w:=λa hr=>qV hr hF cs T (λb w a h r=>k b w h a r) h1 hrun
theorem kS{x y:Operand}{b:Nat}{cs:Array Value}{T':TypeId}(hF:Fit w0 (cQ (pts b (.cells cs T')::L)) w)(i:Nat)(A:M5)
 (k:∀w1,Fit w0 (cQ (A::L)) w1->KK Df n l j (wpList P ops Q rest) w1) (hg:o.guard=none:=by rfl) (hd:o.dst=none:=by rfl) (ho:o.op= .store T x y:=by rfl) (hx:po (lk l j) x= .pointer (some ⟨b,i,none⟩):=by kernel_rfl)
 (hv:(po (lk l j) y).cells=#[po (lk l j) y]:=by kernel_rfl) (h1:(po (lk l j) y).oneCell'=true:=by kernel_rfl) (hs:(P.info? T).map (·.size)=some 1:=by kernel_rfl) (hc:(cs[i]?).isSome=true:=by kernel_rfl) (hA:pts b (.cells (cs.setIfInBounds i (po (lk l j) y)) T')=A:=by kernel_rfl):KK Df n l j (wpList P ops Q (o::rest)) w:=λa hr=>qS hr hF i A (λw h=>k w h a hr) hg hd ho hx hv h1 hs hc hA
theorem kA{x y:Operand}{b:Nat}{cs cs':Array Value}{T':TypeId}(hF:Fit w0 (cQ (pts b (.cells cs T')::L)) w)(A:M5)
 (k:∀w1,Fit w0 (cQ (A::L)) w1->KK Df n l j (wpList P ops Q rest) w1) (hA:pts b (.cells cs' T')=A:=by rfl) (hg:o.guard=none:=by rfl) (hd:o.dst=none:=by rfl) (ho:o.op= .store T x y:=by rfl) (hx:po (lk l j) x= .pointer (some ⟨b,0,none⟩):=by kernel_rfl) (hy:po (lk l j) y= .agg cs':=by kernel_rfl)
 (h1:cs'.toList.all (·.oneCell')=true:=by rfl) (h2:cs'.size=cs.size:=by rfl) (hs:(P.info? T).map (·.size)=some cs'.size:=by kernel_rfl):KK Df n l j (wpList P ops Q (o::rest)) w:=λa hr=>qA hr hF A (λw h=>k w h a hr) hA hg hd ho hx hy h1 h2 hs
theorem ki{x y:Operand}{i:Int}{α:Type}{E:TypeId}{sz m cc:Nat}{enc:α->List Value}{xs:List α}{ca:Option Addr}(hF:Fit w0 (cQ (rowOf E sz enc (.slice ca m cc) xs::L)) w)(hi:aZ i xs.length)
 (k:KK Df n ((dn o,pA (Cp ca) (i.toNat*sz))::l) j (wpList P ops Q rest) w) (h1:zP o n=true:=by rfl) (ho:o.op= .indexAddr t x y:=by rfl) (hx:po (lk l j) x= .slice ca m cc:=by kernel_rfl) (hy:po (lk l j) y= .int .i64 i:=by kernel_rfl)
 (ht:P.underlying t=some (.slice E):=by kernel_rfl) (hs:(P.info? E).map (·.size)=some sz:=by kernel_rfl):KK Df n l j (wpList P ops Q (o::rest)) w:=λa hr=>qi hr hF hi k h1 ho hx hy ht hs
theorem kj{x y:Operand}{i:Int}{α:Type}[Inhabited α]{sz:Nat}{enc:α->List Value}{xs:List α}{va:Option Addr}{L:List M5}(E:TypeId)(cc:Nat)(hF:jJ L sz enc va xs)(hi:aZ i xs.length)
 (k:KK Df n ((dn o,pA (Cp va) (sJ va+i.toNat*sz))::l) j (wpList P ops Q rest) w) (h1:zP o n=true:=by rfl) (ho:o.op= .indexAddr t x y:=by rfl) (hx:po (lk l j) x= .slice va xs.length cc:=by kernel_rfl) (hy:po (lk l j) y= .int .i64 i:=by kernel_rfl)
 (ht:P.underlying t=some (.slice E):=by kernel_rfl) (hs:(P.info? E).map (·.size)=some sz:=by kernel_rfl):KK Df n l j (wpList P ops Q (o::rest)) w:=λa hr=>qj E cc hr hF hi k h1 ho hx hy ht hs
theorem Nl{x c:Bool}(pf:x=c)(ds:List Nat)(vs:List Value){os:List Oper}(k:KK Df n (aay ds vs l) j (wpList P ops Q (os.drop ds.length)) w)
 (hl:ds.length=vs.length/\ds.all (λd=>Nat.blt d n)=true:=by exact⟨rfl,rfl⟩) (hrun:aaA P ops n (os.take ds.length) vs l j w=Yu x c ds vs w:=by kernel_rfl):KK Df n l j (wpList P ops Q os) w:=λa hr=>onl pf ds vs hr k hl hrun
theorem Nh{x c:Bool}(pf:x=c)(ds:List Nat){os:List Oper}(k:KK Df n (aaB ds l) j (wpList P ops Q (os.drop ds.length)) w)
 (hl:ds.all (λd=>Nat.blt d n)=true:=by rfl) (hrun:XK ops n (os.take ds.length) l j=UG (!c) (.bool x) ds:=by kernel_rfl):KK Df n l j (wpList P ops Q os) w:=λa hr=>adb pf ds hr k hl hrun
theorem Wi(b:Bool)(ds:List Nat){os:List Oper}(k:KK Df n (aaB ds l) j (wpList P ops Q (os.drop ds.length)) w)
 (hl:ds.all (λd=>Nat.blt d n)=true:=by rfl) (hrun:XK ops n (os.take ds.length) l j=UG b undef ds:=by kernel_rfl):KK Df n l j (wpList P ops Q os) w:=λa hr=>ade b ds hr k hl hrun
section
variable {β:Type}{p:Prop}[Decidable p]{X Y r:Option β}{c:Operand}{x y:Code}
theorem NN(H:(if p then X else Y)=r)(k1:p->X=r->KK Df n l j (x.wp P Q) w)(k2:¬p->Y=r->KK Df n l j (y.wp P Q) w)(hc:po (lk l j) c= .bool (decide p):=by kernel_rfl):KK Df n l j ((Code.cond c x y).wp P Q) w:=λa hr=>cD hr H (λc h=>k1 c h a hr) (λc h=>k2 c h a hr) hc
theorem Qf(H:(if p then X else Y)=r)(k1:p->X=r->KK Df n l j (y.wp P Q) w)(k2:¬p->Y=r->KK Df n l j (x.wp P Q) w)(hc:po (lk l j) c= .bool (!decide p):=by kernel_rfl):KK Df n l j ((Code.cond c x y).wp P Q) w:=λa hr=>cN hr H (λc h=>k1 c h a hr) (λc h=>k2 c h a hr) hc
theorem V4{b:Bool}(H:(if b=true then X else Y)=r)(k1:b=true->X=r->KK Df n l j (x.wp P Q) w)(k2:¬b=true->Y=r->KK Df n l j (y.wp P Q) w)(hc:po (lk l j) c= .bool b:=by kernel_rfl):KK Df n l j ((Code.cond c x y).wp P Q) w:=λa hr=>cV hr H (λc h=>k1 c h a hr) (λc h=>k2 c h a hr) hc
theorem Vb{b:Bool}(H:(if b=true then X else Y)=r)(k1:b=true->X=r->KK Df n l j (y.wp P Q) w)(k2:¬b=true->Y=r->KK Df n l j (x.wp P Q) w)(hc:po (lk l j) c= .bool (!b):=by kernel_rfl):KK Df n l j ((Code.cond c x y).wp P Q) w:=λa hr=>cM hr H (λc h=>k1 c h a hr) (λc h=>k2 c h a hr) hc
end
section
variable {f:FuncId}{args:Array Value}{fn:Func}
theorem N5{V:Value}{G:World->Prop}(hc:Calls P f args w λe w=>e= .returned V/\G w)(k:∀w,G w->KK Df n ((dn o,V)::l) j (wpList P ops Q rest) w)(h1:zP o n=true:=by rfl)(hrun:(execOp (po (lk l j)) o).run P w= .ok (.enter f args) w:=by kernel_rfl):KK Df n l j (wpList P ops Q (o::rest)) w:=λa hr =>
 ng (wn (iI h1).2) (iI h1).1.1 (iI h1).1.2 hr hrun hc λe w h=>by obtain⟨rfl,h⟩:=h;exact⟨_,rfl,k w h⟩
theorem xg0{V:Value}{G:World->Prop}{x c:Bool}(pf:x=c)(hc:Calls P f args w λe w=>e= .returned V/\G w)(k:∀w,G w->KK Df n ((dn o,V)::l) j (wpList P ops Q rest) w)(h1:okg o n=true:=by rfl)(hg:gx ops n (lk l j) o=some (c,some (true,.bool x)):=by kernel_rfl)(hrun:(execOp (po (lk l j)) o).run P w= .ok (.enter f args) w:=by kernel_rfl):KK Df n l j (wpList P ops Q (o::rest)) w:=λa hr =>
 ng (kwg hr pf hg) (ZP h1).1 (ZP h1).2 hr hrun hc λe w h=>by obtain⟨rfl,h⟩:=h;exact⟨_,rfl,k w h⟩
theorem ZR{V:Value}{G:World->Prop}(h:G w)(hres:fn.results=#[]:=by rfl)(hv: .tuple #[]=V:=by kernel_rfl):KK [] n l j (bodyPost P fn (λe w=>e= .returned V/\G w) .normal) w:=λa hr =>
 ve hres hr ⟨by rw[hv],h⟩
theorem Ox{V:Value}{G:World->Prop}{t0:Nat}(h:G w)(hres:fn.results=#[.tmp t0]:=by rfl)(hv:lk l j t0=V:=by kernel_rfl):KK [] n l j (bodyPost P fn (λe w=>e= .returned V/\G w) .ret) w:=λa hr =>
 NI hres hr rfl ⟨by rw[hv],h⟩
theorem Zf{V:Value}{G:World->Prop}{t0 t1:Nat}(h:G w)(hres:fn.results=#[.tmp t0,.tmp t1]:=by rfl)(hv: .tuple #[lk l j t0,lk l j t1]=V:=by kernel_rfl):KK [] n l j (bodyPost P fn (λe w=>e= .returned V/\G w) .ret) w:=λa hr =>
 PG hres hr rfl rfl ⟨by rw[hv],h⟩
theorem xc1{wG:Type}{V:wG->Value}{G:wG->World->Prop}(hc:Calls P f args w λe w =>∃x0,e= .returned (V x0)/\G x0 w)(k:∀x0 w,G x0 w->KK Df n ((dn o,(V x0))::l) j (wpList P ops Q rest) w)(h1:zP o n=true:=by rfl)(hrun:(execOp (po (lk l j)) o).run P w= .ok (.enter f args) w:=by kernel_rfl):KK Df n l j (wpList P ops Q (o::rest)) w:=λa hr =>
 ng (wn (iI h1).2) (iI h1).1.1 (iI h1).1.2 hr hrun hc λe w h=>by obtain⟨x0,rfl,h⟩:=h;exact⟨_,rfl,k _ w h⟩
theorem xy1{wG:Type}{V:wG->Value}{G:wG->World->Prop}{t0:Nat}(x0:wG)(h:G x0 w)(hres:fn.results=#[.tmp t0]:=by rfl)(hv:lk l j t0=V x0:=by kernel_rfl):KK [] n l j (bodyPost P fn (λe w =>∃x0,e= .returned (V x0)/\G x0 w) .ret) w:=λa hr =>
 NI hres hr rfl ⟨x0,by rw[hv],h⟩
theorem xc2{wG wH:Type}{V:wG->wH->Value}{G:wG->wH->World->Prop}(hc:Calls P f args w λe w =>∃x0,∃x1,e= .returned (V x0 x1)/\G x0 x1 w)(k:∀x0 x1 w,G x0 x1 w->KK Df n ((dn o,(V x0 x1))::l) j (wpList P ops Q rest) w)(h1:zP o n=true:=by rfl)(hrun:(execOp (po (lk l j)) o).run P w= .ok (.enter f args) w:=by kernel_rfl):KK Df n l j (wpList P ops Q (o::rest)) w:=λa hr =>
 ng (wn (iI h1).2) (iI h1).1.1 (iI h1).1.2 hr hrun hc λe w h=>by obtain⟨x0,x1,rfl,h⟩:=h;exact⟨_,rfl,k _ _ w h⟩
theorem xy2{wG wH:Type}{V:wG->wH->Value}{G:wG->wH->World->Prop}{t0:Nat}(x0:wG)(x1:wH)(h:G x0 x1 w)(hres:fn.results=#[.tmp t0]:=by rfl)(hv:lk l j t0=V x0 x1:=by kernel_rfl):KK [] n l j (bodyPost P fn (λe w =>∃x0,∃x1,e= .returned (V x0 x1)/\G x0 x1 w) .ret) w:=λa hr =>
 NI hres hr rfl ⟨x0,x1,by rw[hv],h⟩
theorem xw2{wG wH:Type}{V:wG->wH->Value}{G:wG->wH->World->Prop}{t0 t1 t2:Nat}(x0:wG)(x1:wH)(h:G x0 x1 w)(hres:fn.results=#[.tmp t0,.tmp t1,.tmp t2]:=by rfl)(hv: .tuple #[lk l j t0,lk l j t1,lk l j t2]=V x0 x1:=by kernel_rfl):KK [] n l j (bodyPost P fn (λe w =>∃x0,∃x1,e= .returned (V x0 x1)/\G x0 x1 w) .ret) w:=λa hr =>
 Qr hres hr rfl rfl rfl ⟨x0,x1,by rw[hv],h⟩
theorem xc3{wG wH wI:Type}{V:wG->wH->wI->Value}{G:wG->wH->wI->World->Prop}(hc:Calls P f args w λe w =>∃x0,∃x1,∃x2,e= .returned (V x0 x1 x2)/\G x0 x1 x2 w)(k:∀x0 x1 x2 w,G x0 x1 x2 w->KK Df n ((dn o,(V x0 x1 x2))::l) j (wpList P ops Q rest) w)(h1:zP o n=true:=by rfl)(hrun:(execOp (po (lk l j)) o).run P w= .ok (.enter f args) w:=by kernel_rfl):KK Df n l j (wpList P ops Q (o::rest)) w:=λa hr =>
 ng (wn (iI h1).2) (iI h1).1.1 (iI h1).1.2 hr hrun hc λe w h=>by obtain⟨x0,x1,x2,rfl,h⟩:=h;exact⟨_,rfl,k _ _ _ w h⟩
theorem xw3{wG wH wI:Type}{V:wG->wH->wI->Value}{G:wG->wH->wI->World->Prop}{t0 t1 t2:Nat}(x0:wG)(x1:wH)(x2:wI)(h:G x0 x1 x2 w)(hres:fn.results=#[.tmp t0,.tmp t1,.tmp t2]:=by rfl)(hv: .tuple #[lk l j t0,lk l j t1,lk l j t2]=V x0 x1 x2:=by kernel_rfl):KK [] n l j (bodyPost P fn (λe w =>∃x0,∃x1,∃x2,e= .returned (V x0 x1 x2)/\G x0 x1 x2 w) .ret) w:=λa hr =>
 Qr hres hr rfl rfl rfl ⟨x0,x1,x2,by rw[hv],h⟩
theorem GR{wG wH wI wJ:Type}{V:wG->wH->wI->wJ->Value}{G:wG->wH->wI->wJ->World->Prop}(hc:Calls P f args w λe w =>∃x0,∃x1,∃x2,∃x3,e= .returned (V x0 x1 x2 x3)/\G x0 x1 x2 x3 w)(k:∀x0 x1 x2 x3 w,G x0 x1 x2 x3 w->KK Df n ((dn o,(V x0 x1 x2 x3))::l) j (wpList P ops Q rest) w)(h1:zP o n=true:=by rfl)(hrun:(execOp (po (lk l j)) o).run P w= .ok (.enter f args) w:=by kernel_rfl):KK Df n l j (wpList P ops Q (o::rest)) w:=λa hr =>
 ng (wn (iI h1).2) (iI h1).1.1 (iI h1).1.2 hr hrun hc λe w h=>by obtain⟨x0,x1,x2,x3,rfl,h⟩:=h;exact⟨_,rfl,k _ _ _ _ w h⟩
theorem xv4{wG wH wI wJ:Type}{V:wG->wH->wI->wJ->Value}{G:wG->wH->wI->wJ->World->Prop}(x0:wG)(x1:wH)(x2:wI)(x3:wJ)(h:G x0 x1 x2 x3 w)(hres:fn.results=#[]:=by rfl)(hv: .tuple #[]=V x0 x1 x2 x3:=by kernel_rfl):KK [] n l j (bodyPost P fn (λe w =>∃x0,∃x1,∃x2,∃x3,e= .returned (V x0 x1 x2 x3)/\G x0 x1 x2 x3 w) .normal) w:=λa hr =>
 ve hres hr ⟨x0,x1,x2,x3,by rw[hv],h⟩
theorem W0{wG wH wI wJ:Type}{V:wG->wH->wI->wJ->Value}{G:wG->wH->wI->wJ->World->Prop}{t0:Nat}(x0:wG)(x1:wH)(x2:wI)(x3:wJ)(h:G x0 x1 x2 x3 w)(hres:fn.results=#[.tmp t0]:=by rfl)(hv:lk l j t0=V x0 x1 x2 x3:=by kernel_rfl):KK [] n l j (bodyPost P fn (λe w =>∃x0,∃x1,∃x2,∃x3,e= .returned (V x0 x1 x2 x3)/\G x0 x1 x2 x3 w) .ret) w:=λa hr =>
 NI hres hr rfl ⟨x0,x1,x2,x3,by rw[hv],h⟩
theorem Tq{wG wH wI wJ:Type}{V:wG->wH->wI->wJ->Value}{G:wG->wH->wI->wJ->World->Prop}{t0 t1:Nat}(x0:wG)(x1:wH)(x2:wI)(x3:wJ)(h:G x0 x1 x2 x3 w)(hres:fn.results=#[.tmp t0,.tmp t1]:=by rfl)(hv: .tuple #[lk l j t0,lk l j t1]=V x0 x1 x2 x3:=by kernel_rfl):KK [] n l j (bodyPost P fn (λe w =>∃x0,∃x1,∃x2,∃x3,e= .returned (V x0 x1 x2 x3)/\G x0 x1 x2 x3 w) .ret) w:=λa hr =>
 PG hres hr rfl rfl ⟨x0,x1,x2,x3,by rw[hv],h⟩
theorem xc5{wG wH wI wJ zQ:Type}{V:wG->wH->wI->wJ->zQ->Value}{G:wG->wH->wI->wJ->zQ->World->Prop}(hc:Calls P f args w λe w =>∃x0,∃x1,∃x2,∃x3,∃x4,e= .returned (V x0 x1 x2 x3 x4)/\G x0 x1 x2 x3 x4 w)(k:∀x0 x1 x2 x3 x4 w,G x0 x1 x2 x3 x4 w->KK Df n ((dn o,(V x0 x1 x2 x3 x4))::l) j (wpList P ops Q rest) w)(h1:zP o n=true:=by rfl)(hrun:(execOp (po (lk l j)) o).run P w= .ok (.enter f args) w:=by kernel_rfl):KK Df n l j (wpList P ops Q (o::rest)) w:=λa hr =>
 ng (wn (iI h1).2) (iI h1).1.1 (iI h1).1.2 hr hrun hc λe w h=>by obtain⟨x0,x1,x2,x3,x4,rfl,h⟩:=h;exact⟨_,rfl,k _ _ _ _ _ w h⟩
theorem GS{wG wH wI wJ zQ zR:Type}{V:wG->wH->wI->wJ->zQ->zR->Value}{G:wG->wH->wI->wJ->zQ->zR->World->Prop}(hc:Calls P f args w λe w =>∃x0,∃x1,∃x2,∃x3,∃x4,∃x5,e= .returned (V x0 x1 x2 x3 x4 x5)/\G x0 x1 x2 x3 x4 x5 w)(k:∀x0 x1 x2 x3 x4 x5 w,G x0 x1 x2 x3 x4 x5 w->KK Df n ((dn o,(V x0 x1 x2 x3 x4 x5))::l) j (wpList P ops Q rest) w)(h1:zP o n=true:=by rfl)(hrun:(execOp (po (lk l j)) o).run P w= .ok (.enter f args) w:=by kernel_rfl):KK Df n l j (wpList P ops Q (o::rest)) w:=λa hr =>
 ng (wn (iI h1).2) (iI h1).1.1 (iI h1).1.2 hr hrun hc λe w h=>by obtain⟨x0,x1,x2,x3,x4,x5,rfl,h⟩:=h;exact⟨_,rfl,k _ _ _ _ _ _ w h⟩
theorem xy6{wG wH wI wJ zQ zR:Type}{V:wG->wH->wI->wJ->zQ->zR->Value}{G:wG->wH->wI->wJ->zQ->zR->World->Prop}{t0:Nat}(x0:wG)(x1:wH)(x2:wI)(x3:wJ)(x4:zQ)(x5:zR)(h:G x0 x1 x2 x3 x4 x5 w)(hres:fn.results=#[.tmp t0]:=by rfl)(hv:lk l j t0=V x0 x1 x2 x3 x4 x5:=by kernel_rfl):KK [] n l j (bodyPost P fn (λe w =>∃x0,∃x1,∃x2,∃x3,∃x4,∃x5,e= .returned (V x0 x1 x2 x3 x4 x5)/\G x0 x1 x2 x3 x4 x5 w) .ret) w:=λa hr =>
 NI hres hr rfl ⟨x0,x1,x2,x3,x4,x5,by rw[hv],h⟩
theorem GU{wG wH wI wJ zQ zR Dr:Type}{V:wG->wH->wI->wJ->zQ->zR->Dr->Value}{G:wG->wH->wI->wJ->zQ->zR->Dr->World->Prop}(hc:Calls P f args w λe w =>∃x0,∃x1,∃x2,∃x3,∃x4,∃x5,∃x6,e= .returned (V x0 x1 x2 x3 x4 x5 x6)/\G x0 x1 x2 x3 x4 x5 x6 w)(k:∀x0 x1 x2 x3 x4 x5 x6 w,G x0 x1 x2 x3 x4 x5 x6 w->KK Df n ((dn o,(V x0 x1 x2 x3 x4 x5 x6))::l) j (wpList P ops Q rest) w)(h1:zP o n=true:=by rfl)(hrun:(execOp (po (lk l j)) o).run P w= .ok (.enter f args) w:=by kernel_rfl):KK Df n l j (wpList P ops Q (o::rest)) w:=λa hr =>
 ng (wn (iI h1).2) (iI h1).1.1 (iI h1).1.2 hr hrun hc λe w h=>by obtain⟨x0,x1,x2,x3,x4,x5,x6,rfl,h⟩:=h;exact⟨_,rfl,k _ _ _ _ _ _ _ w h⟩
theorem GV{wG wH wI wJ zQ zR Dr Jd:Type}{V:wG->wH->wI->wJ->zQ->zR->Dr->Jd->Value}{G:wG->wH->wI->wJ->zQ->zR->Dr->Jd->World->Prop}(hc:Calls P f args w λe w =>∃x0,∃x1,∃x2,∃x3,∃x4,∃x5,∃x6,∃x7,e= .returned (V x0 x1 x2 x3 x4 x5 x6 x7)/\G x0 x1 x2 x3 x4 x5 x6 x7 w)(k:∀x0 x1 x2 x3 x4 x5 x6 x7 w,G x0 x1 x2 x3 x4 x5 x6 x7 w->KK Df n ((dn o,(V x0 x1 x2 x3 x4 x5 x6 x7))::l) j (wpList P ops Q rest) w)(h1:zP o n=true:=by rfl)(hrun:(execOp (po (lk l j)) o).run P w= .ok (.enter f args) w:=by kernel_rfl):KK Df n l j (wpList P ops Q (o::rest)) w:=λa hr =>
 ng (wn (iI h1).2) (iI h1).1.1 (iI h1).1.2 hr hrun hc λe w h=>by obtain⟨x0,x1,x2,x3,x4,x5,x6,x7,rfl,h⟩:=h;exact⟨_,rfl,k _ _ _ _ _ _ _ _ w h⟩
theorem kC{t T b:Nat}{R:Ending->World->Prop}{cs:Array Value}{T':TypeId}{q:Nat×Nat}(hF:Fit w0 (cQ (pts b (.cells cs T' q)::L)) w)(h:R (.returned (.agg cs)) w)(hres:fn.results=#[.cell t T]:=by rfl)(hv:lk l j t= .pointer (some ⟨b,0,none⟩):=by kernel_rfl)(hu:Rs (P.underlying T)=true:=by kernel_rfl)
 (hs:(P.info? T).map (·.size)=some cs.size:=by kernel_rfl):KK [] n l j (bodyPost P fn R .ret) w:=λa hr=>qC hr hF h hres hv hu hs
end
section
variable {E:List Nat}{D:List (Nat×Nat×List Value)}{N:Nat}{listed:Array Bool}
theorem Oi[hp:PI Q](hd:HL D w)(f:Nat)(is:List (Nat×Nat×Value))(k:KK Df n (abA is l) j (fb P .any ops Q (HL D) E f (abz is listed)) w)
 (hN:f+is.length=N:=by rfl) (hB:okE ops E n is listed=true:=by kernel_rfl) (hrun:∀w,Yt P ops is l j w=Vz is w:=by intro w;kernel_rfl):KK Df n l j (fb P .any ops Q (HL D) E N listed) w:=λa hr=>adP hd f is hr k hN hB hrun
theorem kx[hp:PI Q](hd:HL D w)(q f i:Nat){b off:Nat}{x:Operand}(hi:ops[i]? = some o)(hq:D[q]? = some (b,off,[v]))
 (k:KK Df n ((dn o,v)::l) j (fb P .any ops Q (HL D) E f (listed.setIfInBounds i true)) w) (hg:o.guard=none:=by rfl) (hB:(okB ops E listed i&&rq .any ops E listed i)=true:=by kernel_rfl)
 (ho:o.op= .load T x:=by rfl) (hx:po (lk l j) x= .pointer (some ⟨b,off,none⟩):=by kernel_rfl) (hu:SR (P.underlying T)=true:=by kernel_rfl) (h1:o.dst=some (dn o):=by rfl) (hn:Nat.blt (dn o) n=true:=by rfl):KK Df n l j (fb P .any ops Q (HL D) E (f+1) listed) w:=λa hr =>
 elx hd q f i hr (wn hg) hi hq k hB ho hx hu h1 hn
theorem RJ[hp:PI Q](hd:HL D w)(q f i:Nat){b off:Nat}{cs:List Value}{x:Operand}(hi:ops[i]? = some o)(hq:D[q]? = some (b,off,cs))
 (k:KK Df n ((dn o,.agg cs.toArray)::l) j (fb P .any ops Q (HL D) E f (listed.setIfInBounds i true)) w) (hg:o.guard=none:=by rfl) (hB:(okB ops E listed i&&rq .any ops E listed i)=true:=by kernel_rfl)
 (ho:o.op= .load T x:=by rfl) (hx:po (lk l j) x= .pointer (some ⟨b,off,none⟩):=by kernel_rfl) (hu:Rs (P.underlying T)=true:=by kernel_rfl) (hs:(P.info? T).map (·.size)=some cs.length:=by kernel_rfl) (h1:o.dst=some (dn o):=by rfl) (hn:Nat.blt (dn o) n=true:=by rfl):KK Df n l j (fb P .any ops Q (HL D) E (f+1) listed) w:=λa hr =>
 elm hd q f i hr (wn hg) hi hq k hB ho hx hu hs h1 hn
end
end
end GX
end
end Go.Proofs.YtpikpffbcjpmcaaGreatDoor

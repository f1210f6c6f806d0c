/- plunderlaw11.WorkerLone answers true for every input of the bulk that the statement names, and leaves its input alone. Conditions: none. -/
import Derived.Below
import Derived.OwnWalk
import Derived.Deep.Draws
import Derived.Laws.AppendOwn
import Derived.Laws.OwnMore
import Derived.Laws.MakeOwn
import Derived.Laws.CopyRow
import Derived.StillTail
import Derived.Deep.Quiet
import Derived.KernelRfl
import Derived.IntWalk
import Derived.Laws.StructEq
import Derived.Test.YtaiffafelihaaaaGreatDoorProg
import Derived.Carry
import Derived.ChangeSlices
import Derived.ChangeOld
import Derived.Deep.Fields
import Derived.Deep.Slices
import Derived.DataReads
import Derived.OpenShut
import Derived.Test.YtaiffafelihaaaaGreatDoorRows
import Derived.FnData
import Derived.Scope
import Derived.Laws.IdiomRangeMap
import Derived.Defers
import Derived.Laws.LoneSync
import Derived.Conc.MuLone
import Derived.Recover
import Derived.ArgAppend
import Derived.ChangeKeysEq
import Derived.Test.YtaiffafelihaaaaGreatDoorCards
import Derived.Test.YtaiffafelihaaaaGreatDoorTie
import Derived.WalkKit
import Derived.ProofKit
import Derived.SizedLaws
import Derived.JoinedCond
import Derived.Deep.DeepHandedRow
import Derived.Lib.LaidTab
import Derived.LaidMore
import Derived.SevenTiedAt
set_option linter.unusedVariables false
set_option linter.unusedSimpArgs false
set_option linter.unusedSectionVars false
set_option maxRecDepth 100000
set_option maxHeartbeats 4000000
set_option autoImplicit true
set_option relaxedAutoImplicit true
namespace Go.Proofs.YtaiffafelihaaaaGreatDoor
open Proofs.Tryz
theorem aZ{p:Prop}(h:p:=by kernel_rfl):p:=h
theorem I{p:Prop}(h:p:=by omega):p:=h
theorem gB{p:Prop}(h:p:=by decide):p:=h
theorem qv{p:Prop}(h:p:=by intro e;cases e):p:=h
abbrev fB:=Option Addr
abbrev vM(o:Oper)(ops:Array Oper)(a:Act):Prop:=Region.wanted o (yielded ops a.tmps)=true
abbrev dm(p:Prop)[Decidable p]:Value:=.bool (decide p)
theorem cQ{c:Prop}{h:Decidable c}(hn:¬c){α:Sort _}{t e:α}:ite c t e=e:=if_neg hn
theorem bg{c:Prop}{h:Decidable c}(hn:c){α:Sort _}{t e:α}:ite c t e=t:=if_pos hn
theorem bR:True:=trivial
theorem ez{c:Prop}{h:Decidable c}{α:Sort _}{t e:α}(hn:¬c:=by omega):ite c t e=e:=if_neg hn
theorem rD{c:Prop}{h:Decidable c}{α:Sort _}{t e:α}(hn:c:=by omega):ite c t e=t:=if_pos hn
theorem gl{β:Type}{x k c:β}(h:x=c){d:Decidable (x=k)}{α:Sort _}{t e:α}(hn:¬c=k:=by decide):ite (x=k) t e=e:=if_neg (h▸hn)
abbrev ET:=@Nat.le_trans
abbrev gQ:=@Nat.le_refl
abbrev OW:=@List.flatMap_cons
abbrev jM:=@List.length_append
abbrev Bm:=@List.length_cons
abbrev vn:=@Nat.add_mul
abbrev OX:=@Nat.add_comm
abbrev Bn:=@Nat.zero_add
abbrev wI:=@List.take_zero
abbrev Bo:=@List.nil_append
abbrev KE:=@List.drop_append_of_le_length
abbrev zn:=@List.drop_of_length_le
abbrev GK:=@List.take_of_length_le
abbrev KF:=@List.take_append
abbrev rK:=@List.append_assoc
abbrev s9:=@Nat.mul_le_mul_right
abbrev Ap:=@List.ext_getElem?
abbrev vO:=@List.length_take
abbrev zo:=@Nat.min_eq_left
abbrev gU:=@List.length_set
abbrev DY:=@List.size_toArray
abbrev EU:=@List.flatMap_append
abbrev GL:=@List.take_left
abbrev GM:=@List.eq_nil_of_length_eq_zero
abbrev zp:=@List.length_nil
abbrev Cx:=@List.length_drop
abbrev vP:=@Array.length_toList
abbrev w4:=@Go.Addr.add_lit
abbrev qx:=@Nat.le_of_ble_eq_true
abbrev w5:=@Array.getD_eq_getD_getElem?
abbrev Qj:=@Nat.eq_of_beq_eq_true
abbrev n9:=@Go.Sem.run_bind
abbrev oa:=@Go.Result.andThen_ok
abbrev uR:=@Go.Sem.run_pure
abbrev w6:=@Nat.add_zero
abbrev KG:=@List.toList_toArray
abbrev KH:=@List.drop_take
abbrev wA:=@Option.map_some
abbrev MU:=@Nat.le_mul_of_pos_right
abbrev GN:=@List.map_toArray
abbrev BX:=@List.map_cons
abbrev Cy:=@List.map_nil
abbrev Ii:=@Nat.div_add_mod
abbrev od:=@List.length_replicate
abbrev GO:=@Int.mul_comm
abbrev di:=@Int.toNat_natCast
abbrev mI:=@Bool.and_eq_true
abbrev Cz:=@beq_iff_eq
abbrev KI:=@Nat.add_left_comm
abbrev nR:=@congrArg
abbrev uA:=@List.mem_cons
abbrev uB:=@List.not_mem_nil
abbrev uC:=@or_false
abbrev Ij:=@List.map_append
abbrev EV:=@Bool.or_eq_true
abbrev Ik:=@Bool.false_eq_true
abbrev BZ:=@Nat.lt_or_ge
abbrev MV:=@Go.Region.noSelect_spec
abbrev qy:=@List.take_succ_cons
abbrev yA:=@List.perm_middle
abbrev uS:=@List.cons_append
abbrev B3:=@List.append_nil
abbrev CA:=@decide_eq_true_eq
abbrev uT:=@decide_eq_true
abbrev Il:=@decide_eq_false
abbrev Im:=@List.take_append_drop
abbrev Qk:=@List.drop_eq_nil_of_le
abbrev Io:=@Nat.sub_self
abbrev DZ:=@List.length_map
abbrev pG:=@Option.getD_some
abbrev GP:=@Nat.succ_mul
abbrev Ql:=@Go.MapKept.run_getObj_map
abbrev nS:=@List.drop_zero
abbrev Qm:=@List.drop_eq_getElem_cons
abbrev w7:=@Nat.zero_le
abbrev sN:=@List.drop_succ_cons
abbrev ie:=@Nat.lt_succ_self
abbrev MW:=@List.mem_cons_of_mem
abbrev KJ:=@List.singleton_append
abbrev qz:=@Int.ofNat_zero
abbrev Ip:=@List.length_singleton
abbrev CB:=@Prod.ext
abbrev nE:=@List.set_set
abbrev EW:=@Int.emod_nonneg
abbrev GQ:=@Int.emod_lt_of_pos
abbrev MX:=@Int.mul_ediv_add_emod
abbrev yB:=@Int.le_refl
abbrev MY:=@List.getLastD_eq_getLast?
abbrev xR:=@Nat.mod_eq_of_lt
abbrev MZ:=@Int.tmod_eq_emod
abbrev Iq:=@BitVec.toNat_ofInt
abbrev M0:=@Nat.add_mod_right
abbrev ta:=@List.getElem_toArray
abbrev tc:=@List.getElem_cons_zero
abbrev td:=@List.getElem_cons_succ
abbrev tg:=@Array.getInternal_eq_getElem
abbrev B4:=@and_true
section
namespace SL
open Go Go.RowKit
abbrev Hp:=Nat->Option Obj
abbrev bl:=Hp->Prop
def Hp.none:Hp:=λ_=>Option.none
def Hp.add(a b:Hp):Hp:=λk=>match a k with | some o=>some o | Option.none=>b k
def Hp.G5(a b:Hp):Prop:=∀k,a k=Option.none∨b k=Option.none
def ON:bl:=λh=>h=Hp.none
def sep(P Q:bl):bl:=λh =>∃a b,a.G5 b/\h=a.add b/\P a/\Q b
def pts(b:Nat)(o:Obj):bl:=λh=>h=λk=>if k=b then some o else Option.none
def RX(p:Prop):bl:=λh=>p/\h=Hp.none
def exs{α:Type}(P:α->bl):bl:=λh =>∃x,P x h
def aD:List bl->bl
 | []=>ON
 | P::L=>sep P (aD L)
theorem Hp.wJ{a b:Hp}(h:a.G5 b):b.G5 a:=λk=>(h k).symm
theorem Hp.add_comm{a b:Hp}(h:a.G5 b):a.add b=b.add a:=by
 funext k
 unfold Hp.add;rcases h k with h | h<;>rw[h]<;>cases a k<;>cases b k<;>simp_all
theorem Hp.add_assoc(a b c:Hp):(a.add b).add c=a.add (b.add c):=by
 funext k;unfold Hp.add;cases a k<;>rfl
theorem Hp.CC{a b c:Hp}(h1:a.G5 b)(h2:a.G5 c):a.G5 (b.add c):=λk=>by
 rcases h1 k with h | h
 ·exact .inl h
 ·rcases h2 k with h' | h'
  ·exact .inl h'
  ·exact .inr (by unfold Hp.add;rw[h,h'])
theorem Hp.GR{a b c:Hp}(h:a.G5 (b.add c)):a.G5 b/\a.G5 c:=by
 constructor
 ·intro k;rcases h k with h | h
  ·exact .inl h
  ·refine .inr ?_;unfold Hp.add at h;cases hb:b k with
   | none=>rfl
   | some o=>rw[hb]at h;exact absurd h (by simp)
 ·intro k;rcases h k with h | h
  ·exact .inl h
  ·refine .inr ?_;unfold Hp.add at h;cases hb:b k with
   | none=>rw[hb]at h;exact h
   | some o=>rw[hb]at h;exact absurd h (by simp)
theorem Hp.M1(a:Hp):a.add Hp.none=a:=by funext k;unfold Hp.add Hp.none;cases a k<;>rfl
theorem Hp.M2(a:Hp):Hp.none.add a=a:=rfl
theorem Hp.RY(a:Hp):a.G5 Hp.none:=λ_=>.inr rfl
theorem Hp.KL(a:Hp):Hp.none.G5 a:=λ_=>.inl rfl
theorem M3(P Q:bl):sep P Q=sep Q P:=by
 funext h
 apply propext
 constructor <;>
 ·rintro ⟨a,b,hd,rfl,hp,hq⟩
  exact⟨b,a,Hp.wJ hd,Hp.add_comm hd,hq,hp⟩
theorem FO(P Q R:bl):sep (sep P Q) R=sep P (sep Q R):=by
 funext h
 apply propext
 constructor
 ·rintro ⟨ab,c,hd,rfl,⟨a,b,hd',rfl,hp,hq⟩,hr⟩
  obtain⟨h1,h2⟩:=Hp.GR (Hp.wJ hd);exact⟨a,b.add c,Hp.CC hd' (Hp.wJ h1),Hp.add_assoc _ _ _,hp,b,c,Hp.wJ h2,rfl,hq,hr⟩
 ·rintro ⟨a,bc,hd,rfl,hp,b,c,hd',rfl,hq,hr⟩
  obtain⟨h1,h2⟩:=Hp.GR hd;exact⟨a.add b,c,Hp.wJ (Hp.CC (Hp.wJ h2) (Hp.wJ hd')),(Hp.add_assoc _ _ _).symm,⟨a,b,h1,rfl,hp,hq⟩,hr⟩
theorem D1(P Q R:bl):sep P (sep Q R)=sep Q (sep P R):=by
 rw[<-FO,M3 P Q,FO]
theorem HN(P:bl):sep P ON=P:=by
 funext h
 apply propext
 constructor
 ·rintro ⟨a,b,_,rfl,hp,rfl⟩;rw[Hp.M1];exact hp
 ·intro hp;exact⟨h,Hp.none,Hp.RY h,(Hp.M1 h).symm,hp,rfl⟩
theorem CD(L M:List bl):aD (L++M)=sep (aD L) (aD M):=by
 induction L with
 | nil=>show aD M=sep ON (aD M);rw[M3,HN]
 | cons P L ih=>show sep P (aD (L++M))=sep (sep P (aD L)) (aD M);rw[ih,FO]
theorem RZ{L M:List bl}(h:L.Perm M):aD L=aD M:=by
 induction h with
 | nil=>rfl
 | cons P _ ih=>show sep P _=sep P _;rw[ih]
 | swap P Q L=>exact D1 _ _ _
 | trans _ _ h1 h2=>exact h1.trans h2
def pick(i:Nat)(L:List bl):List bl:=match L[i]? with | some P=>P::L.eraseIdx i | Option.none=>L
theorem FP(i:Nat)(L:List bl):aD (pick i L)=aD L:=by
 unfold pick
 induction L generalizing i with
 | nil=>rfl
 | cons P L ih =>
  cases i with
  | zero=>rfl
  | succ i =>
   have hi:=ih i;simp only[List.getElem?_cons_succ,List.eraseIdx_cons_succ];cases hg:L[i]? with
   | none=>rfl
   | some Q =>
    rw[hg]at hi;show sep Q (sep P (aD (L.eraseIdx i)))=sep P (aD L);rw[<-hi];exact D1 _ _ _
structure Fit(w0:World)(P:bl)(w:World):Prop where
 sat :∃h:Hp,(∀k o,h k=some o->w.heap[k]? = some o)/\P h
 os:w.os=w0.os
 tape:w.tape=w0.tape
 output:w.output=w0.output
 size:w0.heap.size<=w.heap.size
section
variable {w0 w:World}{L M:List bl}{P Q:bl}
theorem Fit.imp(h:Fit w0 P w)(i:∀x,P x->Q x):Fit w0 Q w:=
 let ⟨x,hx,hp⟩:=h.sat
 ⟨⟨x,hx,i x hp⟩,h.os,h.tape,h.output,h.size⟩
theorem Fit.eq(h:Fit w0 P w)(e:P=Q):Fit w0 Q w:=e▸ h
theorem Fit.perm(h:Fit w0 (aD L) w)(p:L.Perm M):Fit w0 (aD M) w:=h.eq (RZ p)
theorem Fit.pick(h:Fit w0 (aD L) w)(i:Nat):Fit w0 (aD (pick i L)) w:=h.eq (FP i L).symm
theorem Fit.trans{w1:World}{R:bl}(h:Fit w0 R w1)(k:Fit w1 P w):Fit w0 P w:=
 ⟨k.sat,k.os.trans h.os,k.tape.trans h.tape,k.output.trans h.output,ET h.size k.size⟩
theorem T1{P P' Q Q':bl}(hp:∀x,P x->P' x)(hq:∀x,Q x->Q' x)(x:Hp)(h:sep P Q x):sep P' Q' x:=
 let ⟨a,b,hd,e,p,q⟩:=h
 ⟨a,b,hd,e,hp a p,hq b q⟩
theorem Fit.head(h:Fit w0 (aD (P::L)) w)(i:∀x,P x->Q x):Fit w0 (aD (Q::L)) w:=h.imp (T1 i λ_ q=>q)
theorem Fit.drop(h:Fit w0 (aD (P::L)) w):Fit w0 (aD L) w:=
 let ⟨x,hx,a,b,hd,e,p,q⟩:=h.sat
 ⟨⟨b,λk o hk=>hx k o (by
  rw[e];unfold Hp.add;rcases hd k with h1 | h1
  ·rw[h1];exact hk
  ·rw[h1]at hk;cases hk),q⟩,h.os,h.tape,h.output,h.size⟩
theorem Fit.rR{α:Type}{F:α->bl}(h:Fit w0 (aD (exs F::L)) w) :∃x,Fit w0 (aD (F x::L)) w:=
 let ⟨x,hx,a,b,hd,e,⟨y,p⟩,q⟩:=h.sat
 ⟨y,⟨⟨x,hx,a,b,hd,e,p,q⟩,h.os,h.tape,h.output,h.size⟩⟩
theorem Fit.mw{α:Type}{F:α->bl}(x:α)(h:Fit w0 (aD (F x::L)) w):Fit w0 (aD (exs F::L)) w:=h.head λ_ p=>⟨x,p⟩
theorem Fit.Aq{p:Prop}(h:Fit w0 (aD (RX p::L)) w):p/\Fit w0 (aD L) w:=
 let ⟨_,_,_,_,_,_,⟨hp,_⟩,_⟩:=h.sat
 ⟨hp,h.drop⟩
theorem Fit.yC{p:Prop}(hp:p)(h:Fit w0 (aD L) w):Fit w0 (aD (RX p::L)) w:=
 h.imp λx hx=>⟨Hp.none,x,Hp.KL x,(Hp.M2 x).symm,⟨hp,rfl⟩,hx⟩
theorem Fit.vw(h:Fit w0 (aD (aD M::L)) w):Fit w0 (aD (M++L)) w:=h.eq (CD M L).symm
theorem Fit.uh(M L:List bl)(h:Fit w0 (aD (M++L)) w):Fit w0 (aD (aD M::L)) w:=h.eq (CD M L)
theorem Fit.block{b:Nat}{o:Obj}(h:Fit w0 (aD (pts b o::L)) w):w.heap[b]? = some o:=by
 obtain⟨x,hx,a,c,hd,e,p,q⟩:=h.sat;refine hx b o ?_;rw[e,p];unfold Hp.add;simp
theorem Fit.lt{b:Nat}{o:Obj}(h:Fit w0 (aD (pts b o::L)) w):b<w.heap.size:=(Array.getElem?_eq_some_iff.1 h.block).1
theorem Fit.cell{b:Nat}{cs:Array Value}{t:TypeId}{z:Nat×Nat}(h:Fit w0 (aD (pts b (.cells cs t z)::L)) w)(i:Nat){v:Value}(hv:cs[i]? = some v):w.cell? ⟨b,i,none⟩=some v:=by
 simp only[World.cell?,h.block]
 simpa using hv
theorem Fit.news{b:Nat}{cs:Array Value}{t:TypeId}{z:Nat×Nat}(h:Fit w0 (aD (pts b (.cells cs t z)::L)) w){xs:List Value}(hx:cs.toList=xs):∀j u,xs[j]? = some u->w.cell? ((⟨b,0,none⟩:Addr).add j)=some u:=by
 subst hx;intro j u hu;have e:(⟨b,0,none⟩:Addr).add j=⟨b,j,none⟩:=by unfold Addr.add;split<;>simp_all
 rw[e];exact h.cell j (by simpa using hu)
theorem Fit.free{b:Nat}{cs:Array Value}{t:TypeId}(h:Fit w0 (aD (pts b (.cells cs t)::L)) w)(i:Nat):w.frozen? ⟨b,i,none⟩=false:=by
 simp[World.frozen?,h.block]
theorem Fit.alloc(h:Fit w0 (aD L) w)(o:Obj):Fit w0 (aD (pts w.heap.size o::L)) (w.alloc o):=by
 obtain⟨x,hx,hp⟩:=h.sat;have hlt:∀k o',x k=some o'->k<w.heap.size:=λk o' hk=>(Array.getElem?_eq_some_iff.1 (hx k o' hk)).1;refine⟨⟨_,?_,(λk=>if k=w.heap.size then some o else Option.none),x,?_,rfl,rfl,hp⟩,h.os,h.tape,h.output,?_⟩
 ·intro k o' hk;unfold Hp.add at hk;by_cases e:k=w.heap.size
  ·subst e;simp at hk;subst hk;exact heap_alloc_new w o
  ·simp only[e,if_false]at hk;rw[Below.heap_alloc w o k (hlt k o' hk)];exact hx k o' hk
 ·intro k;by_cases e:k=w.heap.size
  ·right
   cases hk:x k with
   | none=>rfl
   | some o'=>have:=hlt k o' hk;omega
  ·left;simp[e]
 ·have:=h.size;simp;omega
theorem Fit.drew(h:Fit w0 P w):Fit w0 P w.drew:=⟨h.sat,h.os,h.tape,h.output,h.size⟩
theorem Fit.turn{b:Nat}{o o':Obj}{w':World}(h:Fit w0 (aD (pts b o::L)) w)(hb:w'.heap[b]? = some o')(hr:∀k,k≠b->k<w.heap.size->w'.heap[k]? = w.heap[k]?)
 (hos:w'.os=w.os) (ht:w'.tape=w.tape) (ho:w'.output=w.output) (hs:w.heap.size<=w'.heap.size):Fit w0 (aD (pts b o'::L)) w':=by
 obtain⟨x,hx,a,c,hd,e,p,q⟩:=h.sat;refine⟨⟨_,?_,(λk=>if k=b then some o' else Option.none),c,?_,rfl,rfl,q⟩,hos.trans h.os,ht.trans h.tape,ho.trans h.output,ET h.size hs⟩
 ·intro k o'' hk;unfold Hp.add at hk;by_cases ek:k=b
  ·subst ek;simp at hk;subst hk;exact hb
  ·simp only[ek,if_false]at hk;have hk':x k=some o'':=by rw[e,p];unfold Hp.add;simp[ek,hk]
   have hw:=hx k o'' hk';rw[hr k ek (Array.getElem?_eq_some_iff.1 hw).1];exact hw
 ·intro k;by_cases ek:k=b
  ·right
   rcases hd k with h1 | h1
   ·rw[p]at h1;simp[ek]at h1
   ·exact h1
  ·left;simp[ek]
theorem Fit.set{b:Nat}{cs:Array Value}{t:TypeId}(h:Fit w0 (aD (pts b (.cells cs t)::L)) w)(i:Nat)(v:Value) :
 Fit w0 (aD (pts b (.cells (cs.setIfInBounds i v) t)::L)) (w.setCell ⟨b,i,none⟩ v):=by
 refine h.turn (w':=w.setCell ⟨b,i,none⟩ v) ?_ ?_ rfl rfl rfl (by simp)
 ·simp[World.setCell,Array.getElem?_modify,h.block]
 ·intro k hk _;exact Below.heap_setCell _ _ _ _ hk
end
def old(agb:World):bl:=λh=>h=λk=>agb.heap[k]?
theorem Fit.begin(agb:World):Fit agb (aD [old agb]) agb:=
 ⟨⟨λk=>agb.heap[k]?,λ_ _ h=>h,by show sep (old agb) ON _;rw[HN];exact rfl⟩,rfl,rfl,rfl,gQ _⟩
theorem Fit.below{agb w:World}{L:List bl}(h:Fit agb (aD (old agb::L)) w):Below agb.heap.size agb w:=by
 obtain⟨x,hx,a,c,hd,e,p,q⟩:=h.sat;refine⟨h.os,h.tape,h.output,h.size,λk hk => ?_⟩;have hk':agb.heap[k]? = some agb.heap[k]:=Array.getElem?_eq_getElem hk;rw[hk'];refine hx k _ ?_;rw[e,p];unfold Hp.add;simp[hk']
theorem Fit.R0{z agb w:World}{L:List bl}(h:Fit z (aD (old agb::L)) w){k:Nat}{o:Obj}(hk:agb.heap[k]? = some o):w.heap[k]? = some o:=by
 obtain⟨x,hx,a,c,hd,e,p,q⟩:=h.sat;refine hx k _ ?_;rw[e,p];unfold Hp.add;simp[hk]
theorem Fit.M4{z agb w:World}{L:List bl}{ad:Addr}{u:Value}(h:Fit z (aD (old agb::L)) w)(hc:agb.cell? ad=some u):w.cell? ad=some u:=by
 have hlt:=World.block_lt_of_cell? agb ad hc;have hk:agb.heap[ad.block]? = some agb.heap[ad.block]:=Array.getElem?_eq_getElem hlt;have:=h.R0 hk;simp only[World.cell?]at hc⊢;rw[this];rw[hk]at hc;exact hc
structure uD{α:Type}(enc:α->List Value)(sz:Nat):Prop where
 len:∀x,(enc x).length=sz
 one:∀x,∀u∈enc x,u.oneCell'=true
 pos:0<sz
theorem uD.flat{α:Type}{enc:α->List Value}{sz:Nat}(he:uD enc sz)(l:List α):(l.flatMap enc).length=l.length*sz:=by
 induction l with
 | nil=>simp
 | cons x l ih=>rw[OW,jM,he.len,ih,Bm,vn,Nat.one_mul,OX]
theorem uD.As{α:Type}{enc:α->List Value}{sz:Nat}(he:uD enc sz)(l:List α):∀u∈l.flatMap enc,u.oneCell'=true:=by
 intro u hu;obtain⟨x,_,hx⟩:=List.mem_flatMap.1 hu;exact he.one x u hx
theorem uD.get{α:Type}{enc:α->List Value}{sz:Nat}(he:uD enc sz)(l:List α)(i f:Nat)(x:α)(hi:l[i]? = some x)(hf:f<sz):(l.flatMap enc)[i*sz+f]? = (enc x)[f]?:=by
 induction l generalizing i with
 | nil=>simp at hi
 | cons y l ih =>
  rw[OW];cases i with
  | zero =>
   simp at hi;subst hi;rw[Nat.zero_mul,Bn,List.getElem?_append_left (by rw[he.len];exact hf)]
  | succ i =>
   rw[List.getElem?_append_right (by rw[he.len,vn];omega),he.len,show(i+1)*sz+f-sz=i*sz+f by rw[vn];omega];exact ih i (by simpa using hi)
theorem uD.set{α:Type}{enc:α->List Value}{sz:Nat}(he:uD enc sz)(l:List α)(i:Nat)(x:α)(hi:i<l.length) :
 (l.set i x).flatMap enc=(l.flatMap enc).take (i*sz)++enc x++(l.flatMap enc).drop (i*sz+sz):=by
 induction l generalizing i with
 | nil=>simp at hi
 | cons y l ih =>
  cases i with
  | zero =>
   simp only[List.set_cons_zero,OW,Nat.zero_mul,wI,Bo,Bn]
   congr 1
   rw[KE (by rw[he.len];exact gQ _),zn (by rw[he.len];exact gQ _),Bo]
  | succ i =>
   simp only[List.set_cons_succ,OW];rw[ih i (by simpa using hi)];have h1:(i+1)*sz=sz+i*sz:=by rw[vn];omega
   have t1:(enc y).take (sz+i*sz)=enc y:=GK (by rw[he.len];omega);have d1:(enc y).drop (sz+i*sz+sz)=[]:=zn (by rw[he.len];omega);rw[h1,KF,t1,he.len,show sz+i*sz-sz=i*sz by omega,List.drop_append,d1,he.len,show sz+i*sz+sz-sz=i*sz+sz by omega];simp only[Bo,rK]
def rowOf{α:Type}(e:TypeId)(sz:Nat)(enc:α->List Value)(v:Value)(l:List α):bl:=λh =>
 (v= .slice none 0 0/\l=[]/\h=Hp.none)∨
 ∃g cap cur,v= .slice (some ⟨g,0,none⟩) l.length cap/\l.length<=cap/\cap<=maxLen/\cur.size=cap*sz/\cur.toList.take (l.length*sz)=l.flatMap enc/\pts g (.cells cur e) h
def slc{α:Type}(e:TypeId)(sz:Nat)(enc:α->List Value)(g cap:Nat)(l:List α):bl:=λh =>
 l.length<=cap/\cap<=maxLen/\∃cur:Array Value,cur.size=cap*sz/\cur.toList.take (l.length*sz)=l.flatMap enc/\pts g (.cells cur e) h
section
variable {w0 w:World}{L:List bl}{α:Type}{e:TypeId}{sz:Nat}{enc:α->List Value}{v:Value}{l:List α}{g cap:Nat}
theorem Fit.rows(h:Fit w0 (aD (rowOf e sz enc v l::L)) w):(v= .slice none 0 0/\l=[]/\Fit w0 (aD L) w)∨∃g cap,v= .slice (some ⟨g,0,none⟩) l.length cap/\l.length<=cap/\Fit w0 (aD (slc e sz enc g cap l::L)) w:=by
 obtain⟨x,hx,a,c,hd,ee,hp,q⟩:=h.sat;rcases hp with ⟨h1,h2,h3⟩ | ⟨g,cap,cur,h1,h2,h3,h4,h5,h6⟩
 ·left
  exact⟨h1,h2,h.drop⟩
 ·right
  exact⟨g,cap,h1,h2,⟨x,hx,a,c,hd,ee,⟨h2,h3,cur,h4,h5,h6⟩,q⟩,h.os,h.tape,h.output,h.size⟩
theorem Fit.T3(h:Fit w0 (aD (rowOf e sz enc v l::L)) w)(hl:0<l.length) :∃g cap,v= .slice (some ⟨g,0,none⟩) l.length cap/\l.length<=cap/\Fit w0 (aD (slc e sz enc g cap l::L)) w:=by
 rcases h.rows with ⟨_,h2,_⟩ | h
 ·rw[h2]at hl;simp at hl
 ·exact h
theorem Fit.Xc{ca:fB}{m cc:Nat}(h:Fit w0 (aD (rowOf e sz enc (.slice ca m cc) l::L)) w)(hl:0<l.length) :
 ∃g,ca=some ⟨g,0,none⟩/\Fit w0 (aD (slc e sz enc g cc l::L)) w:=by
 obtain⟨g,cap,e,_,h⟩:=h.T3 hl;simp only[Value.slice.injEq]at e;obtain⟨rfl,_,rfl⟩:=e;exact⟨g,rfl,h⟩
theorem Fit.Y8(h:Fit w0 (aD (slc e sz enc g cap l::L)) w):Fit w0 (aD (rowOf e sz enc (.slice (some ⟨g,0,none⟩) l.length cap) l::L)) w:=
 h.head λ_ ⟨h1,h2,cur,h3,h4,h5⟩=>.inr ⟨g,cap,cur,rfl,h1,h2,h3,h4,h5⟩
theorem Fit.Qn{m:Nat}(hm:m=l.length)(h:Fit w0 (aD (slc e sz enc g cap l::L)) w):Fit w0 (aD (rowOf e sz enc (.slice (some ⟨g,0,none⟩) m cap) l::L)) w:=hm▸ h.Y8
theorem Fit.Xd{ca:fB}{m:Nat}(hca:ca=some ⟨g,0,none⟩)(hm:m=l.length)(h:Fit w0 (aD (slc e sz enc g cap l::L)) w):Fit w0 (aD (rowOf e sz enc (.slice ca m cap) l::L)) w:=by
 subst hca;subst hm;exact h.Y8
theorem Fit.fC(h:Fit w0 (aD L) w):Fit w0 (aD (rowOf e sz enc (.slice none 0 0) ([]:List α)::L)) w:=
 h.imp λx hx=>⟨Hp.none,x,Hp.KL x,(Hp.M2 x).symm,.inl ⟨rfl,rfl,rfl⟩,hx⟩
theorem Fit.HO(h:Fit w0 (aD (rowOf e sz enc v l::L)) w) :∃a cap,v= .slice a l.length cap/\(a=none->l=[]/\cap=0)/\l.length<=cap:=by
 rcases h.rows with ⟨rfl,rfl,_⟩ | ⟨g,cap,rfl,hc,_⟩
 ·exact⟨none,0,rfl,λ_=>⟨rfl,rfl⟩,gQ _⟩
 ·exact⟨_,cap,rfl,(λh=>by cases h),hc⟩
theorem Fit.rS{ca:fB}{m cc:Nat}(h:Fit w0 (aD (rowOf e sz enc (.slice ca m cc) l::L)) w):m=l.length:=by
 obtain⟨a,cap,e,_,_⟩:=h.HO;simp only[Value.slice.injEq]at e;exact e.2.1
theorem Fit.zq(h:Fit w0 (aD (slc e sz enc g cap l::L)) w):l.length<=cap/\cap<=maxLen:=by
 obtain⟨x,hx,a,c,hd,ee,⟨h1,h2,_⟩,q⟩:=h.sat;exact⟨h1,h2⟩
theorem Fit.qK(h:Fit w0 (aD (slc e sz enc g cap l::L)) w) :∃cur:Array Value,cur.size=cap*sz/\cur.toList.take (l.length*sz)=l.flatMap enc/\Fit w0 (aD (pts g (.cells cur e)::L)) w:=by
 obtain⟨x,hx,a,c,hd,ee,⟨h1,h2,cur,h3,h4,h5⟩,q⟩:=h.sat;exact⟨cur,h3,h4,⟨x,hx,a,c,hd,ee,h5,q⟩,h.os,h.tape,h.output,h.size⟩
theorem Fit.Qo(he:uD enc sz)(h:Fit w0 (aD (slc e sz enc g cap l::L)) w)(i f:Nat)(x:α)(u:Value)(hi:l[i]? = some x)(hf:(enc x)[f]? = some u):w.cell? ⟨g,i*sz+f,none⟩=some u:=by
 obtain⟨cur,h1,h2,h3⟩:=h.qK;have hfs:f<sz:=by rw[<-he.len x];exact(List.getElem?_eq_some_iff.1 hf).1
 have G6:i<l.length:=(List.getElem?_eq_some_iff.1 hi).1;refine h3.cell _ ?_;have h4:=he.get l i f x hi hfs;rw[<-h2,List.getElem?_take]at h4;have:i*sz+f<l.length*sz:=by
  have:(i+1)*sz<=l.length*sz:=s9 _ G6;rw[vn]at this;omega
 rw[bg this,hf]at h4
 simpa using h4
theorem Fit.T4(h:Fit w0 (aD (slc e sz enc g cap l::L)) w)(j:Nat):w.frozen? ⟨g,j,none⟩=false:=by
 obtain⟨cur,h1,h2,h3⟩:=h.qK;exact h3.free j
theorem JQ{β:Type}(cur xs:List β)(n i:Nat)(v:β)(h:cur.take n=xs)(_hi:i<n):(cur.set i v).take n=xs.set i v:=by
 subst h;rw[List.take_set]
theorem Xe{β:Type}(A B C:List β)(k f:Nat)(u:β)(hk:k=A.length)(hf:f<B.length):(A++B++C).set (k+f) u=A++B.set f u++C:=by
 subst hk;rw[rK,List.set_append_right _ _ I,show A.length+f-A.length=f by omega,List.set_append_left _ _ hf,rK]
theorem Fit.Xf(he:uD enc sz)(h:Fit w0 (aD (slc e sz enc g cap l::L)) w)(i f:Nat)(x y:α)(u:Value)(hi:l[i]? = some x)(hf:f<sz)(hy:enc y=(enc x).set f u) :
 Fit w0 (aD (slc e sz enc g cap (l.set i y)::L)) (w.setCell ⟨g,i*sz+f,none⟩ u):=by
 obtain⟨h1',h2'⟩:=h.zq;obtain⟨cur,h1,h2,h3⟩:=h.qK;have G6:i<l.length:=(List.getElem?_eq_some_iff.1 hi).1;refine(h3.set (i*sz+f) u).head λz hz=>⟨by simpa using h1',h2',cur.setIfInBounds (i*sz+f) u,by simpa using h1,?_,hz⟩;have hlt:i*sz+f<l.length*sz:=by
  have:(i+1)*sz<=l.length*sz:=s9 _ G6;rw[vn]at this;omega
 have Ir:l.set i x=l:=by
  apply Ap
  intro j;by_cases hj:i=j
  ·subst hj;rw[List.getElem?_set_self G6,hi]
  ·rw[List.getElem?_set_ne hj]
 have hA:((l.flatMap enc).take (i*sz)).length=i*sz:=by
  have hle:i*sz<=l.length*sz:=s9 _ (Nat.le_of_lt G6);rw[vO,he.flat];exact zo hle
 have e1:=he.set l i x G6;rw[Ir]at e1;rw[Array.toList_setIfInBounds,gU,JQ _ _ _ _ _ h2 hlt,he.set l i y G6,hy]
 conv=>lhs;rw[e1]
 exact Xe _ _ _ _ _ _ hA.symm (by rw[he.len];exact hf)
end
section
variable {P:Program}{w0 w:World}{L:List bl}{α:Type}{e:TypeId}{sz:Nat}{enc:α->List Value}{v:Value}{l:List α}
theorem Is(he:uD enc sz)(t ty:TypeId)(i:TypeInfo)(z:Value)(bytes:Nat)(ht:P.underlying t=some (.slice e))(hi:P.info? e=some i)(hz:i.zero=some z)
 (hsize:i.size=sz) (hby:i.bytes=bytes) (hzs:z.cells.size=sz) (h:Fit w0 (aD (rowOf e sz enc v l::L)) w)
 (ad:Addr) (m c:Nat) (news:List α) (hm:news.length=m) (hnews:∀j u,(news.flatMap enc)[j]? = some u->w.cell? (ad.add j)=some u)
 (h63:l.length+m<=maxLen) (hbytes:(l.length+m)*bytes<=140737488355328) :
 ∃v' w',(Builtin.append_ #[t,t] ty #[v,.slice (some ad) m c]).run P w= .ok v' w'/\Fit w0 (aD (rowOf e sz enc v' (l++news)::L)) w':=by
 subst hsize;subst hby;have hlen:(news.flatMap enc).length=m*i.size:=by rw[he.flat,hm]
 have Xg:((l.length+m:Nat):Int)<=9223372036854775807:=by simp only[maxLen]at h63;omega
 have grown:∀old,old<l.length+m->Fit w0 (aD L) w->
  Fit w0 (aD (rowOf e i.size enc (.slice (some ⟨w.heap.size,0,none⟩) (l.length+m) (grownCap w (l.length+m) old e)) (l++news)::L))
   (w.drew.alloc (.cells ((l.flatMap enc).toArray++(news.flatMap enc).toArray++Builtin.zeroCells z.cells (grownCap w (l.length+m) old e-(l.length+m))) e)):=by
  intro old ho hF;have hge:=grownCap_ge w (l.length+m) old e;have hcm:grownCap w (l.length+m) old e<=maxLen:=grownCap_le_maxLen w (l.length+m) old e h63;refine(hF.drew.alloc _).head λx hx=>.inr ⟨w.heap.size,_,_,by rw[jM,hm],by rw[jM,hm];exact hge,hcm,?_,?_,hx⟩
  ·simp only[Array.size_append,DY,size_zeroCells,hzs,he.flat,hm,<-vn]
   congr 1
   omega
  ·rw[EU,jM,hm];simp only[Array.toList_append];rw[show(l.length+m)*i.size=((l.flatMap enc)++(news.flatMap enc)).length by rw[jM,hlen,he.flat,vn]];exact GL
 rcases h.rows with ⟨rfl,rfl,hF⟩ | ⟨g,cap,rfl,hc,hF⟩
 ·by_cases T5:m=0
  ·subst T5;have hn:news=[]:=GM hm;subst hn;refine⟨.slice none 0 0,w,?_,hF.fC⟩;simp[Builtin.append_,run_underlying ht,sizeOf,typeInfo,hi,Builtin.lenOf,Builtin.firstCells,loadCells,loadCellsFrom]
  ·have hr:=run_append_nil (P:=P) w t ty e i z ht hi hz ad m c (news.flatMap enc) hlen hnews I (by simp at Xg;omega) (by have hb:=hbytes;simp only[zp,Bn]at hb;omega);have hg:=grown 0 I hF;simp only[zp,Bn,Bo,List.flatMap_nil,Array.empty_append]at hg;exact⟨_,_,hr,by simpa using hg⟩
 ·obtain⟨cur,hs,htk,hP⟩:=hF.qK;obtain⟨_,hcm⟩:=hF.zq;by_cases hroom:l.length+m<=cap
  ·have hfit:l.length*i.size+(news.flatMap enc).length<=cur.size:=by rw[hlen,hs,<-vn];exact s9 _ hroom
   have hr:=run_append_room (P:=P) w t ty e i ht hi g l.length cap cur hP.block ad m c (news.flatMap enc) hlen hnews (he.As news) hroom hfit;refine⟨_,_,hr,?_⟩;refine(hP.turn (w':=w.setRow g (cur.toList.take (l.length*i.size)++news.flatMap enc++cur.toList.drop (l.length*i.size+(news.flatMap enc).length)).toArray) (setRow_heap w g cur _ e _ hP.block) (λk hk _=>setRow_other w g k _ hk) rfl rfl rfl (by simp)).head ?_;intro x hx;refine .inr ⟨g,cap,_,by rw[jM,hm],by rw[jM,hm];exact hroom,hcm,?_,?_,hx⟩
   ·simp only[DY,jM,vO,Cx,vP];omega
   ·rw[htk,EU,jM,hm];rw[show(l.length+m)*i.size=((l.flatMap enc)++(news.flatMap enc)).length by rw[jM,hlen,he.flat,vn]];exact GL
  ·have holds:∀j u,(l.flatMap enc)[j]? = some u->w.cell? ((⟨g,0,none⟩:Addr).add j)=some u:=by
    intro j u hu;rw[w4,Bn];refine hP.cell j ?_;rw[<-htk,List.getElem?_take]at hu;split at hu
    ·simpa using hu
    ·cases hu
   have hr:=run_append_grow (P:=P) w t ty e i z ht hi hz ⟨g,0,none⟩ l.length cap (l.flatMap enc) (he.flat l) holds ad m c (news.flatMap enc) hlen hnews I Xg (growslice_fits I hbytes);exact⟨_,_,hr,grown cap I hP.drop⟩
end
end SL
end
section
namespace GX
open Go Go.RowKit SL
def lk:List (Nat×Value)->(Nat->Value)->Nat->Value
 | [],j,t=>j t
 | (k,v)::r,j,t=>bif Nat.beq t k then v else lk r j t
def eO(e:Nat->Value):Operand->Value
 | .tmp t=>e t
 | .const v=>v
 | .global g=>.pointer (some ⟨g,0,none⟩)
 | .func f=>.func (.func f) #[] #[]
structure cR(D:List Deferred)(n:Nat)(e:Nat->Value)(a:Act):Prop where
 size:a.tmps.size=n
 get:∀t,a.tmps.getD t undef=e t
 defers:a.defers=D
abbrev jY(n:Nat)(e:Nat->Value)(a:Act):Prop:=cR [] n e a
section
variable {P:Program}{ops:Array Oper}{Q:Exit->Act->World->Prop}{a:Act}{w w0 w1:World}{rest:List Oper}{o:Oper}{n d t:Nat}{v:Value}{l:List (Nat×Value)}{j e:Nat->Value}{L:List bl}{H:bl}{Df:List Deferred}
theorem cR.eval(h:cR Df n e a):a.eval=eO e:=by
 funext x
 cases x with
 | tmp t=>exact h.get t
 | _=>rfl
theorem cR.put(h:cR Df n (lk l j) a)(d:Nat)(v:Value)(hd:Nat.blt d n=true):cR Df n (lk ((d,v)::l) j) (a.put (some d) v):=by
 have hd':d<a.tmps.size:=by rw[h.size];exact qx hd
 refine⟨by simp[Act.put,h.size],λt => ?_,h.defers⟩;show(a.tmps.setIfInBounds d v).getD t undef=bif Nat.beq t d then v else lk l j t;rw[<-h.get t];by_cases e:t=d
 ·subst e;simp[w5,hd']
 ·have hb:Nat.beq t d=false:=by
   cases hb:Nat.beq t d with
   | false=>rfl
   | true=>exact absurd (Qj hb) e
  rw[hb];simp[w5,Array.getElem?_setIfInBounds_ne (Ne.symm e)]
def allEq(e:Nat->Value):List (Nat×Value)->Prop
 | []=>True
 | (t,v)::r=>e t=v/\allEq e r
theorem w8:∀{l:List (Nat×Value)},allEq e l->lk l e=e
 | [],_=>rfl
 | (k,v)::r,h=>by
  funext t
  show(bif Nat.beq t k then v else lk r e t)=e t;rw[w8 h.2];cases hb:Nat.beq t k with
  | false=>rfl
  | true=>have:=Qj hb;subst this;exact h.1.symm
theorem cR.fold(h:cR Df n e a)(l:List (Nat×Value))(hl:allEq e l) :∃j,cR Df n (lk l j) a:=⟨e,by rw[w8 hl];exact h⟩
theorem wn(h:o.guard=none):Region.wanted o (yielded ops a.tmps)=true:=by simp[Region.wanted,h]
theorem wg{i:Nat}{b b':Bool}(hr:cR Df n e a)(hg:o.guard=some (i,b))(hi:(ops[i]?).bind (·.dst)=some t)(ht:Nat.blt t n=true)(he:e t= .bool b') :
 Region.wanted o (yielded ops a.tmps)=(b'==b):=by
 have ht':t<a.tmps.size:=by rw[hr.size];exact qx ht
 have hg2:a.tmps[t]? = some (.bool b'):=by
  have:=hr.get t;rw[he,w5,Array.getElem?_eq_getElem ht']at this;rw[Array.getElem?_eq_getElem ht']
  simpa using this
 simp only[Region.wanted,hg,yielded,hi,Option.bind_some,hg2];cases b'<;>cases b<;>rfl
theorem yc(hw:vM o ops a)(h:o.wp P a w (wpList P ops Q rest) Q):wpList P ops Q (o::rest) a w:=by
 unfold wpList;rw[bg hw];exact .inl h
theorem Bp(hw:vM o ops a)(hd:o.dst=some d)(hn:Nat.blt d n=true)(hr:cR Df n (lk l j) a)
 (hrun:(execOp (eO (lk l j)) o).run P w= .ok (.value v) w) (k:∀a,cR Df n (lk ((d,v)::l) j) a->wpList P ops Q rest a w):wpList P ops Q (o::rest) a w:=by
 refine yc hw ?_;unfold Oper.wp;rw[hr.eval,hrun,Oper.upon_value,hd];exact k _ (hr.put d v hn)
theorem sV(hw:vM o ops a)(hd:o.dst=some d)(hn:Nat.blt d n=true)(hr:cR Df n (lk l j) a)
 (hrun:(execOp (eO (lk l j)) o).run P w= .ok (.value v) w1) (k:∀a,cR Df n (lk ((d,v)::l) j) a->wpList P ops Q rest a w1):wpList P ops Q (o::rest) a w:=by
 refine yc hw ?_;unfold Oper.wp;rw[hr.eval,hrun,Oper.upon_value,hd];exact k _ (hr.put d v hn)
theorem EX(hw:vM o ops a)(hd:o.dst=none)(hr:cR Df n (lk l j) a)
 (hrun:(execOp (eO (lk l j)) o).run P w= .ok .skip w1) (k:wpList P ops Q rest a w1):wpList P ops Q (o::rest) a w:=by
 refine yc hw ?_;unfold Oper.wp;rw[hr.eval,hrun,Oper.upon_skip,hd];exact k
theorem OY(hw:Region.wanted o (yielded ops a.tmps)=false)(hd:o.dst=some d)(hn:Nat.blt d n=true)(hr:cR Df n (lk l j) a)
 (k:∀a,cR Df n (lk ((d,undef)::l) j) a->wpList P ops Q rest a w):wpList P ops Q (o::rest) a w:=by
 unfold wpList;rw[gl hw,hd];exact k _ (hr.put d undef hn)
theorem OZ{cs:Array Value}{T:TypeId}{vf:Nat->Value}(hw:vM o ops a)(hd:o.dst=some d)(hn:Nat.blt d n=true)(hr:cR Df n (lk l j) a)(hF:Fit w0 (aD L) w)
 (hrun:(execOp (eO (lk l j)) o).run P w= .ok (.value (vf w.heap.size)) (w.alloc (.cells cs T)))
 (k:∀b w1 a,Fit w0 (aD (pts b (.cells cs T)::L)) w1->cR Df n (lk ((d,vf b)::l) j) a->wpList P ops Q rest a w1):wpList P ops Q (o::rest) a w:=
 sV hw hd hn hr hrun λ_ G7=>k _ _ _ (hF.alloc _) G7
theorem vQ{f:FuncId}{args:Array Value}{R:Ending->World->Prop}(hw:vM o ops a)(hd:o.dst=some d)(hn:Nat.blt d n=true)(hr:cR Df n (lk l j) a)
 (hrun:(execOp (eO (lk l j)) o).run P w= .ok (.enter f args) w) (hc:Calls P f args w R)
 (k:∀e w1,R e w1->∃v,e= .returned v/\∀a,cR Df n (lk ((d,v)::l) j) a->wpList P ops Q rest a w1):wpList P ops Q (o::rest) a w:=by
 refine yc hw ?_;unfold Oper.wp;rw[hr.eval,hrun,Oper.upon_enter,hd];refine hc.mono λe w1 h => ?_;obtain⟨v,rfl,h2⟩:=k e w1 h;exact h2 _ (hr.put d v hn)
theorem rb{b c:Bool}{s:Sem Next}{w w':World}(h:s.run P w= .ok (.value (.bool b)) w')(hz:b=c):s.run P w= .ok (.value (.bool c)) w':=hz▸ h
theorem i64_in(x:Int)(h:-9223372036854775808<=x/\x<=9223372036854775807):IntKind.i64.wrap x=x:=IntWalk.i64_in _ h
def yD:Option TypeDesc->Bool
 | some (.struct _)=>false
 | some (.array _ _)=>false
 | some _=>true
 | none=>false
theorem Lj{t:TypeId}(h:yD (P.underlying t)=true):(isAgg t).run P w= .ok false w:=by
 cases hu:P.underlying t with
 | none=>rw[hu]at h;cases h
 | some D =>
  rw[hu]at h;simp only[isAgg,n9,run_underlying hu,oa];cases D<;>first | rfl | cases h
theorem rl{x:Operand}{ad:Addr}(ho:o.op= .load t x)(hx:eO e x= .pointer (some ad))(hu:yD (P.underlying t)=true)(hc:w.cell? ad=some v) :
 (execOp (eO e) o).run P w= .ok (.value v) w:=by
 unfold execOp;simp only[ho,Instr.loadAt,hx,Instr.sureAddr,loadVar,n9,uR,oa,Lj hu];simp[go_sem,hc]
theorem rs{x y:Operand}{ad:Addr}{u:Value}(ho:o.op= .store t x y)(hx:eO e x= .pointer (some ad))(hy:eO e y=v)(hv:v.cells=#[v])(h1:v.oneCell'=true)(hs:(P.info? t).map (·.size)=some 1)(hc:w.cell? ad=some u)(hf:w.frozen? ad=false) :
 (execOp (eO e) o).run P w= .ok .skip (w.setCell ad v):=by
 have hst:(Instr.storeAt t (.pointer (some ad)) v).run P w= .ok () (w.setCell ad v):=by
  cases hi:P.info? t with
  | none=>simp[hi]at hs
  | some i =>
   simp[hi]at hs;have ha:ad.add 0=ad:=by unfold Addr.add;rw[bg rfl]
   simp only[Instr.storeAt,Instr.sureAddr,storeVar,n9,uR,oa,sizeOf,typeInfo,hv,run_program,hi];simp[storeCells,ha,hs,run_store P w ad v _ h1,hc,hf]
 unfold execOp;simp only[ho,hx,hy,n9,hst,oa,uR]
theorem G8{c x y:Operand}{b:Bool}(ho:o.op= .pick c x y)(hc:eO e c= .bool b)(hb:b=true)(hx:eO e x=v):(execOp (eO e) o).run P w= .ok (.value v) w:=by
 subst hb;subst hx;unfold execOp;simp[ho,hc,asBool]
theorem It{c x y:Operand}{b:Bool}(ho:o.op= .pick c x y)(hc:eO e c= .bool b)(hb:b=false)(hx:eO e y=v):(execOp (eO e) o).run P w= .ok (.value v) w:=by
 subst hb;subst hx;unfold execOp;simp[ho,hc,asBool]
theorem ri{x y:Operand}{g off len cap:Nat}{k:IntKind}{i:Int}{E:TypeId}{sz:Nat}(ho:o.op= .indexAddr t x y)(hx:eO e x= .slice (some ⟨g,off,none⟩) len cap)(hy:eO e y= .int k i)
 (ht:P.underlying t=some (.slice E)) (hs:(P.info? E).map (·.size)=some sz) (h0:0<=i) (h1:i<len):(execOp (eO e) o).run P w= .ok (.value (.pointer (some ⟨g,off+i.toNat*sz,none⟩))) w:=by
 unfold execOp;simp only[ho,hx,hy];cases hi:P.info? E with
 | none=>simp[hi]at hs
 | some q =>
  simp[hi]at hs;simp[Instr.indexAt,run_underlying ht,asIntOf,h0,h1,sizeOf,typeInfo,hi,hs,w4]
theorem ri0{x y:Operand}{g len cap:Nat}{k:IntKind}{i:Int}{E:TypeId}{sz:Nat}(ho:o.op= .indexAddr t x y)(hx:eO e x= .slice (some ⟨g,0,none⟩) len cap)(hy:eO e y= .int k i)
 (ht:P.underlying t=some (.slice E)) (hs:(P.info? E).map (·.size)=some sz) (h0:0<=i) (h1:i<len):(execOp (eO e) o).run P w= .ok (.value (.pointer (some ⟨g,i.toNat*sz,none⟩))) w:=by
 have:=ri (w:=w) ho hx hy ht hs h0 h1
 rwa [Bn]at this
theorem aag{x y:Operand}{g len cap:Nat}{ca:fB}{k:IntKind}{i:Int}{E:TypeId}{sz:Nat}(hca:ca=some ⟨g,0,none⟩)(ho:o.op= .indexAddr t x y)(hx:eO e x= .slice ca len cap)(hy:eO e y= .int k i)
 (ht:P.underlying t=some (.slice E)) (hs:(P.info? E).map (·.size)=some sz) (h0:0<=i) (h1:i<len):(execOp (eO e) o).run P w= .ok (.value (.pointer (some ⟨g,i.toNat*sz,none⟩))) w:=
 ri0 ho (hca▸ hx) hy ht hs h0 h1
theorem rie{x y:Operand}{g off len cap:Nat}{ca:fB}{k:IntKind}{i:Int}{E:TypeId}{sz:Nat}(hca:ca=some ⟨g,off,none⟩)(ho:o.op= .indexAddr t x y)(hx:eO e x= .slice ca len cap)(hy:eO e y= .int k i)
 (ht:P.underlying t=some (.slice E)) (hs:(P.info? E).map (·.size)=some sz) (h0:0<=i) (h1:i<len):(execOp (eO e) o).run P w= .ok (.value (.pointer (some ⟨g,off+i.toNat*sz,none⟩))) w:=
 ri ho (hca▸ hx) hy ht hs h0 h1
theorem M5{x y:Operand}{k:IntKind}{p q:Int}{T T':TypeId}(ho:o.op= .binOp .rem T x y T')(hx:eO e x= .int k p)(hy:eO e y= .int k q)(hq:q≠0):(execOp (eO e) o).run P w= .ok (.value (.int k (p.tmod q))) w:=by
 unfold execOp;simp[ho,hx,hy,eqGuard,binOp,Op.intDiv,hq]
theorem T6{x y:Operand}{k:IntKind}{p q:Int}{T T':TypeId}(ho:o.op= .binOp .quo T x y T')(hx:eO e x= .int k p)(hy:eO e y= .int k q)(hq:q≠0):(execOp (eO e) o).run P w= .ok (.value (.int k (k.wrap (p.tdiv q)))) w:=by
 unfold execOp;simp[ho,hx,hy,eqGuard,binOp,Op.intDiv,hq]
theorem M6{K:Act->World->Prop}(h:K a w):Exit.then K Q .normal a w:=h
theorem Iu{i:Nat}(h:Q .normal a w):Exit.inBlock i Q .normal a w:=h
theorem T7{i:Nat}(h:Q .normal a w):Exit.inBlock i Q (.exit i) a w:=by show(if i=i then _ else _);rw[bg rfl];exact h
theorem Di{i i':Nat}(hne:i'≠i)(h:Q (.exit i') a w):Exit.inBlock i Q (.exit i') a w:=by show(if i'=i then _ else _);rw[cQ hne];exact h
theorem Iv{c:Operand}{x y:Code}{b:Bool}(hr:cR Df n e a)(hc:eO e c= .bool b)(hb:b=true)(h:x.wp P Q a w):(Code.cond c x y).wp P Q a w:=
 wp_cond_true (by rw[hr.eval,hc,hb]) h
theorem Iw{c:Operand}{x y:Code}{b:Bool}(hr:cR Df n e a)(hc:eO e c= .bool b)(hb:b=false)(h:y.wp P Q a w):(Code.cond c x y).wp P Q a w:=
 wp_cond_false (by rw[hr.eval,hc,hb]) h
theorem dr{β:Type}{c:Code}(μ:β->Nat)(agd:β->Act->World->Prop)(x0:β)(h0:agd x0 a w)
 (round:∀x a w,agd x a w->c.wp P (Exit.then (λa w =>∃x',agd x' a w/\μ x'<μ x) Q) a w):(Code.loop c).wp P Q a w:=by
 have key:∀m x a w,μ x=m->agd x a w->∀b k cs,∃e a' w',Q e a' w'/\Arrives P (lone (b.at a (.code c:: .inLoop c::k)) cs w) b k cs e a' w':=by
  intro m
  induction m using Nat.strongRecOn with
  | _ m ih =>
   intro x a w hm hI b k cs;obtain⟨e,a1,w1,hq,M7⟩:=round x a w hI b (.inLoop c::k) cs;cases e with
   | normal =>
    obtain⟨x',hI',hlt⟩:=hq;obtain⟨e2,a2,w2,hq2,abE⟩:=ih (μ x') (hm▸ hlt) x' a1 w1 rfl hI' b k cs;exact⟨e2,a2,w2,hq2,.of_steps (Steps.trans M7 (.one step_inLoop)) abE⟩
   | exit id=>exact⟨_,a1,w1,hq,.pass (x:=.inLoop c) rfl (λ_ _=>.inl (by simp)) M7⟩
   | goto l=>exact⟨_,a1,w1,hq,.pass (x:=.inLoop c) rfl (λ_ _=>.inl (by simp)) M7⟩
   | ret=>exact⟨_,a1,w1,hq,.pass (x:=.inLoop c) rfl (λ_ _=>.inl (by simp)) M7⟩
   | panic ch=>exact⟨_,a1,w1,hq,.pass (x:=.inLoop c) rfl (λ_ _=>.inl (by simp)) M7⟩
   | outgrown=>exact⟨_,a1,w1,hq,.pass (x:=.inLoop c) rfl (λ_ _=>.inl (by simp)) M7⟩
 intro b k cs;obtain⟨e,a',w',hq,M7⟩:=key _ x0 a w rfl h0 b k cs;exact⟨e,a',w',hq,.of_steps (.one step_loop) M7⟩
theorem cW{β:Type}{x y:Code}(agd:β->Act->World->Prop)(h:x.wp P (Exit.then (λa w =>∃g,agd g a w) Q) a w)(k:∀g a w,agd g a w->y.wp P Q a w):(Code.seq x y).wp P Q a w:=
 wp_seq (Code.wp_mono (λe a w q=>by
  cases e with
  | normal=>obtain⟨g,hg⟩:=q;exact k g a w hg
  | _=>exact q) h)
theorem Ix(args:Array Value)(m t:Nat):(args++Array.replicate m undef).getD t undef=args.getD t undef:=by
 simp only[w5,Array.getElem?_append,Array.getElem?_replicate];by_cases h:t<args.size
 ·rw[bg h]
 ·rw[cQ h,Array.getElem?_eq_none I];split<;>rfl
theorem enter{f:FuncId}{fn:Func}{c:Code}{args:Array Value}{R:Ending->World->Prop}(hf:P.funcs[f]? = some fn)(hb:fn.body=some c)(n:Nat)(hn:fn.ntmps=n)(hs:Nat.ble args.size n=true)
 (l:List (Nat×Value)) (hl:allEq (λt=>args.getD t undef) l) (k:∀j a,jY n (lk l j) a->c.wp P (bodyPost P fn R) a w):Calls P f args w R:=by
 refine calls_of_wp hf hb (k (λt=>args.getD t undef) _ ?_);rw[w8 hl];refine⟨?_,λt=>Ix args _ t,rfl⟩;have:=qx hs;simp[hn];omega
theorem Au{fn:Func}{R:Ending->World->Prop}{t:Nat}(hres:fn.results=#[.tmp t])(hr:jY n e a)(hv:e t=v)(h:R (.returned v) w):bodyPost P fn R .ret a w:=
 bodyPost_ret (by rw[results_tmp hres,hr.get,hv]) hr.defers h
theorem EY{fn:Func}{R:Ending->World->Prop}{t t':Nat}{v':Value}(hres:fn.results=#[.tmp t,.tmp t'])(hr:jY n e a)(hv:e t=v)(TF:e t'=v')(h:R (.returned (.tuple #[v,v'])) w):bodyPost P fn R .ret a w:=
 bodyPost_ret (by rw[results_tmp2 hres,hr.get,hr.get,hv,TF]) hr.defers h
theorem Iy{fn:Func}{R:Ending->World->Prop}(hres:fn.results=#[])(hr:jY n e a)(h:R (.returned (.tuple #[])) w):bodyPost P fn R .ret a w:=
 bodyPost_ret (results_none hres _ _ _) hr.defers h
theorem qO{fn:Func}{R:Ending->World->Prop}(hres:fn.results=#[])(hr:jY n e a)(h:R (.returned (.tuple #[])) w):bodyPost P fn R .normal a w:=
 bodyPost_end (results_none hres _ _ _) hr.defers h
end
def J{α:Type}[Inhabited α](l:List α)(i:Nat):α:=l.getD i default
theorem get_at{α:Type}[Inhabited α]{l:List α}{i:Nat}(h:i<l.length):l[i]? = some (J l i):=by
 unfold J;rw[List.getD_eq_getElem?_getD,List.getElem?_eq_getElem h];rfl
theorem vx{α:Type}[Inhabited α]{l:List α}{i:Nat}{x:α}(h:i<l.length):J (l.set i x) i=x:=by
 unfold J;rw[List.getD_eq_getElem?_getD,List.getElem?_set_self h];rfl
theorem Av{α:Type}[Inhabited α]{l:List α}{i k:Nat}{x:α}(h:i≠k):J (l.set i x) k=J l k:=by
 unfold J;rw[List.getD_eq_getElem?_getD,List.getElem?_set_ne h,List.getD_eq_getElem?_getD]
theorem tV{α:Type}[Inhabited α]{l m:List α}{i:Nat}(h:i<l.length):J (l++m) i=J l i:=by
 unfold J;rw[List.getD_eq_getElem?_getD,List.getElem?_append_left h,List.getD_eq_getElem?_getD]
theorem xJ{α:Type}[Inhabited α]{l m:List α}{i:Nat}(h:l.length<=i):J (l++m) i=J m (i-l.length):=by
 unfold J;rw[List.getD_eq_getElem?_getD,List.getElem?_append_right h,List.getD_eq_getElem?_getD]
theorem dD{α:Type}{l:List α}{i:Nat}{x:α}(h:i<l.length):(l.set i x)[i]? = some x:=List.getElem?_set_self h
def rT(w:World)(b:Nat):Nat->List Value->Prop
 | _,[]=>True
 | off,v::r=>w.cell? ⟨b,off,none⟩=some v/\rT w b (off+1) r
theorem wK{w:World}{b:Nat}:∀{cs:List Value} {off:Nat},rT w b off cs->∀j v,cs[j]? = some v->w.cell? ((⟨b,off,none⟩:Addr).add j)=some v
 | [],_,_,j,v,h=>by simp at h
 | u::r,off,hh,j,v,h=>by
  cases j with
  | zero=>simp at h;subst h;rw[w4];exact hh.1
  | succ j =>
   have:=wK hh.2 j v (by simpa using h);rw[w4]at this⊢;rw[show off+(j+1)=off+1+j by omega];exact this
section
variable {P:Program}{ops:Array Oper}{Q:Exit->Act->World->Prop}{a:Act}{w w0 w1:World}{rest:List Oper}{o:Oper}{n d t:Nat}{v:Value}{l:List (Nat×Value)}{j e:Nat->Value}{L:List bl}{H:bl}{Df:List Deferred}
def vo:Option TypeDesc->Bool
 | some (.struct _)=>true
 | some (.array _ _)=>true
 | _=>false
theorem uU{t:TypeId}(h:vo (P.underlying t)=true):(isAgg t).run P w= .ok true w:=by
 cases hu:P.underlying t with
 | none=>rw[hu]at h;cases h
 | some D =>
  rw[hu]at h;simp only[isAgg,n9,run_underlying hu,oa];cases D<;>first | rfl | cases h
theorem rlm{x:Operand}{b off:Nat}{cs:List Value}(ho:o.op= .load t x)(hx:eO e x= .pointer (some ⟨b,off,none⟩))(hu:vo (P.underlying t)=true)
 (hs:(P.info? t).map (·.size)=some cs.length) (hc:rT w b off cs):(execOp (eO e) o).run P w= .ok (.value (.agg cs.toArray)) w:=by
 have hl:=run_loadCells_list (P:=P) w ⟨b,off,none⟩ cs (wK hc);unfold execOp;cases hi:P.info? t with
 | none=>simp[hi]at hs
 | some q =>
  simp[hi]at hs;simp only[ho,Instr.loadAt,hx,Instr.sureAddr,loadVar,n9,uR,oa,uU hu,if_true,sizeOf,typeInfo,run_program,hi,hs,hl]
theorem T8{fn:Func}{R:Ending->World->Prop}{t T b off:Nat}{cs:List Value}(hres:fn.results=#[.cell t T])(hr:jY n e a)(hv:e t= .pointer (some ⟨b,off,none⟩))(hu:vo (P.underlying T)=true)
 (hs:(P.info? T).map (·.size)=some cs.length) (hc:rT w b off cs) (h:R (.returned (.agg cs.toArray)) w):bodyPost P fn R .ret a w:=by
 have hl:=run_loadCells_list (P:=P) w ⟨b,off,none⟩ cs (wK hc);refine bodyPost_ret ?_ hr.defers h;cases hi:P.info? T with
 | none=>simp[hi]at hs
 | some q =>
  simp[hi]at hs;have hg:=hr.get t;rw[hv,w5]at hg;simp[results,hres,hg,asAddr,loadVar,uU hu,sizeOf,typeInfo,hi,hs,hl]
theorem R3{fn:Func}{R:Ending->World->Prop}{t T b off u:Nat}{cs:List Value}(hres:fn.results=#[.cell t T,.tmp u])(hr:jY n e a)(hv:e t= .pointer (some ⟨b,off,none⟩))(TF:e u=v)(hu:vo (P.underlying T)=true)
 (hs:(P.info? T).map (·.size)=some cs.length) (hc:rT w b off cs) (h:R (.returned (.tuple #[.agg cs.toArray,v])) w):bodyPost P fn R .ret a w:=by
 have hl:=run_loadCells_list (P:=P) w ⟨b,off,none⟩ cs (wK hc);refine bodyPost_ret ?_ hr.defers h;cases hi:P.info? T with
 | none=>simp[hi]at hs
 | some q =>
  simp[hi]at hs;have hg:=hr.get t;rw[hv,w5]at hg;have Iz:=hr.get u;rw[TF,w5]at Iz;simp[results,hres,hg,Iz,asAddr,loadVar,uU hu,sizeOf,typeInfo,hi,hs,hl]
theorem Ek{fn:Func}{R:Ending->World->Prop}{v2:Value}{t T b off u u2:Nat}{cs:List Value}(hres:fn.results=#[.cell t T,.tmp u,.tmp u2])(hr:jY n e a)(hv:e t= .pointer (some ⟨b,off,none⟩))(TF:e u=v)(Cu:e u2=v2)(hu:vo (P.underlying T)=true)
 (hs:(P.info? T).map (·.size)=some cs.length) (hc:rT w b off cs) (h:R (.returned (.tuple #[.agg cs.toArray,v,v2])) w):bodyPost P fn R .ret a w:=by
 have hl:=run_loadCells_list (P:=P) w ⟨b,off,none⟩ cs (wK hc);refine bodyPost_ret ?_ hr.defers h;cases hi:P.info? T with
 | none=>simp[hi]at hs
 | some q =>
  simp[hi]at hs;have hg:=hr.get t;rw[hv,w5]at hg;have Iz:=hr.get u;rw[TF,w5]at Iz;have hg2:=hr.get u2;rw[Cu,w5]at hg2;simp[results,hres,hg,Iz,hg2,asAddr,loadVar,uU hu,sizeOf,typeInfo,hi,hs,hl]
theorem M8{x y:Operand}{b i:Nat}{cs:Array Value}{T:TypeId}{u:Value}(hw:vM o ops a)(hd:o.dst=none)(hr:cR Df n (lk l j) a)(ho:o.op= .store t x y)
 (hx:eO (lk l j) x= .pointer (some ⟨b,i,none⟩)) (hy:eO (lk l j) y=v) (hv:v.cells=#[v]) (h1:v.oneCell'=true) (hs:(P.info? t).map (·.size)=some 1)
 (hF:Fit w0 (aD (pts b (.cells cs T)::L)) w) (hc:cs[i]? = some u) (k:∀w1,Fit w0 (aD (pts b (.cells (cs.setIfInBounds i v) T)::L)) w1->wpList P ops Q rest a w1):wpList P ops Q (o::rest) a w:=
 EX hw hd hr (rs ho hx hy hv h1 hs (hF.cell i hc) (hF.free i)) (k _ (hF.set i v))
theorem KM{x y:Operand}{b:Nat}{cs cs':Array Value}{T:TypeId}{vs:List Value}(hw:vM o ops a)(hd:o.dst=none)(hr:cR Df n (lk l j) a)(ho:o.op= .store t x y)
 {i:Nat} (hx:eO (lk l j) x= .pointer (some ⟨b,i,none⟩)) (hy:eO (lk l j) y= .agg vs.toArray) (h1:vs.all (·.oneCell')=true) (hfit:Nat.ble (i+vs.length) cs.size=true) (hs:(P.info? t).map (·.size)=some vs.length)
 (hF:Fit w0 (aD (pts b (.cells cs T)::L)) w) (hcs:(cs.toList.take i++vs++cs.toList.drop (i+vs.length)).toArray=cs') (k:∀w1,Fit w0 (aD (pts b (.cells cs' T)::L)) w1->wpList P ops Q rest a w1):wpList P ops Q (o::rest) a w:=by
 have hst:=run_storeCells_at P b i T vs 0 cs w hF.block (by simpa using qx hfit) (by simpa using h1);simp only[w6,hcs]at hst;refine EX (w1:=w.setRow b cs') hw hd hr ?_ (k _ ?_)
 ·unfold execOp;cases hi:P.info? t with
  | none=>simp[hi]at hs
  | some q =>
   simp[hi]at hs;simp only[ho,hx,hy,Instr.storeAt,Instr.sureAddr,storeVar,n9,uR,oa,sizeOf,typeInfo,run_program,hi,Value.cells];simp[hs,hst]
 ·exact hF.turn (w':=w.setRow b cs') (setRow_heap w b cs cs' T (0,0) hF.block) (λk hk _=>setRow_other w b k _ hk) rfl rfl rfl (by simp)
section
variable {α:Type}{E:TypeId}{sz g cap:Nat}{enc:α->List Value}{xs:List α}
theorem Ll{x y:Operand}(hw:vM o ops a)(hd:o.dst=none)(hr:cR Df n (lk l j) a)(ho:o.op= .store t x y)
 {i f:Nat} (hx:eO (lk l j) x= .pointer (some ⟨g,i*sz+f,none⟩)) (hy:eO (lk l j) y=v) (hv:v.cells=#[v]) (h1:v.oneCell'=true) (hs:(P.info? t).map (·.size)=some 1)
 (he:uD enc sz) (hF:Fit w0 (aD (slc E sz enc g cap xs::L)) w) {p q:α} (hp:xs[i]? = some p) (hf:f<sz) (hq:enc q=(enc p).set f v)
 (k:∀w1,Fit w0 (aD (slc E sz enc g cap (xs.set i q)::L)) w1->wpList P ops Q rest a w1):wpList P ops Q (o::rest) a w:=by
 have hu:(enc p)[f]? = some (enc p)[f]!:=by
  have:f<(enc p).length:=by rw[he.len];exact hf
  rw[List.getElem?_eq_getElem this,List.getElem!_eq_getElem?_getD,List.getElem?_eq_getElem this]
  rfl
 exact EX hw hd hr (rs ho hx hy hv h1 hs (hF.Qo he i f p _ hp hu) (hF.T4 _)) (k _ (hF.Xf he i f p q v hp hf hq))
theorem JR{x y:Operand}{vs:List Value}(hw:vM o ops a)(hd:o.dst=none)(hr:cR Df n (lk l j) a)(ho:o.op= .store t x y)
 {i:Nat} (hx:eO (lk l j) x= .pointer (some ⟨g,i*sz,none⟩)) (hy:eO (lk l j) y= .agg vs.toArray) (h1:vs.all (·.oneCell')=true) (hs:(P.info? t).map (·.size)=some vs.length)
 (he:uD enc sz) (hF:Fit w0 (aD (slc E sz enc g cap xs::L)) w) {q:α} (hi:i<xs.length) (hq:enc q=vs)
 (k:∀w1,Fit w0 (aD (slc E sz enc g cap (xs.set i q)::L)) w1->wpList P ops Q rest a w1):wpList P ops Q (o::rest) a w:=by
 obtain⟨GS,FQ⟩:=hF.zq;obtain⟨cur,Xh,M9,hP⟩:=hF.qK;have hvl:vs.length=sz:=by rw[<-hq,he.len]
 have hle:i*sz+sz<=xs.length*sz:=by
  have:(i+1)*sz<=xs.length*sz:=s9 _ hi;rw[vn]at this;omega
 have aah:xs.length*sz<=cap*sz:=s9 _ GS;have hst:=run_storeCells_at P g (i*sz) E vs 0 cur w hP.block (by rw[hvl];omega) (by simpa using h1);simp only[w6]at hst;refine EX (w1:=w.setRow g (cur.toList.take (i*sz)++vs++cur.toList.drop (i*sz+vs.length)).toArray) hw hd hr ?_ (k _ ?_)
 ·unfold execOp;cases yE:P.info? t with
  | none=>simp[yE]at hs
  | some q =>
   simp[yE]at hs;simp only[ho,hx,hy,Instr.storeAt,Instr.sureAddr,storeVar,n9,uR,oa,sizeOf,typeInfo,run_program,yE,Value.cells];simp[hs,hst]
 ·refine(hP.turn (w':=w.setRow g (cur.toList.take (i*sz)++vs++cur.toList.drop (i*sz+vs.length)).toArray) (setRow_heap w g cur _ E (0,0) hP.block) (λk hk _=>setRow_other w g k _ hk) rfl rfl rfl (by simp)).head λz hz=>⟨by simpa using GS,FQ,_,?_,?_,hz⟩
  ·simp only[DY,jM,vO,Cx,vP,hvl];omega
  ·rw[gU,he.set xs i q hi,hq,<-M9];have hA:(cur.toList.take (i*sz)).length=i*sz:=by rw[vO,vP];omega
   have e1:(cur.toList.take (i*sz)++vs++cur.toList.drop (i*sz+vs.length)).take (xs.length*sz)=cur.toList.take (i*sz)++vs++(cur.toList.drop (i*sz+vs.length)).take (xs.length*sz-(i*sz+sz)):=by
    rw[KF,GK (by rw[jM,hA,hvl];exact hle),jM,hA,hvl]
   rw[KG,e1,List.take_take,zo I,KH,hvl]
theorem jU{ca:fB}{n0 cc bytes:Nat}{s x:Operand}{ad:Addr}{m c:Nat}(hw:vM o ops a)(hd:o.dst=some d)(hn:Nat.blt d n=true)(hr:cR Df n (lk l j) a)
 (ho:o.op= .call {callee:=.builtin .append,args:=#[s,x],argTypes:=#[t,t]}) (hs:eO (lk l j) s= .slice ca n0 cc) (hx:eO (lk l j) x= .slice (some ad) m c)
 (he:uD enc sz) (hty:P.underlying t=some (.slice E)) (sO:(P.info? E).map (λi=>(i.size,i.bytes,i.zero.map (·.cells.size)))=some (sz,bytes,some sz))
 (hF:Fit w0 (aD (rowOf E sz enc (.slice ca n0 cc) xs::L)) w) {news:List α} (hm:news.length=m) (hnews:∀j u,(news.flatMap enc)[j]? = some u->w.cell? (ad.add j)=some u)
 (hb:(xs.length+m)*bytes<=140737488355328) (OO:Nat.blt 0 bytes=true)
 (k:∀ca cc w1 a,Fit w0 (aD (rowOf E sz enc (.slice ca (xs++news).length cc) (xs++news)::L)) w1->cR Df n (lk ((d,.slice ca (xs++news).length cc)::l) j) a->wpList P ops Q rest a w1):wpList P ops Q (o::rest) a w:=by
 have EZ:=hF.rS;subst EZ;cases hi:P.info? E with
 | none=>simp[hi]at sO
 | some i =>
  simp only[hi,wA,Option.some.injEq,Prod.mk.injEq]at sO;obtain⟨i1,i2,i3⟩:=sO;cases hz:i.zero with
  | none=>simp[hz]at i3
  | some zv =>
   simp only[hz,wA,Option.some.injEq]at i3;have Na:0<bytes:=qx OO;have h63:xs.length+m<=maxLen:=by
    have:xs.length+m<=(xs.length+m)*bytes:=MU _ Na;simp only[maxLen];omega
   obtain⟨v',w',hrun,D2⟩:=Is (P:=P) he t o.type i zv bytes hty hi hz i1 i2 i3 hF ad m c news hm hnews h63 hb;obtain⟨a',cap',e,_,_⟩:=D2.HO;subst e;refine sV hw hd hn hr ?_ (λa hr=>k a' cap' w' a D2 hr);unfold execOp;simp only[ho,resolve,invoke,builtin,n9,uR,oa,GN,BX,Cy,hs,hx,hrun]
end
end
section
variable {α:Type}{sz:Nat}{enc:α->List Value}
theorem IA(he:uD enc sz)(zc:Array Value)(z0:α)(hz:zc.toList=enc z0)(n:Nat) :
 ((Array.range (n*sz)).map λi=>zc[i%zc.size]!).toList=(List.replicate n z0).flatMap enc:=by
 have hs:zc.size=sz:=by rw[<-vP,hz,he.len]
 have hpos:=he.pos
 apply Ap
 intro i;rw[Array.toList_map,Array.toList_range,List.getElem?_map];by_cases hi:i<n*sz
 ·have hd:i/sz<n:=(Nat.div_lt_iff_lt_mul hpos).2 hi;have hm:i%sz<sz:=Nat.mod_lt _ hpos;have hg:=he.get (List.replicate n z0) (i/sz) (i%sz) z0 (by rw[List.getElem?_replicate,bg hd]) hm;rw[show i/sz*sz+i%sz=i by rw[Nat.mul_comm];exact Ii i sz]at hg;rw[hg,List.getElem?_range hi,<-hz,hs];have hm':i%sz<zc.size:=by omega
  simp[hm']
 ·rw[List.getElem?_eq_none (by simp;omega),List.getElem?_eq_none (by rw[he.flat,od];omega)]
  rfl
end
section
variable {P:Program}{ops:Array Oper}{Q:Exit->Act->World->Prop}{a:Act}{w w0 w1:World}{rest:List Oper}{o:Oper}{n d t:Nat}{v:Value}{l:List (Nat×Value)}{j e:Nat->Value}{L:List bl}{H:bl}{Df:List Deferred}
variable {α:Type}{E:TypeId}{sz g cap:Nat}{enc:α->List Value}{xs:List α}
theorem Qp{bytes:Nat}{zc:Array Value}(h:(P.info? E).map (λi=>(i.size,i.bytes,i.zero.map (·.cells)))=some (sz,bytes,some zc)) :
 ∃i z,P.info? E=some i/\i.size=sz/\i.bytes=bytes/\i.zero=some z/\z.cells=zc:=by
 cases hi:P.info? E with
 | none=>simp[hi]at h
 | some i =>
  simp only[hi,wA,Option.some.injEq,Prod.mk.injEq]at h;obtain⟨h1,h2,h3⟩:=h;cases hz:i.zero with
  | none=>simp[hz]at h3
  | some z=>exact⟨i,z,rfl,h1,h2,hz,by simpa [hz]using h3⟩
theorem Xi{x y:Operand}{c:Nat}{i:Int}{bytes:Nat}{zc:Array Value}(z0:α)(hw:vM o ops a)(hd:o.dst=some d)(hn:Nat.blt d n=true)(hr:cR Df n (lk l j) a)
 (ho:o.op= .makeSlice t x y) (hx:eO (lk l j) x= .int .i64 i) (hy:eO (lk l j) y= .int .i64 i) (hi:i=c) (he:uD enc sz) (hty:P.underlying t=some (.slice E))
 (sO:(P.info? E).map (λi=>(i.size,i.bytes,i.zero.map (·.cells)))=some (sz,bytes,some zc)) (hz:zc.toList=enc z0) (hb:c*bytes<=140737488355328) (OO:Nat.blt 0 bytes=true) (hF:Fit w0 (aD L) w)
 (k:∀g w1 a,Fit w0 (aD (slc E sz enc g c (List.replicate c z0)::L)) w1->cR Df n (lk ((d,.slice (some ⟨g,0,none⟩) c c)::l) j) a->wpList P ops Q rest a w1):wpList P ops Q (o::rest) a w:=by
 obtain⟨q,z,hq,h1,h2,h3,h4⟩:=Qp sO;have Na:0<bytes:=qx OO;have hc:c<=c*bytes:=MU _ Na;subst hi;have hcb:((q.bytes:Nat):Int)*(c:Int)<=281474976710656:=by
  have adJ:((c*bytes:Nat):Int)<=140737488355328:=by omega
  rw[h2,GO];simp only[Int.natCast_mul]at adJ;omega
 have hrun:=run_make (P:=P) w t E q z hty hq h3 .i64 .i64 (c:Int) (c:Int) I I hcb I;have hs:zc.size=sz:=by rw[<-vP,hz,he.len]
 have hcells:(madeCells z.cells ((c:Int).toNat*q.size)).toList=(List.replicate c z0).flatMap enc:=by
  rw[h1,h4,di];exact IA he zc z0 hz c
 refine sV (w1:=w.alloc (.cells (madeCells z.cells ((c:Int).toNat*q.size)) E)) hw hd hn hr (v:=.slice (some ⟨w.heap.size,0,none⟩) c c) ?_ (λa hr=>k w.heap.size _ a ?_ hr)
 ·unfold execOp;simp only[ho,hx,hy,n9,hrun,oa,uR,di]
 ·refine(hF.alloc _).head λx hx=>⟨by simp,by simp only[maxLen];omega,_,?_,?_,hx⟩
  ·rw[<-vP,hcells,he.flat,od]
  ·rw[hcells,od,GK (by rw[he.flat,od];exact gQ _)]
theorem Xj{s x:Operand}{ca:fB}{n0 n1 cc:Nat}{ys:List α}(hw:vM o ops a)(hd:o.dst=some d)(hn:Nat.blt d n=true)(hr:cR Df n (lk l j) a)
 (ho:o.op= .call {callee:=.builtin .copy,args:=#[s,x],argTypes:=#[t,t]}) (hs:eO (lk l j) s= .slice (some ⟨g,0,none⟩) n0 cap) (hx:eO (lk l j) x= .slice ca n1 cc) (EZ:n0=xs.length)
 (he:uD enc sz) (hty:P.underlying t=some (.slice E)) (hsz:(P.info? E).map (·.size)=some sz) (hlen:ys.length=xs.length)
 (hF:Fit w0 (aD (slc E sz enc g cap xs::rowOf E sz enc (.slice ca n1 cc) ys::L)) w)
 (k:∀w1 a,Fit w0 (aD (slc E sz enc g cap ys::rowOf E sz enc (.slice ca n1 cc) ys::L)) w1->cR Df n (lk ((d,.int .i64 ((xs.length:Nat):Int))::l) j) a->wpList P ops Q rest a w1):wpList P ops Q (o::rest) a w:=by
 have OP:=(hF.pick 1).rS;subst OP;subst EZ;obtain⟨GS,FQ⟩:=hF.zq;obtain⟨cur,Xh,M9,hP⟩:=hF.qK;have hcells:(Builtin.firstCells sz (Nat.min ys.length xs.length) (.slice ca ys.length cc)).run P w= .ok (ys.flatMap enc).toArray w:=by
  rw[hlen,show Nat.min xs.length xs.length=xs.length from Nat.min_self _,<-hlen];rcases(hF.pick 1).rows with ⟨e1,e2,_⟩ | ⟨g',cap',e1,_,D2⟩
  ·simp only[Value.slice.injEq]at e1;rw[e1.1,e2];exact run_firstCells_none (P:=P) w sz _ _ _
  ·simp only[Value.slice.injEq]at e1;rw[e1.1];obtain⟨cur',adK,aai,hP'⟩:=D2.qK;refine run_firstCells_some (P:=P) w sz ys.length _ _ _ (ys.flatMap enc) (he.flat ys) ?_;intro j u hu;rw[w4,Bn];refine hP'.cell j ?_;rw[<-aai,List.getElem?_take]at hu;split at hu
   ·simpa using hu
   ·cases hu
 have hfl:(ys.flatMap enc).length=xs.length*sz:=by rw[he.flat,hlen]
 have hle:xs.length*sz<=cap*sz:=s9 _ GS;have hst:=run_storeCells_at P g 0 E (ys.flatMap enc) 0 cur w hP.block (by rw[hfl,Xh];omega) (he.As ys);simp only[w6,Bn,wI,Bo]at hst;refine sV (w1:=w.setRow g (ys.flatMap enc++cur.toList.drop (ys.flatMap enc).length).toArray) (v:=.int .i64 ((xs.length:Nat):Int)) hw hd hn hr ?_ (λa hr=>k _ a ?_ hr)
 ·unfold execOp;cases yE:P.info? E with
  | none=>simp[yE]at hsz
  | some q =>
   simp[yE]at hsz;have hmin:Nat.min ys.length xs.length=xs.length:=by rw[hlen];exact Nat.min_self _
   have abF:Nat.min xs.length xs.length=xs.length:=Nat.min_self _;simp only[ho,resolve,invoke,builtin,n9,uR,oa,GN,BX,Cy,hs,hx];rw[hmin]at hcells;rw[hlen]at hcells;simp[Builtin.copy_,run_underlying hty,Builtin.lenOf,sizeOf,typeInfo,yE,hsz,hlen,abF,hcells,hst,goInt]
 ·refine((hP.turn (w':=w.setRow g (ys.flatMap enc++cur.toList.drop (ys.flatMap enc).length).toArray) (setRow_heap w g cur _ E (0,0) hP.block) (λk hk _=>setRow_other w g k _ hk) rfl rfl rfl (by simp)).head λz hz=>⟨by rw[hlen];exact GS,FQ,_,?_,?_,hz⟩)
  ·simp only[DY,jM,Cx,vP,hfl];omega
  ·rw[KG,<-he.flat ys];exact GL
theorem R4{ca:fB}{n0 cc bytes:Nat}{s x:Operand}{tx:TypeId}{m:Nat}{i:Int}{zc:Array Value}{kx:IntKind}(z0:α)(hw:vM o ops a)(hd:o.dst=some d)(hn:Nat.blt d n=true)(hr:cR Df n (lk l j) a)
 (ho:o.op= .call {callee:=.builtin .append,args:=#[s,x],argTypes:=#[t,tx]}) (hs:eO (lk l j) s= .slice ca n0 cc) (hx:eO (lk l j) x= .int .i64 i) (hi:i=m)
 (he:uD enc sz) (hty:P.underlying t=some (.slice E)) (htx:P.underlying tx=some (.int kx)) (sO:(P.info? E).map (λi=>(i.size,i.bytes,i.zero.map (·.cells)))=some (sz,bytes,some zc)) (hz:zc.toList=enc z0)
 (hF:Fit w0 (aD (rowOf E sz enc (.slice ca n0 cc) xs::L)) w) (hb:(xs.length+m)*bytes<=140737488355328) (OO:Nat.blt 0 bytes=true)
 (k:∀ca cc w1 a,Fit w0 (aD (rowOf E sz enc (.slice ca (xs++List.replicate m z0).length cc) (xs++List.replicate m z0)::L)) w1->cR Df n (lk ((d,.slice ca (xs++List.replicate m z0).length cc)::l) j) a->wpList P ops Q rest a w1):wpList P ops Q (o::rest) a w:=by
 have EZ:=hF.rS;subst EZ;obtain⟨q,zv,hq,h1,h2,h3,h4⟩:=Qp sO;have Na:0<bytes:=qx OO;have T9:m<=m*bytes:=MU _ Na;have hxx:xs.length<=xs.length*bytes:=MU _ Na;have afE:(xs.length+m)*bytes=xs.length*bytes+m*bytes:=vn _ _ _;subst hi;have hzs:zv.cells.size=sz:=by rw[h4,<-vP,hz,he.len]
 have hzl:(Builtin.zeroCells zv.cells m).toList=(List.replicate m z0).flatMap enc:=by
  have:=IA he zc z0 hz m;rw[<-h4]at this;rw[<-this,<-hzs]
  rfl
 have hpos:=he.pos;have hzv:∀w,(zeroValue E).run P w= .ok zv w:=λw=>by
  simp only[zeroValue,typeInfo,n9,run_program,hq,oa,uR,h3]
 have aaj:((List.replicate m z0).flatMap enc).length=m*sz:=by rw[he.flat,od]
 have abG:=he.As (List.replicate m z0);have Qq:IntKind.i64.wrap (m:Int)=m:=IntWalk.i64_in _ I;have OP:¬((m:Int)<0):=by omega
 have Y9:¬(281474976710656<(m:Int)*(q.bytes:Int)):=by
  have:((m*bytes:Nat):Int)<=140737488355328:=by omega
  rw[h2];simp only[Int.natCast_mul]at this;omega
 have main :∃v' w',(Builtin.append_ #[t,tx] o.type #[.slice ca xs.length cc,.int .i64 (m:Int)]).run P w= .ok v' w'/\Fit w0 (aD (rowOf E sz enc v' (xs++List.replicate m z0)::L)) w':=by
  by_cases hroom:xs.length+m<=cc
  ·rcases hF.rows with ⟨e1,e2,D2⟩ | ⟨g,cap,e1,_,D2⟩
   ·simp only[Value.slice.injEq]at e1;obtain⟨rfl,e3,rfl⟩:=e1;have T5:m=0:=by omega
    subst T5;subst e2;refine⟨.slice none 0 0,w,?_,by simpa using D2.fC⟩;have hw0:IntKind.i64.wrap 0=0:=by rfl
    simp[Builtin.append_,run_underlying hty,run_underlying htx,sizeOf,typeInfo,hq,asInt,asIntOf,hw0]
   ·simp only[Value.slice.injEq]at e1;obtain⟨rfl,_,rfl⟩:=e1;obtain⟨cur,hs1,htk,hP⟩:=D2.qK;obtain⟨GS,FQ⟩:=D2.zq;have hle:(xs.length+m)*sz<=cc*sz:=s9 _ hroom;rw[vn]at hle;have abH:(xs++List.replicate m z0).flatMap enc=xs.flatMap enc++(List.replicate m z0).flatMap enc:=EU;generalize hZ:(List.replicate m z0).flatMap enc=zl at *;have hst:=run_storeCells_at P g (xs.length*sz) E zl 0 cur w hP.block (by rw[aaj,hs1];omega) abG;simp only[w6]at hst;refine⟨.slice (some ⟨g,0,none⟩) (xs.length+m) cc,w.setRow g (cur.toList.take (xs.length*sz)++zl++cur.toList.drop (xs.length*sz+zl.length)).toArray,?_,?_⟩
    ·generalize w.setRow g (cur.toList.take (xs.length*sz)++zl++cur.toList.drop (xs.length*sz+zl.length)).toArray=w9 at hst;by_cases T5:m*sz=0
     ·have hz0:zl=[]:=GM I;subst hz0;simp[Builtin.append_,run_underlying hty,run_underlying htx,sizeOf,typeInfo,hq,asInt,asIntOf,Qq,OP,Y9,hroom,h1,w4,T5,hst]
     ·simp[Builtin.append_,run_underlying hty,run_underlying htx,sizeOf,typeInfo,hq,asInt,asIntOf,Qq,OP,Y9,hroom,h1,w4,T5,hzv,hzl,hst]
    ·refine(hP.turn (w':=w.setRow g (cur.toList.take (xs.length*sz)++zl++cur.toList.drop (xs.length*sz+zl.length)).toArray) (setRow_heap w g cur _ E (0,0) hP.block) (λk hk _=>setRow_other w g k _ hk) rfl rfl rfl (by simp)).head λz R5=>.inr ⟨g,cc,_,by simp,by simpa using hroom,FQ,?_,?_,R5⟩
     ·simp only[DY,jM,vO,Cx,vP,aaj];omega
     ·rw[htk,abH,jM,od];rw[show(xs.length+m)*sz=((xs.flatMap enc)++zl).length by rw[jM,aaj,he.flat,vn]];exact GL
  ·have hge:=grownCap_ge w (xs.length+m) cc E;have h63:xs.length+m<=maxLen:=by simp only[maxLen];omega
   have hcm:grownCap w (xs.length+m) cc E<=maxLen:=grownCap_le_maxLen w (xs.length+m) cc E h63;have hfit:=growslice_fits (need:=xs.length+m) (old:=cc) (bytes:=bytes) I hb;have Za:¬(281474976710656<Builtin.nextslicecap (xs.length+m) cc*q.bytes):=by rw[h2];omega
   have abI:¬(9223372036854775807<(xs.length:Int)+(m:Int)):=by omega
   have hold:(Builtin.firstCells sz xs.length (.slice ca xs.length cc)).run P w.drew= .ok (xs.flatMap enc).toArray w.drew:=by
    rcases hF.rows with ⟨e1,e2,_⟩ | ⟨g',cap',e1,_,D2⟩
    ·simp only[Value.slice.injEq]at e1;rw[e1.1,e2];exact run_firstCells_none (P:=P) w.drew sz _ _ _
    ·simp only[Value.slice.injEq]at e1;rw[e1.1];obtain⟨cur',adK,aai,hP'⟩:=D2.qK;refine run_firstCells_some (P:=P) w.drew sz xs.length _ _ _ (xs.flatMap enc) (he.flat xs) ?_;intro j u hu;rw[w4,Bn];refine hP'.cell j ?_;rw[<-aai,List.getElem?_take]at hu;split at hu
     ·simpa using hu
     ·cases hu
   refine⟨.slice (some ⟨w.heap.size,0,none⟩) (xs.length+m) (grownCap w (xs.length+m) cc E),w.drew.alloc (.cells ((xs.flatMap enc).toArray++((List.replicate m z0).flatMap enc).toArray++Builtin.zeroCells zv.cells (grownCap w (xs.length+m) cc E-(xs.length+m))) E),?_,?_⟩
   ·generalize hZ:(List.replicate m z0).flatMap enc=zl at *;by_cases T5:m*sz=0
    ·have hz0:zl=[]:=GM I;subst hz0;simp[Builtin.append_,run_underlying hty,run_underlying htx,sizeOf,typeInfo,hq,asInt,asIntOf,Qq,OP,Y9,hroom,Question.forced,h1,Za,abI,T5,hold,hzv,newRow,grownCap]
    ·have hza:Builtin.zeroCells zv.cells m=zl.toArray:=by rw[<-hzl,Array.toArray_toList]
     simp[Builtin.append_,run_underlying hty,run_underlying htx,sizeOf,typeInfo,hq,asInt,asIntOf,Qq,OP,Y9,hroom,Question.forced,h1,Za,abI,T5,hold,hzv,hza,newRow,grownCap]
     congr 2
     apply Array.ext'
     simp[rK]
   ·refine(hF.drop.drew.alloc _).head λx hx=>.inr ⟨w.heap.size,_,_,by simp,by simpa using hge,hcm,?_,?_,hx⟩
    ·simp only[Array.size_append,DY,size_zeroCells,hzs,he.flat,od,<-vn]
     congr 1
     omega
    ·rw[EU,jM,od];simp only[Array.toList_append];rw[show(xs.length+m)*sz=((xs.flatMap enc)++((List.replicate m z0).flatMap enc)).length by rw[jM,he.flat,he.flat,od,vn]];exact GL
 obtain⟨v',w',hrun,D2⟩:=main;obtain⟨a',cap',e,_,_⟩:=D2.HO;subst e;refine sV hw hd hn hr ?_ (λa hr=>k a' cap' w' a D2 hr);unfold execOp;simp only[ho,resolve,invoke,builtin,n9,uR,oa,GN,BX,Cy,hs,hx,hrun]
end
def iN{α:Type}:Sem α->Prop
 | .pure _=>True
 | .load _ _ k=>∀v,iN (k v)
 | .store .. => False
 | .new _ k=>∀r,iN (k r)
 | .shape _ k=>∀s,iN (k s)
 | .freeze .. => False
 | .frozen _ k=>∀b,iN (k b)
 | .getObj _ k=>∀o,iN (k o)
 | .setObj .. => False
 | .choose _ k=>∀n,iN (k n)
 | .sys .. => False
 | .program k=>∀p,iN (k p)
 | .mark _ k=>iN k
 | .halt _=>True
def qY(w w':World):Prop:=∀ad v,w.cell? ad=some v->w'.cell? ad=some v
theorem qY.refl(w:World):qY w w:=λ_ _ h=>h
theorem qY.trans{a b c:World}(h:qY a b)(k:qY b c):qY a c:=λad v hv=>k ad v (h ad v hv)
theorem iN.run{α:Type}{P:Program}(s:Sem α):∀(w:World),iN s->∀x w',s.run P w= .ok x w'->qY w w':=by
 induction s with
 | pure a=>intro w _ x w' h;simp only[Sem.run,Result.ok.injEq]at h;rw[<-h.2];exact .refl _
 | load m a k ih =>
  intro w hk x w' h;simp only[Sem.run]at h;split at h
  ·exact ih _ w (hk _) x w' h
  ·split at h
   ·exact ih _ w (hk _) x w' h
   ·cases h
 | store m a v k ih=>intro w hk;exact hk.elim
 | new o k ih =>
  intro w hk x w' h;simp only[Sem.run]at h;have h1:=ih _ _ (hk _) x w' h;refine qY.trans (λad v hv => ?_) h1;exact(World.cell?_alloc_lt w o ad (World.block_lt_of_cell? w ad hv)).trans hv
 | shape r k ih=>intro w hk x w' h;simp only[Sem.run]at h;exact ih _ w (hk _) x w' h
 | freeze a n k ih=>intro w hk;exact hk.elim
 | frozen a k ih=>intro w hk x w' h;simp only[Sem.run]at h;exact ih _ w (hk _) x w' h
 | getObj r k ih =>
  intro w hk x w' h;simp only[Sem.run]at h;split at h
  ·cases h
  ·exact ih _ w (hk _) x w' h
  ·cases h
 | setObj r o k ih=>intro w hk;exact hk.elim
 | choose q k ih =>
  intro w hk x w' h;simp only[Sem.run]at h;split at h
  ·exact ih _ w (hk _) x w' h
  ·exact(ih _ {w with drawn:=w.drawn+1} (hk _) x w' h:qY w w')
 | sys c k ih=>intro w hk;exact hk.elim
 | program k ih=>intro w hk x w' h;simp only[Sem.run]at h;exact ih _ w (hk _) x w' h
 | mark m k ih=>intro w hk x w' h;simp only[Sem.run]at h;exact ih w hk x w' h
 | halt e=>intro w _ x w' h;simp only[Sem.run]at h;cases h
theorem iN.bind{α β:Type}:∀(s:Sem α) (f:α->Sem β),iN s->(∀a,iN (f a))->iN (s >>= f)
 | .pure a,f,_,hf=>hf a
 | .load m a k,f,hk,hf=>λv=>iN.bind (k v) f (hk v) hf
 | .new o k,f,hk,hf=>λv=>iN.bind (k v) f (hk v) hf
 | .shape r k,f,hk,hf=>λv=>iN.bind (k v) f (hk v) hf
 | .frozen a k,f,hk,hf=>λv=>iN.bind (k v) f (hk v) hf
 | .getObj r k,f,hk,hf=>λv=>iN.bind (k v) f (hk v) hf
 | .choose q k,f,hk,hf=>λv=>iN.bind (k v) f (hk v) hf
 | .program k,f,hk,hf=>λv=>iN.bind (k v) f (hk v) hf
 | .mark m k,f,hk,hf=>iN.bind k f hk hf
 | .halt e,_,_,_=>trivial
theorem yF{α:Type}(a:α):iN (pure a:Sem α):=trivial
theorem D3:iN program:=λ_=>trivial
theorem Aw(t:TypeId):iN (underlying t):=by
 unfold underlying;refine iN.bind _ _ D3 (λp => ?_);split
 ·exact trivial
 ·exact trivial
theorem CE(t:TypeId):iN (typeInfo t):=by
 unfold typeInfo;refine iN.bind _ _ D3 (λp => ?_);split
 ·exact trivial
 ·exact trivial
theorem E1(t:TypeId):iN (sizeOf t):=iN.bind _ _ (CE t) λ_=>trivial
theorem B5(t:TypeId):iN (zeroValue t):=by
 unfold zeroValue;refine iN.bind _ _ (CE t) (λp => ?_);split
 ·exact trivial
 ·exact trivial
theorem Nb(t:TypeId):iN (isAgg t):=by
 unfold isAgg;refine iN.bind _ _ (Aw t) (λp => ?_);split<;>exact trivial
theorem xS(a:Addr):∀(n i:Nat) (acc:Array Value),iN (loadCellsFrom a i n acc)
 | 0,_,_=>trivial
 | n+1,i,acc=>iN.bind _ _ (λ_=>trivial) λv=>xS a n (i+1) _
theorem JS(t:TypeId)(a:Addr):iN (loadVar t a):=by
 unfold loadVar;refine iN.bind _ _ (Nb t) (λb => ?_);split
 ·exact iN.bind _ _ (E1 t) λ_=>iN.bind _ _ (xS _ _ _ _) λ_=>trivial
 ·exact λ_=>trivial
theorem Bq(t:TypeId)(cs:Array Value):iN (newRow t cs):=by
 unfold newRow newObj;exact λ_=>trivial
theorem E2(t:TypeId)(v:Value):iN (newVar t v):=Bq t _
def FT(o:Oper):Bool:=
 match o.op with
 | .move _ | .assign _ | .pick .. | .alloc _ | .box .. | .load .. | .buildSlice .. | .extract .. => true
 | _=>false
theorem Nc{P:Program}{o:Oper}(h:FT o=true)(ρ:Operand->Value)(w w':World)(x:Next)(hr:(execOp ρ o).run P w= .ok x w'):(∃u,x= .value u)/\qY w w':=by
 have main:∀s:Sem Value,iN s->execOp ρ o=(do pure (.value (<-s)))->(∃u,x= .value u)/\qY w w':=by
  intro s hs e;rw[e]at hr;refine⟨?_,iN.run _ w (iN.bind _ _ hs λ_=>yF _) x w' hr⟩;simp only[n9,uR]at hr;cases hx:s.run P w with
  | ok v w2 =>
   rw[hx]at hr;simp only[oa,Result.ok.injEq]at hr;exact⟨v,hr.1.symm⟩
  | halt e w2=>rw[hx]at hr;cases hr
 unfold FT at h;cases ho:o.op with
 | move y =>
  refine main (pure (ρ y)) trivial ?_;unfold execOp;rw[ho];rfl
 | assign y =>
  refine main (pure (ρ y)) trivial ?_;unfold execOp;rw[ho];rfl
 | pick c a b =>
  refine main (do pure (if<-asBool (ρ c)then ρ a else ρ b)) ?_ ?_
  ·refine iN.bind _ _ ?_ (λ_=>trivial);unfold asBool;split<;>exact trivial
  ·unfold execOp;rw[ho];cases hc:ρ c<;>simp[asBool,stuck,hc]<;>rfl
 | alloc t =>
  refine main (Instr.alloc t true (.tuple #[])) ?_ ?_
  ·unfold Instr.alloc;exact iN.bind _ _ (B5 t) λz=>iN.bind _ _ (E2 t z) λ_=>trivial
  ·unfold execOp;rw[ho]
 | box t y =>
  refine main (Instr.box t (ρ y)) (iN.bind _ _ (E2 t _) λ_=>trivial) ?_;unfold execOp;rw[ho]
 | load t y =>
  refine main (Instr.loadAt t (ρ y)) (iN.bind _ _ ?_ λ_=>JS _ _) ?_
  ·unfold Instr.sureAddr;split<;>exact trivial
  ·unfold execOp;rw[ho]
 | buildSlice t n ps =>
  refine main (Instr.buildSlice t n (ps.map λ(i,x)=>(i,ρ x))) ?_ ?_
  ·unfold Instr.buildSlice;refine iN.bind _ _ (Aw t) (λd => ?_);split
   ·refine iN.bind _ _ (E1 _) (λsz => ?_)
    dsimp only
    split
    ·exact trivial
    ·split
     ·refine iN.bind _ _ (yF _) (λz => ?_);split
      ·exact iN.bind _ _ (Bq _ _) λ_=>yF _
      ·exact trivial
     ·refine iN.bind _ _ (B5 _) (λv=>iN.bind _ _ (yF _) (λz => ?_));split
      ·exact iN.bind _ _ (Bq _ _) λ_=>yF _
      ·exact trivial
   ·exact trivial
  ·unfold execOp;rw[ho]
 | extract y i =>
  refine main (Instr.extract (ρ y) i) ?_ ?_
  ·unfold Instr.extract;split
   ·split<;>exact trivial
   ·exact trivial
  ·unfold execOp;rw[ho]
 | _=>rw[ho]at h;cases h
section
variable {P:Program}{ops:Array Oper}{Q:Exit->Act->World->Prop}{a:Act}{w w0 w1:World}{o:Oper}{n d t:Nat}{v:Value}{l:List (Nat×Value)}{j e:Nat->Value}{H:bl}{md:Region.Mode}{Df:List Deferred}
def yG(Q:Exit->Act->World->Prop):Prop:=∀ch (a:Act) w dst v,Q (.panic ch) (a.put dst v) w->Q (.panic ch) a w
theorem Nd{fn:Func}{R:Ending->World->Prop}:yG (bodyPost P fn R):=by
 intro ch a w dst v h;cases dst<;>exact h
theorem Nf{K:Act->World->Prop}(h:yG Q):yG (Exit.then K Q):=λch a w dst v k=>h ch a w dst v k
theorem Lm{i:Nat}(h:yG Q):yG (Exit.inBlock i Q):=λch a w dst v k=>h ch a w dst v k
def YD(P:Program)(ops:Array Oper)(D:World->Prop)(o:Oper)(v:Value)(a:Act):Prop:=
 (Region.wanted o (yielded ops a.tmps)=true/\∀w,D w->(execOp a.eval o).run P w= .ok (.value v) w)∨(Region.wanted o (yielded ops a.tmps)=false/\v=undef)
theorem YD.of_same{D:World->Prop}{a':Act}(hy:YD P ops D o v a)(he:execOp a'.eval o=execOp a.eval o)
 (hw:Region.wanted o (yielded ops a'.tmps)=Region.wanted o (yielded ops a.tmps)):YD P ops D o v a':=by
 unfold YD at *;rw[he,hw];exact hy
theorem YD.wpOp{D:World->Prop}{i:Nat}(hi:ops[i]? = some o)(hy:YD P ops D o v a)(hD:D w){K:Act->World->Prop}(h:K (a.put o.dst v) w):wpOp P ops Q i K a w:=by
 unfold Go.wpOp;simp only[hi];rcases hy with ⟨hw,hv⟩ | ⟨hw,rfl⟩
 ·rw[bg hw]
  left
  unfold Oper.wp;rw[hv w hD];exact h
 ·rw[gl hw];exact h
def Ng(md:Region.Mode)(ops:Array Oper)(aQ:Array Bool)(i:Nat):Nat->Nat->Bool
 | 0,_=>true
 | f+1,k=>k != i&&match ops[k]? with
  | none=>false
  | some ok=>ok.after.all λe => !Region.binds md e||aQ.getD e.on false||Ng md ops aQ i f e.on
theorem Xk{id:Nat}{lo:List Oper}(hF:Fit w0 H w)(hm:P.follows .mixedOrders=true)(k:∀w,Fit w0 H w->wpAny P .any lo.toArray Q lo.toArray.size (Array.replicate lo.toArray.size false) a w) :
 (Code.region id lo.toArray true).wp P Q a w:=wp_region_any hm (k _ hF.drew)
end
section
variable {P:Program}{ops:Array Oper}{Q:Exit->Act->World->Prop}{a:Act}{w w0 w1:World}{o:Oper}{n d t:Nat}{v:Value}{l:List (Nat×Value)}{j e:Nat->Value}{H:bl}{md:Region.Mode}{C:World->Prop}{agb:List Nat}{Lk:Array Bool->Act->Prop}{Df:List Deferred}
theorem Ua{i:Nat}{b:Bool}(hr:cR Df n e a)(hg:o.guard=some (i,b))(hi:(ops[i]?).bind (·.dst)=some t)(ht:Nat.blt t n=true)(he:e t=undef) :
 Region.wanted o (yielded ops a.tmps)=false:=by
 have ht':t<a.tmps.size:=by rw[hr.size];exact qx ht
 have hg2:a.tmps[t]? = some undef:=by
  have:=hr.get t;rw[he,w5,Array.getElem?_eq_getElem ht']at this;rw[Array.getElem?_eq_getElem ht']
  simpa using this
 simp only[Region.wanted,hg,yielded,hi,Option.bind_some,hg2];cases b<;>rfl
end
section
variable {P:Program}{ops:Array Oper}{Q:Exit->Act->World->Prop}{a:Act}{w w0 w1:World}{o:Oper}{n d t:Nat}{v:Value}{l:List (Nat×Value)}{j e:Nat->Value}{md:Region.Mode}{agb A:List Nat}{pre:List bl->List bl}{Ls:List bl}{Df:List Deferred}
def Ln(X:Nat->Prop):List Nat->Prop
 | []=>True
 | i::r=>X i/\Ln X r
theorem Ln.mem{X:Nat->Prop}:∀{r:List Nat},Ln X r->∀i∈r,X i
 | _::_,h,_,.head _=>h.1
 | _::_,h,_,.tail _ hm=>Ln.mem h.2 _ hm
theorem iO{X:Nat->Prop}:Ln X []:=trivial
theorem cY{X:Nat->Prop}{i:Nat}{r:List Nat}(h:X i)(k:Ln X r):Ln X (i::r):=⟨h,k⟩
end
end GX
end
section
namespace SL
open Go Go.RowKit Go.ChangeShapes Go.WideShapes
end SL
namespace GX
open Go Go.RowKit SL
section
variable {P:Program}{ops:Array Oper}{Q:Exit->Act->World->Prop}{a:Act}{w w0 w1:World}{rest:List Oper}{o:Oper}{n d t:Nat}{v:Value}{l:List (Nat×Value)}{j e:Nat->Value}{L:List bl}{H:bl}{Df:List Deferred}
variable {α:Type}{E:TypeId}{sz g cap:Nat}{enc:α->List Value}{xs:List α}
end
end GX
end
section
namespace GX
open Go Go.RowKit SL
def vR:List Value->List Value->Bool
 | .int _ a::xs,.int _ b::ys=>(a==b)&&vR xs ys
 | .bool a::xs,.bool b::ys=>(a==b)&&vR xs ys
 | _,_=>true
def D4(P:Program):Nat->List Field->List Value->List Value->Bool
 | _,[],[],[]=>true
 | i,f::fs,.int k _::xs,.int k' _::ys=>(f.name != "_")&&f.offset==i&&(match P.underlying f.type with | some (.int _)=>true | _=>false)&&k==k'&&D4 P (i+1) fs xs ys
 | i,f::fs,.bool _::xs,.bool _::ys=>(f.name != "_")&&f.offset==i&&(match P.underlying f.type with | some .bool=>true | _=>false)&&D4 P (i+1) fs xs ys
 | _,_,_,_=>false
section
variable {P:Program}{w:World}{o:Oper}{e:Nat->Value}
theorem tE{t:TypeId}{cs:Array Value}{i:Nat}{v:Value}(h:(match P.underlying t with | some (.int _)=>true | some .bool=>true | _=>false)=true)(hv:cs[i]? = some v):(part t cs i).run P w= .ok v w:=by
 have hu :∃d,P.underlying t=some d/\(∀fs,d≠.struct fs)/\∀n q,d≠.array n q:=by
  revert h
  cases hq:P.underlying t with
  | none=>simp
  | some d=>cases d<;>simp
 obtain⟨d,hd,h1,h2⟩:=hu;unfold part isAgg;simp only[n9,run_underlying hd,oa];cases d<;>simp_all
theorem Lo(d:Nat)(xs ys:Array Value):∀(fs:List Field) (i:Nat) (us vs:List Value),D4 P i fs us vs=true->(∀j,us[j]? = xs[i+j]?∨us.length<=j)->(∀j,vs[j]? = ys[i+j]?∨vs.length<=j)->
 (Op.eqFields (d+1) xs ys fs).run P w= .ok (vR us vs) w
 | [],_,[],[],_,_,_=>by simp[Op.eqFields,vR]
 | f::fs,i,.int k a::us,.int k' b::vs,h,hx,hy=>by
  simp only[D4,mI,bne_iff_ne,ne_eq,Cz]at h;obtain⟨⟨⟨⟨hn,ho⟩,ht⟩,hk⟩,hr⟩:=h;subst hk;have hx0:xs[i]? = some (.int k a):=by rcases hx 0 with h | h;simpa using h.symm;simp at h
  have hy0:ys[i]? = some (.int k b):=by rcases hy 0 with h | h;simpa using h.symm;simp at h
  have hty :∃kk,P.underlying f.type=some (.int kk):=by
   revert ht
   cases hq:P.underlying f.type with
   | none=>simp
   | some d=>cases d<;>simp
  obtain⟨kk,hty⟩:=hty;have ih:=Lo d xs ys fs (i+1) us vs hr (λj=>by rcases hx (j+1)with h | h;left;simpa [OX,KI]using h;right;simpa using h) (λj=>by rcases hy (j+1)with h | h;left;simpa [OX,KI]using h;right;simpa using h);have pa:=tE (P:=P) (w:=w) (t:=f.type) (cs:=xs) (i:=f.offset) (v:=.int k a) (by rw[hty]) (by rw[ho];exact hx0);have pb:=tE (P:=P) (w:=w) (t:=f.type) (cs:=ys) (i:=f.offset) (v:=.int k b) (by rw[hty]) (by rw[ho];exact hy0);rw[Op.eqFields];simp only[bg hn,n9,pa,pb,run_equalIn_int w d f.type k kk a b hty,oa];cases hab:(a==b)
  ·simp[vR,hab]
  ·simp[vR,hab,ih]
 | f::fs,i,.bool a::us,.bool b::vs,h,hx,hy=>by
  simp only[D4,mI,bne_iff_ne,ne_eq,Cz]at h;obtain⟨⟨⟨hn,ho⟩,ht⟩,hr⟩:=h;have hx0:xs[i]? = some (.bool a):=by rcases hx 0 with h | h;simpa using h.symm;simp at h
  have hy0:ys[i]? = some (.bool b):=by rcases hy 0 with h | h;simpa using h.symm;simp at h
  have hty:P.underlying f.type=some .bool:=by
   revert ht
   cases hq:P.underlying f.type with
   | none=>simp
   | some d=>cases d<;>simp
  have ih:=Lo d xs ys fs (i+1) us vs hr (λj=>by rcases hx (j+1)with h | h;left;simpa [OX,KI]using h;right;simpa using h) (λj=>by rcases hy (j+1)with h | h;left;simpa [OX,KI]using h;right;simpa using h);have pa:=tE (P:=P) (w:=w) (t:=f.type) (cs:=xs) (i:=f.offset) (v:=.bool a) (by rw[hty]) (by rw[ho];exact hx0);have pb:=tE (P:=P) (w:=w) (t:=f.type) (cs:=ys) (i:=f.offset) (v:=.bool b) (by rw[hty]) (by rw[ho];exact hy0);rw[Op.eqFields];simp only[bg hn,n9,pa,pb,run_equalIn_bool' w d f.type a b hty,oa];cases hab:(a==b)
  ·simp[vR,hab]
  ·simp[vR,hab,ih]
end
theorem gd{γ:Type}{p:Prop}[Decidable p]{x:Option γ}{r:γ}(h:(if p then x else none)=some r):p/\x=some r:=by
 by_cases c:p
 ·rw[bg c]at h;exact⟨c,h⟩
 ·rw[cQ c]at h;cases h
theorem ifT{γ:Type}{p:Prop}[Decidable p]{x y:Option γ}{r:γ}(c:p)(h:(if p then x else y)=some r):x=some r:=by rw[bg c]at h;exact h
theorem ifF{γ:Type}{p:Prop}[Decidable p]{x y:Option γ}{r:γ}(c:¬p)(h:(if p then x else y)=some r):y=some r:=by rw[cQ c]at h;exact h
theorem bF{b:Bool}(h:¬b=true):b=false:=by cases b<;>simp_all
theorem fV{γ:Type}{x y:γ}(h:some x=some y):x=y:=Option.some.inj h
def Qr{γ:Type}(o:Option (Unit))(f:Option γ):Option γ:=match o with | some ()=>f | none=>none
@[simp] theorem lO{γ:Type}(f:Option γ):Qr (some ()) f=f:=rfl
theorem bd0{γ:Type}{o:Option (Unit)}{f:Option γ}{r:γ}(h:Qr o f=some r):o=some ()/\f=some r:=by
 match o,h with | some (),h=>exact⟨rfl,h⟩
def Ax{γ:Type}(o:Option ((Unit)⊕γ))(f:Option γ):Option γ:=match o with | some (.inl ())=>f | some (.inr r)=>some r | none=>none
@[simp] theorem gz{γ:Type}(f:Option γ):Ax (some (.inl ())) f=f:=rfl
@[simp] theorem Br{γ:Type}(r:γ)(f:Option γ):Ax (some (.inr r)) f=some r:=rfl
def jc0{γ:Type}(o:(Unit)⊕γ)(f:Option γ)(r:γ):Prop:=match o with | .inl ()=>f=some r | .inr x=>x=r
theorem FU{γ:Type}{o:Option ((Unit)⊕γ)}{f:Option γ}{r:γ}(h:Ax o f=some r) :∃o',o=some o'/\jc0 o' f r:=by
 match o,h with | some (.inl ()),h=>exact⟨_,rfl,h⟩ | some (.inr x),h=>exact⟨_,rfl,fV h⟩
theorem wL{γ:Type}{o:(Unit)⊕γ}{f:Option γ}{r x:γ}(h:some (.inr x)=some o)(k:jc0 o f r):some x=some r:=by
 have e:=fV h;subst e;exact nR some k
def kc0{γ:Type}(o:Unit)(f:Option γ)(r:γ):Prop:=match o with | ()=>f=some r
theorem kd0{γ:Type}{o:Option (Unit)}{f:Option γ}{r:γ}(h:Qr o f=some r) :∃o',o=some o'/\kc0 o' f r:=by
 match o,h with | some (),h=>exact⟨_,rfl,h⟩
theorem FV{γ:Type}{f:Option γ}{r:γ}(k:jc0 (γ:=γ) (.inl ()) f r):f=some r:=k
theorem kk0{γ:Type}{f:Option γ}{r:γ}(k:kc0 (γ:=γ) () f r):f=some r:=k
def dX{k8:Type}{γ:Type}(o:Option (k8))(f:k8->Option γ):Option γ:=match o with | some x0=>f x0 | none=>none
@[simp] theorem ax{k8:Type}{γ:Type}(x0:k8)(f:k8->Option γ):dX (some x0) f=f x0:=rfl
theorem bd1{k8:Type}{γ:Type}{o:Option (k8)}{f:k8->Option γ}{r:γ}(h:dX o f=some r) :∃x0,o=some x0/\f x0=some r:=by
 match o,h with | some x0,h=>exact⟨x0,rfl,h⟩
def jn1{k8:Type}{γ:Type}(o:Option ((k8)⊕γ))(f:k8->Option γ):Option γ:=match o with | some (.inl x0)=>f x0 | some (.inr r)=>some r | none=>none
@[simp] theorem Qs{k8:Type}{γ:Type}(x0:k8)(f:k8->Option γ):jn1 (some (.inl x0)) f=f x0:=rfl
def jc1{k8:Type}{γ:Type}(o:(k8)⊕γ)(f:k8->Option γ)(r:γ):Prop:=match o with | .inl x0=>f x0=some r | .inr x=>x=r
theorem jd1{k8:Type}{γ:Type}{o:Option ((k8)⊕γ)}{f:k8->Option γ}{r:γ}(h:jn1 o f=some r) :∃o',o=some o'/\jc1 o' f r:=by
 match o,h with | some (.inl x0),h=>exact⟨_,rfl,h⟩ | some (.inr x),h=>exact⟨_,rfl,fV h⟩
theorem jx1{k8:Type}{γ:Type}{o:(k8)⊕γ}{f:k8->Option γ}{r x:γ}(h:some (.inr x)=some o)(k:jc1 o f r):some x=some r:=by
 have e:=fV h;subst e;exact nR some k
def kc1{k8:Type}{γ:Type}(o:k8)(f:k8->Option γ)(r:γ):Prop:=match o with | x0=>f x0=some r
theorem kd1{k8:Type}{γ:Type}{o:Option (k8)}{f:k8->Option γ}{r:γ}(h:dX o f=some r) :∃o',o=some o'/\kc1 o' f r:=by
 match o,h with | some x0,h=>exact⟨_,rfl,h⟩
theorem jk1{k8:Type}{γ:Type}{f:k8->Option γ}{r:γ}{x0:k8}(k:jc1 (γ:=γ) (.inl x0) f r):f x0=some r:=k
theorem EK{k8:Type}{γ:Type}{f:k8->Option γ}{r:γ}{x0:k8}(k:kc1 (γ:=γ) x0 f r):f x0=some r:=k
def uE{k8 qw:Type}{γ:Type}(o:Option (k8×qw))(f:k8->qw->Option γ):Option γ:=match o with | some (x0,x1)=>f x0 x1 | none=>none
@[simp] theorem fQ{k8 qw:Type}{γ:Type}(x0:k8)(x1:qw)(f:k8->qw->Option γ):uE (some (x0,x1)) f=f x0 x1:=rfl
theorem bd2{k8 qw:Type}{γ:Type}{o:Option (k8×qw)}{f:k8->qw->Option γ}{r:γ}(h:uE o f=some r) :∃x0 x1,o=some (x0,x1)/\f x0 x1=some r:=by
 match o,h with | some (x0,x1),h=>exact⟨x0,x1,rfl,h⟩
def jn2{k8 qw:Type}{γ:Type}(o:Option ((k8×qw)⊕γ))(f:k8->qw->Option γ):Option γ:=match o with | some (.inl (x0,x1))=>f x0 x1 | some (.inr r)=>some r | none=>none
@[simp] theorem Xl{k8 qw:Type}{γ:Type}(x0:k8)(x1:qw)(f:k8->qw->Option γ):jn2 (some (.inl (x0,x1))) f=f x0 x1:=rfl
@[simp] theorem Xm{k8 qw:Type}{γ:Type}(r:γ)(f:k8->qw->Option γ):jn2 (some (.inr r)) f=some r:=rfl
def jc2{k8 qw:Type}{γ:Type}(o:(k8×qw)⊕γ)(f:k8->qw->Option γ)(r:γ):Prop:=match o with | .inl (x0,x1)=>f x0 x1=some r | .inr x=>x=r
theorem jd2{k8 qw:Type}{γ:Type}{o:Option ((k8×qw)⊕γ)}{f:k8->qw->Option γ}{r:γ}(h:jn2 o f=some r) :∃o',o=some o'/\jc2 o' f r:=by
 match o,h with | some (.inl (x0,x1)),h=>exact⟨_,rfl,h⟩ | some (.inr x),h=>exact⟨_,rfl,fV h⟩
theorem jx2{k8 qw:Type}{γ:Type}{o:(k8×qw)⊕γ}{f:k8->qw->Option γ}{r x:γ}(h:some (.inr x)=some o)(k:jc2 o f r):some x=some r:=by
 have e:=fV h;subst e;exact nR some k
def kc2{k8 qw:Type}{γ:Type}(o:k8×qw)(f:k8->qw->Option γ)(r:γ):Prop:=match o with | (x0,x1)=>f x0 x1=some r
theorem kd2{k8 qw:Type}{γ:Type}{o:Option (k8×qw)}{f:k8->qw->Option γ}{r:γ}(h:uE o f=some r) :∃o',o=some o'/\kc2 o' f r:=by
 match o,h with | some (x0,x1),h=>exact⟨_,rfl,h⟩
theorem jk2{k8 qw:Type}{γ:Type}{f:k8->qw->Option γ}{r:γ}{x0:k8}{x1:qw}(k:jc2 (γ:=γ) (.inl (x0,x1)) f r):f x0 x1=some r:=k
theorem kk2{k8 qw:Type}{γ:Type}{f:k8->qw->Option γ}{r:γ}{x0:k8}{x1:qw}(k:kc2 (γ:=γ) (x0,x1) f r):f x0 x1=some r:=k
def rN{k8 qw yd:Type}{γ:Type}(o:Option (k8×qw×yd))(f:k8->qw->yd->Option γ):Option γ:=match o with | some (x0,x1,x2)=>f x0 x1 x2 | none=>none
@[simp] theorem dA{k8 qw yd:Type}{γ:Type}(x0:k8)(x1:qw)(x2:yd)(f:k8->qw->yd->Option γ):rN (some (x0,x1,x2)) f=f x0 x1 x2:=rfl
theorem bd3{k8 qw yd:Type}{γ:Type}{o:Option (k8×qw×yd)}{f:k8->qw->yd->Option γ}{r:γ}(h:rN o f=some r) :∃x0 x1 x2,o=some (x0,x1,x2)/\f x0 x1 x2=some r:=by
 match o,h with | some (x0,x1,x2),h=>exact⟨x0,x1,x2,rfl,h⟩
def kc3{k8 qw yd:Type}{γ:Type}(o:k8×qw×yd)(f:k8->qw->yd->Option γ)(r:γ):Prop:=match o with | (x0,x1,x2)=>f x0 x1 x2=some r
theorem kd3{k8 qw yd:Type}{γ:Type}{o:Option (k8×qw×yd)}{f:k8->qw->yd->Option γ}{r:γ}(h:rN o f=some r) :∃o',o=some o'/\kc3 o' f r:=by
 match o,h with | some (x0,x1,x2),h=>exact⟨_,rfl,h⟩
theorem kk3{k8 qw yd:Type}{γ:Type}{f:k8->qw->yd->Option γ}{r:γ}{x0:k8}{x1:qw}{x2:yd}(k:kc3 (γ:=γ) (x0,x1,x2) f r):f x0 x1 x2=some r:=k
def Lp{k8 qw yd G9:Type}{γ:Type}(o:Option (k8×qw×yd×G9))(f:k8->qw->yd->G9->Option γ):Option γ:=match o with | some (x0,x1,x2,x3)=>f x0 x1 x2 x3 | none=>none
@[simp] theorem kW{k8 qw yd G9:Type}{γ:Type}(x0:k8)(x1:qw)(x2:yd)(x3:G9)(f:k8->qw->yd->G9->Option γ):Lp (some (x0,x1,x2,x3)) f=f x0 x1 x2 x3:=rfl
theorem bd4{k8 qw yd G9:Type}{γ:Type}{o:Option (k8×qw×yd×G9)}{f:k8->qw->yd->G9->Option γ}{r:γ}(h:Lp o f=some r) :∃x0 x1 x2 x3,o=some (x0,x1,x2,x3)/\f x0 x1 x2 x3=some r:=by
 match o,h with | some (x0,x1,x2,x3),h=>exact⟨x0,x1,x2,x3,rfl,h⟩
def ob5{k8 qw yd G9 R6:Type}{γ:Type}(o:Option (k8×qw×yd×G9×R6))(f:k8->qw->yd->G9->R6->Option γ):Option γ:=match o with | some (x0,x1,x2,x3,x4)=>f x0 x1 x2 x3 x4 | none=>none
@[simp] theorem Ub{k8 qw yd G9 R6:Type}{γ:Type}(x0:k8)(x1:qw)(x2:yd)(x3:G9)(x4:R6)(f:k8->qw->yd->G9->R6->Option γ):ob5 (some (x0,x1,x2,x3,x4)) f=f x0 x1 x2 x3 x4:=rfl
theorem bd5{k8 qw yd G9 R6:Type}{γ:Type}{o:Option (k8×qw×yd×G9×R6)}{f:k8->qw->yd->G9->R6->Option γ}{r:γ}(h:ob5 o f=some r) :∃x0 x1 x2 x3 x4,o=some (x0,x1,x2,x3,x4)/\f x0 x1 x2 x3 x4=some r:=by
 match o,h with | some (x0,x1,x2,x3,x4),h=>exact⟨x0,x1,x2,x3,x4,rfl,h⟩
theorem E3{k8 qw yd G9 R6:Type}{x0 y0:k8}{x1 y1:qw}{x2 y2:yd}{x3 y3:G9}{x4 y4:R6}(h:some (x0,x1,x2,x3,x4)=some (y0,y1,y2,y3,y4)):x0=y0/\x1=y1/\x2=y2/\x3=y3/\x4=y4:=by
 simpa using h
abbrev wi(x:Int):Int:=IntKind.i64.wrap x
theorem fh{x:Int}(h:-9223372036854775808<=x/\x<=9223372036854775807):wi x=x:=i64_in x h
abbrev bJ(i:Int)(n:Nat):Prop:=0<=i/\i<(n:Int)
theorem bj{α:Type}[Inhabited α]{l:List α}{i:Int}(h:bJ i l.length):l[i.toNat]? = some (J l i.toNat):=get_at (by have:=h.1;have:=h.2;omega)
theorem fc{α:Type}[Inhabited α]{l:List α}{i:Int}(h:bJ i l.length):i.toNat<l.length:=by have:=h.1;have:=h.2;omega
def aK(x:Int):List Value:=[.int .i64 x]
theorem aJ:uD aK 1:=⟨λ_=>rfl,λx u h=>by simp only[aK,uA,uB,uC]at h;subst h;rfl,gB⟩
def IB(x:Bool):List Value:=[.bool x]
def dJ:fB->Nat | some a=>a.block | none=>0
def jf:fB->Nat | some a=>a.off | none=>0
section
variable {P:Program}{w0 w:World}{L:List bl}{α:Type}{E:TypeId}{sz n cc:Nat}{enc:α->List Value}{l:List α}{ca:fB}{o:Oper}{e:Nat->Value}{t:TypeId}{Df:List Deferred}
theorem _root_.Go.Proofs.YtaiffafelihaaaaGreatDoor.SL.Fit.tW(h:Fit w0 (aD (rowOf E sz enc (.slice ca n cc) l::L)) w)(hl:0<l.length):ca=some ⟨dJ ca,0,none⟩/\Fit w0 (aD (slc E sz enc (dJ ca) cc l::L)) w:=by
 obtain⟨g,e,h'⟩:=h.Xc hl;subst e;exact⟨rfl,h'⟩
theorem _root_.Go.Proofs.YtaiffafelihaaaaGreatDoor.SL.Fit.cy(he:uD enc sz)(h:Fit w0 (aD (rowOf E sz enc (.slice ca n cc) l::L)) w){i f:Nat}{x:α}{u:Value}(hi:l[i]? = some x)(hf:(enc x)[f]? = some u):w.cell? ⟨dJ ca,i*sz+f,none⟩=some u:=by
 have hlt:i<l.length:=(List.getElem?_eq_some_iff.1 hi).1;exact(h.tW I).2.Qo he i f x u hi hf
theorem _root_.Go.Proofs.YtaiffafelihaaaaGreatDoor.SL.Fit.Ay(h:Fit w0 (aD (slc E sz enc (dJ ca) cc l::L)) w)(hca:ca=some ⟨dJ ca,0,none⟩)(hn:n=l.length):Fit w0 (aD (rowOf E sz enc (.slice ca n cc) l::L)) w:=h.Xd hca hn
theorem Bs{w':World}{x y:Operand}{k:IntKind}{i:Int}(ho:o.op= .indexAddr t x y)(hx:eO e x= .slice ca n cc)(hy:eO e y= .int k i)
 (ht:P.underlying t=some (.slice E)) (hs:(P.info? E).map (·.size)=some sz) (hF:Fit w0 (aD (rowOf E sz enc (.slice ca n cc) l::L)) w) (hi:bJ i l.length):(execOp (eO e) o).run P w'= .ok (.value (.pointer (some ⟨dJ ca,i.toNat*sz,none⟩))) w':=by
 have hn:=hF.rS;have h0:=hi.1;have h1:=hi.2;have hca:=(hF.tW I).1;exact aag hca ho hx hy ht hs h0 I
end
section
variable {P:Program}{ops:Array Oper}{Q:Exit->Act->World->Prop}{a:Act}{w w0 w1:World}{rest:List Oper}{o:Oper}{n d t:Nat}{v:Value}{l:List (Nat×Value)}{j e:Nat->Value}{L:List bl}{H:bl}{Df:List Deferred}
variable {α:Type}{E:TypeId}{sz n0 cc:Nat}{enc:α->List Value}{xs:List α}{ca:fB}
theorem qZ{x y:Operand}(hw:vM o ops a)(hd:o.dst=none)(hr:cR Df n (lk l j) a)(ho:o.op= .store t x y)
 {i f:Nat} (hx:eO (lk l j) x= .pointer (some ⟨dJ ca,i*sz+f,none⟩)) (hy:eO (lk l j) y=v) (hv:v.cells=#[v]) (h1:v.oneCell'=true) (hs:(P.info? t).map (·.size)=some 1)
 (he:uD enc sz) (hF:Fit w0 (aD (rowOf E sz enc (.slice ca n0 cc) xs::L)) w) {p q:α} (hp:xs[i]? = some p) (hf:f<sz) (hq:enc q=(enc p).set f v)
 (k:∀w1,Fit w0 (aD (rowOf E sz enc (.slice ca n0 cc) (xs.set i q)::L)) w1->wpList P ops Q rest a w1):wpList P ops Q (o::rest) a w:=by
 have hlt:i<xs.length:=(List.getElem?_eq_some_iff.1 hp).1;have hn:=hF.rS;obtain⟨hca,D2⟩:=hF.tW I;exact Ll hw hd hr ho hx hy hv h1 hs he D2 hp hf hq λw1 h=>k w1 (h.Ay hca (by rw[gU];exact hn))
theorem zM{x y:Operand}{vs:List Value}(hw:vM o ops a)(hd:o.dst=none)(hr:cR Df n (lk l j) a)(ho:o.op= .store t x y)
 {i:Nat} (hx:eO (lk l j) x= .pointer (some ⟨dJ ca,i*sz,none⟩)) (hy:eO (lk l j) y= .agg vs.toArray) (h1:vs.all (·.oneCell')=true) (hs:(P.info? t).map (·.size)=some vs.length)
 (he:uD enc sz) (hF:Fit w0 (aD (rowOf E sz enc (.slice ca n0 cc) xs::L)) w) {q:α} (hi:i<xs.length) (hq:enc q=vs)
 (k:∀w1,Fit w0 (aD (rowOf E sz enc (.slice ca n0 cc) (xs.set i q)::L)) w1->wpList P ops Q rest a w1):wpList P ops Q (o::rest) a w:=by
 have hn:=hF.rS;obtain⟨hca,D2⟩:=hF.tW I;exact JR hw hd hr ho hx hy h1 hs he D2 hi hq λw1 h=>k w1 (h.Ay hca (by rw[gU];exact hn))
theorem tX{x y:Operand}{i:Int}{bytes:Nat}{zc:Array Value}(z0:α)(hw:vM o ops a)(hd:o.dst=some d)(hn:Nat.blt d n=true)(hr:cR Df n (lk l j) a)
 (ho:o.op= .makeSlice t x y) (hx:eO (lk l j) x= .int .i64 i) (hy:eO (lk l j) y= .int .i64 i) (hi:0<=i/\i*bytes<=140737488355328) (he:uD enc sz) (hty:P.underlying t=some (.slice E))
 (sO:(P.info? E).map (λi=>(i.size,i.bytes,i.zero.map (·.cells)))=some (sz,bytes,some zc)) (hz:zc.toList=enc z0) (OO:Nat.blt 0 bytes=true) (hF:Fit w0 (aD L) w)
 (k:∀ca w1 a,Fit w0 (aD (rowOf E sz enc (.slice ca (List.replicate i.toNat z0).length i.toNat) (List.replicate i.toNat z0)::L)) w1->cR Df n (lk ((d,.slice ca (List.replicate i.toNat z0).length i.toNat)::l) j) a->wpList P ops Q rest a w1):wpList P ops Q (o::rest) a w:=by
 have hb:i.toNat*bytes<=140737488355328:=by
  have h2:=hi.2;have e:((i.toNat*bytes:Nat):Int)=i*bytes:=by rw[Int.natCast_mul,Int.toNat_of_nonneg hi.1]
  omega
 refine Xi (c:=i.toNat) z0 hw hd hn hr ho hx hy (by have:=hi.1;omega) he hty sO hz hb OO hF λg w1 a h G7 => ?_;have hl:(List.replicate i.toNat z0).length=i.toNat:=od;refine k (some ⟨g,0,none⟩) w1 a (h.Qn rfl) ?_;rw[hl];exact G7
theorem Nh{s x:Operand}{cb:fB}{n1 cd:Nat}{ys:List α}(hw:vM o ops a)(hd:o.dst=some d)(hn:Nat.blt d n=true)(hr:cR Df n (lk l j) a)
 (ho:o.op= .call {callee:=.builtin .copy,args:=#[s,x],argTypes:=#[t,t]}) (hs:eO (lk l j) s= .slice ca n0 cc) (hx:eO (lk l j) x= .slice cb n1 cd)
 (he:uD enc sz) (hty:P.underlying t=some (.slice E)) (hsz:(P.info? E).map (·.size)=some sz) (hlen:ys.length=xs.length)
 (hF:Fit w0 (aD (rowOf E sz enc (.slice ca n0 cc) xs::rowOf E sz enc (.slice cb n1 cd) ys::L)) w)
 (k:∀w1 a,Fit w0 (aD (rowOf E sz enc (.slice ca n0 cc) ys::rowOf E sz enc (.slice cb n1 cd) ys::L)) w1->cR Df n (lk ((d,.int .i64 ((xs.length:Nat):Int))::l) j) a->wpList P ops Q rest a w1):wpList P ops Q (o::rest) a w:=by
 have EZ:=hF.rS;have OP:=(hF.pick 1).rS;rcases hF.rows with ⟨e1,e2,D2⟩ | ⟨g,cap,e1,_,D2⟩
 ·simp only[Value.slice.injEq]at e1;obtain⟨rfl,rfl,rfl⟩:=e1;subst e2;obtain rfl:ys=[]:=GM hlen;subst OP;refine sV (w1:=w) (v:=.int .i64 0) hw hd hn hr ?_ (λa hr=>k w a hF (by simpa using hr));have hcells:(Builtin.firstCells sz 0 (.slice cb 0 cd)).run P w= .ok #[] w:=by
   have:=hF.pick 1;rcases(hF.pick 1).rows with ⟨e3,_,_⟩ | ⟨g',cap',e3,_,_⟩<;>simp only[Value.slice.injEq]at e3<;>rw[e3.1]
   ·have:=run_firstCells_none (P:=P) w sz 0 0 cd;simpa using this
   ·have:=run_firstCells_some (P:=P) w sz 0 ⟨g',0,none⟩ 0 cd [] (by simp) (by intro j u hu;simp at hu);simpa using this
  unfold execOp;cases yE:P.info? E with
  | none=>simp[yE]at hsz
  | some q =>
   simp[yE]at hsz;simp only[ho,resolve,invoke,builtin,n9,uR,oa,GN,BX,Cy,hs,hx];simp[Builtin.copy_,run_underlying hty,Builtin.lenOf,sizeOf,typeInfo,yE,hsz,hcells,goInt]
 ·simp only[Value.slice.injEq]at e1;obtain⟨rfl,_,rfl⟩:=e1;exact Xj hw hd hn hr ho hs hx EZ he hty hsz hlen D2 λw1 a h G7=>k w1 a (h.Qn I) G7
theorem _root_.Go.Proofs.YtaiffafelihaaaaGreatDoor.SL.Fit.dn{w0 w:World}(k:Nat){L:List bl}(h:Fit w0 (aD L) w):Fit w0 (aD (L.drop k)) w:=by
 induction k generalizing L with
 | zero=>exact h
 | succ k ih =>
  cases L with
  | nil=>exact h
  | cons P L=>exact ih h.drop
def bI{α:Type}(L:List bl)(sz:Nat)(enc:α->List Value)(va:fB)(l:List α):Prop:=
 ∀i x,l[i]? = some x->va=some ⟨dJ va,jf va,none⟩/\∀f u,(enc x)[f]? = some u->∀z w,Fit z (aD L) w->w.cell? ⟨dJ va,jf va+i*sz+f,none⟩=some u
theorem bI.nil{va:fB}:bI L sz enc va ([]:List α):=λi x h=>by simp at h
theorem bI.up(k:Nat){L':List bl}{va:fB}{l:List α}(h:bI (L'.drop k) sz enc va l):bI L' sz enc va l:=
 λi x hx=>⟨(h i x hx).1,λf u hu z w hw=>(h i x hx).2 f u hu z w (hw.dn k)⟩
theorem bI.FW{z0:World}{L' L'' L3:List bl}{n cc:Nat}{l:List α}(he:uD enc sz)(h0:Fit z0 (aD (rowOf E sz enc (.slice ca n cc) l::L'')) w)
 (f:∀{z w},Fit z (aD L') w->Fit z (aD (rowOf E sz enc (.slice ca n cc) l::L3)) w):bI L' sz enc ca l:=by
 intro i x hx;have hlt:i<l.length:=(List.getElem?_eq_some_iff.1 hx).1;have hca:=(h0.tW I).1;have ho:jf ca=0:=by rw[hca];rfl
 refine⟨by rw[ho];exact hca,λq u hu z w hw => ?_⟩;rw[ho,Bn];exact(f hw).cy he hx hu
theorem bI.take{va:fB}{l:List α}(h:bI L sz enc va l)(k:Nat):bI L sz enc va (l.take k):=by
 intro i x hx;refine h i x ?_;rw[List.getElem?_take]at hx;split at hx
 ·exact hx
 ·cases hx
theorem Zb{x y:Operand}{k:IntKind}{i:Int}{n0:Nat}{L:List bl}{va:fB}[Inhabited α]{l:List α}(ho:o.op= .indexAddr t x y)(hx:eO e x= .slice va n0 cc)(hy:eO e y= .int k i)(EZ:n0=l.length)
 (ht:P.underlying t=some (.slice E)) (hs:(P.info? E).map (·.size)=some sz) (hF:bI L sz enc va l) (hi:bJ i l.length):(execOp (eO e) o).run P w= .ok (.value (.pointer (some ⟨dJ va,jf va+i.toNat*sz,none⟩))) w:=by
 have h0:=hi.1;have h1:=hi.2;exact rie (hF _ _ (bj hi)).1 ho hx hy ht hs h0 I
theorem bI.cell{z:World}{L:List bl}{va:fB}[Inhabited α]{l:List α}{i:Int}(hF:bI L sz enc va l)(hi:bJ i l.length)(h:Fit z (aD L) w)(f:Nat){u:Value}(hu:(enc (J l i.toNat))[f]? = some u):w.cell? ⟨dJ va,jf va+i.toNat*sz+f,none⟩=some u:=
 (hF _ _ (bj hi)).2 f u hu z w h
theorem IC:∀(n:Nat) (L:List bl),aD ((List.range n).map (λi=>L.getD i ON)++L.drop n)=aD L
 | 0,L=>by simp
 | n+1,[]=>by
  have e:∀n,aD ((List.range n).map (λi=>([]:List bl).getD i ON))=aD []:=by
   intro n
   induction n with
   | zero=>rfl
   | succ n ih =>
    rw[List.range_succ,Ij,CD,ih];show sep ON (sep ON ON)=ON;rw[HN,HN]
  simpa using e (n+1)
 | n+1,P::L=>by
  rw[List.range_succ_eq_map,BX,List.map_map];have ih:=IC n L;show sep P (aD (List.map ((λi=>(P::L).getD i ON)∘Nat.succ) (List.range n)++L.drop n))=sep P (aD L);rw[<-ih]
  rfl
def abJ(n:Nat)(is:List Nat):Bool:=(is++(List.range n).filter (λi => !is.contains i)).isPerm (List.range n)
theorem _root_.Go.Proofs.YtaiffafelihaaaaGreatDoor.SL.Fit.sel{w0 w:World}{L L':List bl}(h:Fit w0 (aD L) w)(n:Nat)(is:List Nat)(hB:abJ n is=true)(e:is.map (λi=>L.getD i ON)++L.drop n=L'):Fit w0 (aD L') w:=by
 subst e;have hp:=(List.isPerm_iff.1 hB).map (λi=>L.getD i ON);have h1:Fit w0 (aD ((List.range n).map (λi=>L.getD i ON)++L.drop n)) w:=h.eq (IC n L).symm;rw[Ij]at hp;have h2:=h1.perm (hp.symm.append_right (L.drop n));have h3:=h2.perm (List.perm_append_comm.append_right (L.drop n));rw[rK]at h3;generalize ((List.range n).filter (λi => !is.contains i)).map (λi=>L.getD i ON)=X at h3;clear h h1 h2 hp hB
 induction X with
 | nil=>exact h3
 | cons x X ih=>exact ih h3.drop
theorem CF{f:FuncId}{args:Array Value}(hw:vM o ops a)(hd:o.dst=some d)(hn:Nat.blt d n=true)(hr:cR Df n (lk l j) a)
 (hrun:(execOp (eO (lk l j)) o).run P w= .ok (.enter f args) w) (hc:Calls P f args w λe w1 =>∃v,e= .returned v/\∀a,cR Df n (lk ((d,v)::l) j) a->wpList P ops Q rest a w1):wpList P ops Q (o::rest) a w:=
 vQ hw hd hn hr hrun hc λe w1 h=>h
theorem ID{fn:Func}{R:Ending->World->Prop}{t1 t2 t3:Nat}{v1 v2 v3:Value}(hres:fn.results=#[.tmp t1,.tmp t2,.tmp t3])(hr:jY n e a)(h1:e t1=v1)(h2:e t2=v2)(h3:e t3=v3)(h:R (.returned (.tuple #[v1,v2,v3])) w):bodyPost P fn R .ret a w:=by
 refine bodyPost_ret ?_ hr.defers h;have g1:=hr.get t1;have g2:=hr.get t2;have g3:=hr.get t3;rw[h1,w5]at g1;rw[h2,w5]at g2;rw[h3,w5]at g3;simp[results,hres,g1,g2,g3]
variable {md:Region.Mode}
def eK(P:Program)(md:Region.Mode)(ops:Array Oper)(Q:Exit->Act->World->Prop)(D:World->Prop)(E:List Nat):Nat->Array Bool->Act->World->Prop
 | 0,aQ,a,w=>Region.ready md ops aQ=[]/\Q .normal a w
 | fuel+1,aQ,a,w=>(Region.ready md ops aQ=[]->Q .normal a w)/\
  ∀i∈Region.ready md ops aQ,wpOp P ops Q i (λa w=>(i∈E->D w)/\eK P md ops Q D E fuel (aQ.setIfInBounds i true) a w) a w
theorem IE{D:World->Prop}{E:List Nat}:∀(fuel:Nat) (aQ:Array Bool) (a:Act) (w:World),eK P md ops Q D E fuel aQ a w->wpAny P md ops Q fuel aQ a w
 | 0,_,_,_,h=>h
 | f+1,aQ,a,w,h=>⟨h.1,λi hi=>wpOp_mono (λa w k=>IE f _ a w k.2) (h.2 i hi)⟩
def D5(md:Region.Mode)(ops:Array Oper)(E:List Nat)(aQ:Array Bool)(i:Nat):Bool:=
 (List.range ops.size).all λk=>k==i||aQ.getD k true || !Ng md ops aQ i ops.size k||E.contains k||match ops[k]? with | some ok=>FT ok | none=>true
theorem R7{D D':World->Prop}{E E':List Nat}{k:Nat}{oi ok:Oper}(hk:ops[k]? = some ok)(hap:oi.apart ops ok=true)(WL:yG Q)
 (hsi:∀cs b,oi.op≠.select cs b) (hsk:∀cs b,ok.op≠.select cs b) (TG:∀k∈E',k∈E/\∀w,D w->D' w) (hDk:∀w w',qY w w'->D' w->D' w') (Ni:(∀w,D' w)∨FT ok=true∨k∈E') (hD:D' w) {K:Act->World->Prop}
 (hy:YD P ops D' oi v a) (h:wpOp P ops Q k (λa w=>(k∈E->D w)/\K a w) (a.put oi.dst v) w):wpOp P ops Q k (λa w=>(k∈E->D w)/\D' w/\YD P ops D' oi v a/\K (a.put oi.dst v) w) a w:=by
 obtain⟨h1,h2,h3⟩:=Oper.apart_spec hap;have keep:∀(a:Act),YD P ops D' oi v a->∀u,YD P ops D' oi v (a.put ok.dst u):=λa hy u=>hy.of_same (execOp_put oi hsi a ok.dst u h3) (wanted_put oi a ok.dst u h3);unfold wpOp at *;simp only[hk]at *;rw[wanted_put ok a oi.dst v h1]at h;by_cases hw:Region.wanted ok (yielded ops a.tmps)=true
 ·rw[bg hw]at h⊢;rcases h with h | h
  ·left
   unfold Oper.wp at *;rw[execOp_put ok hsk a oi.dst v h1]at h;have hkeep:=λ(hb:FT ok=true) x w' hr=>Nc (P:=P) hb a.eval w w' x hr;generalize (execOp a.eval ok).run P w=r at *;cases r with
   | ok x w' =>
    have hD':(k∈E->D w')->D' w':=by
     intro hE;rcases Ni with Az | hb | hb
     ·exact Az w'
     ·exact hDk w w' (hkeep hb x w' rfl).2 hD
     ·exact(TG k hb).2 _ (hE (TG k hb).1)
    cases x<;>simp only[Oper.upon]at h⊢
    case value u=>exact⟨h.1,hD' h.1,keep a hy u,by rw[<-Act.put_comm a v u h2];exact h.2⟩
    case skip=>exact⟨h.1,hD' h.1,keep a hy _,by rw[<-Act.put_comm a v undef h2];exact h.2⟩
    case defer df =>
     refine⟨h.1,hD' h.1,?_,?_⟩
     ·have:YD P ops D' oi v ({a with defers:=df::a.defers}:Act):=hy;exact keep _ this _
     ·have e:=Act.put_comm ({a with defers:=df::a.defers}:Act) v undef h2;rw[<-e];have e2:({(a.put oi.dst v)with defers:=df::(a.put oi.dst v).defers}:Act)=({a with defers:=df::a.defers}:Act).put oi.dst v:=by cases oi.dst<;>rfl
      rw[<-e2];exact h.2
    case enter f args =>
     have Uc:∀w'',(k∈E->D w'')->D' w'':=by
      intro w'' hE;rcases Ni with Az | hb | hb
      ·exact Az w''
      ·obtain⟨⟨u,hu⟩,_⟩:=hkeep hb _ _ rfl;cases hu
      ·exact(TG k hb).2 _ (hE (TG k hb).1)
     refine h.mono λe w'' he => ?_;cases e with
     | returned u=>exact⟨he.1,Uc _ he.1,keep a hy u,by rw[<-Act.put_comm a v u h2];exact he.2⟩
     | panicked ch=>exact WL ch a w'' _ _ he
     | outgrown=>exact he
    case row rw' args =>
     have Uc:∀w'',(k∈E->D w'')->D' w'':=by
      intro w'' hE;rcases Ni with Az | hb | hb
      ·exact Az w''
      ·obtain⟨⟨u,hu⟩,_⟩:=hkeep hb _ _ rfl;cases hu
      ·exact(TG k hb).2 _ (hE (TG k hb).1)
     refine h.mono λu w'' he => ?_;exact⟨he.1,Uc _ he.1,keep a hy u,by rw[<-Act.put_comm a v u h2];exact he.2⟩
   | halt x w' =>
    cases x<;>simp only[Oper.upon]at h⊢;exact WL _ a w' _ _ h
  ·right
   refine⟨?_,h.2⟩;have:=h.1;unfold Oper.asks at *;rw[execOp_put ok hsk a oi.dst v h1]at this;exact this
 ·rw[cQ hw]at h⊢;exact⟨h.1,hD,keep a hy _,by rw[<-Act.put_comm a v undef h2];exact h.2⟩
theorem vS{D D':World->Prop}{E E':List Nat}{i:Nat}{oi:Oper}(hi:ops[i]? = some oi)(WL:yG Q)(hsel:∀(k:Nat) (o:Oper) cs b,ops[k]? = some o->o.op≠.select cs b)(hiD:i∈E->∀w,D' w->D w)(TG:∀k∈E',k∈E/\∀w,D w->D' w)(hDk:∀w w',qY w w'->D' w->D' w')
 (uj:Array Bool) (Ni:(∀w,D' w)∨D5 md ops E' uj i=true) :
 ∀(fuel:Nat) (aQ:Array Bool) (a:Act) (w:World),
   (∀k ok,ops[k]? = some ok->k≠i->aQ.getD k true=false->(∀e∈ok.after,Region.binds md e=true->e.on≠i)->oi.apart ops ok=true)->
   (∀k,aQ.getD k true=false->uj.getD k true=false)->
   (∀k,aQ.getD k false=true->uj.getD k false=true∨∀f,Ng md ops uj i f k=true)->
   i∈Region.ready md ops aQ->D' w->YD P ops D' oi v a->
   eK P md ops Q D E fuel (aQ.setIfInBounds i true) (a.put oi.dst v) w->eK P md ops Q D E (fuel+1) aQ a w:=by
 intro fuel;have hcan:∀(aQ:Array Bool),(∀k,aQ.getD k false=true->uj.getD k false=true∨∀f,Ng md ops uj i f k=true)->∀k ok,ops[k]? = some ok->k≠i->(∀e∈ok.after,Region.binds md e=true->aQ.getD e.on false=true)->∀f,Ng md ops uj i f k=true:=by
  intro aQ hl k ok hk KN Az f;cases f with
  | zero=>rfl
  | succ f =>
   simp only[Ng,hk,mI,bne_iff_ne,ne_eq,KN,not_false_eq_true,true_and];rw[Array.all_eq_true_iff_forall_mem];intro e he;by_cases hb:Region.binds md e=true
   ·rcases hl _ (Az e he hb)with h | h
    ·simp[h]
    ·simp[h f]
   ·simp[hb]
 have hp:∀(aQ:Array Bool),(∀k,aQ.getD k true=false->uj.getD k true=false)->(∀k,aQ.getD k false=true->uj.getD k false=true∨∀f,Ng md ops uj i f k=true)->∀k ok,ops[k]? = some ok->k≠i->aQ.getD k true=false->(∀e∈ok.after,Region.binds md e=true->aQ.getD e.on false=true)->(∀w,D' w)∨FT ok=true∨k∈E':=by
  intro aQ hl0 hl k ok hk KN hun Az;rcases Ni with h | h
  ·exact .inl h
  ·right
   have hc:=hcan aQ hl k ok hk KN Az ops.size;have h1:=List.all_eq_true.1 h k (List.mem_range.2 (Array.getElem?_eq_some_iff.1 hk).1);simp only[hk,EV,Cz,KN,false_or,hl0 k hun,Ik,hc,Bool.not_true,List.contains_iff_mem]at h1;exact h1.symm
 induction fuel with
 | zero =>
  intro aQ a w _ _ _ hr hD hy H;refine⟨λh=>(by rw[h]at hr;cases hr),λk hk => ?_⟩;by_cases KN:k=i
  ·subst KN;exact hy.wpOp hi hD ⟨λh=>hiD h _ hD,H⟩
  ·have:=ready_mono hk KN;rw[H.1]at this;cases this
 | succ fuel ih =>
  intro aQ a w hfree hl0 hl hr hD hy H;refine⟨λh=>(by rw[h]at hr;cases hr),λk hk => ?_⟩;by_cases KN:k=i
  ·subst KN;exact hy.wpOp hi hD ⟨λh=>hiD h _ hD,H⟩
  ·have h1:=H.2 k (ready_mono hk KN);obtain⟨Xn,ok,hok,Az⟩:=mem_ready.1 hk;have hnot:∀e∈ok.after,Region.binds md e=true->e.on≠i:=λe he hb heq=>by
    have h1:=Az e he hb;have h0:=(mem_ready.1 hr).1;rw[heq]at h1;rcases BZ i aQ.size with h' | h'
    ·simp[h']at h0 h1;rw[h0]at h1;cases h1
    ·simp[Array.getElem?_eq_none h']at h1
   have h2:=R7 (D:=D) (E:=E) (E':=E') hok (hfree k ok hok KN Xn hnot) WL (λcs b=>hsel i oi cs b hi) (λcs b=>hsel k ok cs b hok) TG hDk (hp aQ hl0 hl k ok hok KN Xn Az) hD hy h1;have aak:∀m om,ops[m]? = some om->m≠i->(aQ.setIfInBounds k true).getD m true=false->
    (∀e∈om.after,Region.binds md e=true->e.on≠i)->oi.apart ops om=true:=λm om hm hmi hun hno=>by
    refine hfree m om hm hmi ?_ hno;by_cases hkm:k=m
    ·subst hkm;exact Xn
    ·rw[getD_set_ne true hkm]at hun;exact hun
   have adL:∀m,(aQ.setIfInBounds k true).getD m true=false->uj.getD m true=false:=λm hm=>by
    by_cases hkm:k=m
    ·subst hkm;exact hl0 k Xn
    ·rw[getD_set_ne true hkm]at hm;exact hl0 m hm
   have hl':∀m,(aQ.setIfInBounds k true).getD m false=true->uj.getD m false=true∨∀f,Ng md ops uj i f m=true:=λm hm=>by
    by_cases hkm:k=m
    ·subst hkm;exact .inr (hcan aQ hl k ok hok KN Az)
    ·rw[getD_set_ne false hkm]at hm;exact hl m hm
   refine wpOp_mono (λa' w' h3=>⟨h3.1,ih (aQ.setIfInBounds k true) a' w' aak adL hl' (ready_mono hr (Ne.symm KN)) h3.2.1 h3.2.2.1 ?_⟩) h2;rw[Array.setIfInBounds_comm _ _ KN];exact h3.2.2.2
theorem abK{id:Nat}{lo:List Oper}{H:bl}(D:World->Prop)(E:List Nat)(hF:Fit w0 H w)(hm:P.follows .mixedOrders=true)(k:∀w,Fit w0 H w->eK P .any lo.toArray Q D E lo.toArray.size (Array.replicate lo.toArray.size false) a w) :
 (Code.region id lo.toArray true).wp P Q a w:=Xk hF hm λw h=>IE _ _ _ _ (k w h)
theorem e_val{D:World->Prop}{E:List Nat}{fuel i:Nat}{aQ:Array Bool}(WL:yG Q)(hi:ops[i]? = some o)(R8:Region.noSelect ops=true)(hrd:(Region.ready .any ops aQ).contains i=true)(hfr:Region.free .any ops aQ i=true)
 (hiE:E.contains i=false) (hw:vM o ops a) (hd:o.dst=some d) (hn:Nat.blt d n=true) (hr:cR Df n (lk l j) a) (hrun:∀w,(execOp (eO (lk l j)) o).run P w= .ok (.value v) w)
 (k:∀a,cR Df n (lk ((d,v)::l) j) a->eK P .any ops Q D E fuel (aQ.setIfInBounds i true) a w):eK P .any ops Q D E (fuel+1) aQ a w:=by
 refine vS (D:=D) (D':=λ_=>True) (E:=E) (E':=[]) (v:=v) hi WL (MV R8) (λh=>absurd h (by simpa using hiE)) (λ_ h=>nomatch h) (λ_ _ _ _=>trivial) aQ (.inl λ_=>trivial) fuel aQ a w (Region.free_spec hi hfr) (λ_ h=>h) (λ_ h=>.inl h) (by simpa using hrd) trivial ?_ ?_
 ·exact .inl ⟨hw,λw _=>by rw[hr.eval];exact hrun w⟩
 ·rw[hd];exact k _ (hr.put d v hn)
theorem e_off{D:World->Prop}{E:List Nat}{fuel i:Nat}{aQ:Array Bool}(WL:yG Q)(hi:ops[i]? = some o)(R8:Region.noSelect ops=true)(hrd:(Region.ready .any ops aQ).contains i=true)(hfr:Region.free .any ops aQ i=true)
 (hiE:E.contains i=false) (hw:Region.wanted o (yielded ops a.tmps)=false) (hd:o.dst=some d) (hn:Nat.blt d n=true) (hr:cR Df n (lk l j) a)
 (k:∀a,cR Df n (lk ((d,undef)::l) j) a->eK P .any ops Q D E fuel (aQ.setIfInBounds i true) a w):eK P .any ops Q D E (fuel+1) aQ a w:=by
 refine vS (D:=D) (D':=λ_=>True) (E:=E) (E':=[]) (v:=undef) hi WL (MV R8) (λh=>absurd h (by simpa using hiE)) (λ_ h=>nomatch h) (λ_ _ _ _=>trivial) aQ (.inl λ_=>trivial) fuel aQ a w (Region.free_spec hi hfr) (λ_ h=>h) (λ_ h=>.inl h) (by simpa using hrd) trivial ?_ ?_
 ·exact .inr ⟨hw,rfl⟩
 ·rw[hd];exact k _ (hr.put d undef hn)
theorem IF:∀(cs:List Value) (b off:Nat) (w w':World),qY w w'->rT w b off cs->rT w' b off cs
 | [],_,_,_,_,_,_=>trivial
 | _::cs,b,off,w,w',hg,h=>⟨hg _ _ h.1,IF cs b (off+1) w w' hg h.2⟩
theorem aal{D:World->Prop}{E:List Nat}(E':List Nat){fuel i:Nat}{aQ:Array Bool}{b off:Nat}{cs:List Value}(WL:yG Q)(TG:∀k∈E',k∈E/\∀w,D w->rT w b off cs)(hi:ops[i]? = some o)(R8:Region.noSelect ops=true)(hrd:(Region.ready .any ops aQ).contains i=true)(hfr:Region.free .any ops aQ i=true)
 (Uc:D5 .any ops E' aQ i=true) (hiE:E.contains i=false) (hw:vM o ops a) (hd:o.dst=some d) (hn:Nat.blt d n=true) (hr:cR Df n (lk l j) a)
 (hc:rT w b off cs) (hrun:∀w,rT w b off cs->(execOp (eO (lk l j)) o).run P w= .ok (.value v) w)
 (k:∀a,cR Df n (lk ((d,v)::l) j) a->eK P .any ops Q D E fuel (aQ.setIfInBounds i true) a w):eK P .any ops Q D E (fuel+1) aQ a w:=by
 refine vS (D:=D) (D':=λw=>rT w b off cs) (E:=E) (E':=E') (v:=v) hi WL (MV R8) (λh=>absurd h (by simpa using hiE)) TG (λw w'=>IF cs b off w w') aQ (.inr Uc) fuel aQ a w (Region.free_spec hi hfr) (λ_ h=>h) (λ_ h=>.inl h) (by simpa using hrd) hc ?_ ?_
 ·exact .inl ⟨hw,λw h=>by rw[hr.eval];exact hrun w h⟩
 ·rw[hd];exact k _ (hr.put d v hn)
theorem nu{D:World->Prop}{E:List Nat}{fuel:Nat}{aQ:Array Bool}(r:List Nat)(hrd:Region.ready .any ops aQ=r)(hne:r.isEmpty=false)
 (k:Ln (λi =>∃o,ops[i]? = some o/\wpList P ops (Exit.then (λa w=>(i∈E->D w)/\eK P .any ops Q D E fuel (aQ.setIfInBounds i true) a w) Q) [o] a w) r):eK P .any ops Q D E (fuel+1) aQ a w:=by
 refine⟨(λh=>by rw[hrd]at h;rw[h]at hne;cases hne),λk' hk' => ?_⟩;rw[hrd]at hk';obtain⟨o,hi,k⟩:=Ln.mem k k' hk';unfold wpOp;simp only[hi];unfold wpList at k;have hlo:LetsOut (Exit.then (λa w=>(k'∈E->D w)/\eK P .any ops Q D E fuel (aQ.setIfInBounds k' true) a w) Q)->LetsOut Q:=λ⟨a,w,h⟩=>⟨a,w,h⟩;have hmo:∀{x:Act} {y:World} {K:Act->World->Prop},o.wp P x y K (Exit.then (λa w=>(k'∈E->D w)/\eK P .any ops Q D E fuel (aQ.setIfInBounds k' true) a w) Q)->o.wp P x y K Q:=by
  intro x y K h;unfold Oper.wp at *;generalize (execOp x.eval o).run P y=r at *;cases r with
  | ok z w' =>
   cases z<;>simp only[Oper.upon]at h⊢<;> first
    | exact h
    | (refine h.mono λe w'' he => ?_
       cases e with
       | returned u=>exact he
       | panicked ch=>exact he
       | outgrown=>exact hlo he)
  | halt z w'=>cases z<;>simp only[Oper.upon]at h⊢<;> exact h
 split
 ·rename_i hw;rw[bg hw]at k;rcases k with k | k
  ·exact .inl (Oper.wp_mono (λ_ _ h=>h) (hmo k))
  ·exact .inr ⟨k.1,hlo k.2⟩
 ·rename_i hw;rw[cQ hw]at k;exact k
theorem abL{D:World->Prop}{E:List Nat}{fuel i:Nat}{aQ:Array Bool}(hrd:Region.ready .any ops aQ=[i])(hi:ops[i]? = some o)
 (k:wpList P ops (Exit.then (λa w=>(i∈E->D w)/\eK P .any ops Q D E fuel (aQ.setIfInBounds i true) a w) Q) [o] a w):eK P .any ops Q D E (fuel+1) aQ a w:=
 nu [i] hrd rfl (cY ⟨o,hi,k⟩ iO)
theorem abM{D:World->Prop}{E:List Nat}{fuel:Nat}{aQ:Array Bool}(hrd:Region.ready .any ops aQ=[])(k:Q .normal a w):eK P .any ops Q D E fuel aQ a w:=by
 cases fuel with
 | zero=>exact⟨hrd,k⟩
 | succ f=>exact⟨λ_=>k,λi hi=>by rw[hrd]at hi;cases hi⟩
theorem sW{c:Code}(agd:Act->World->Prop)(h:c.wp P (Exit.then agd Q) a w)(k:∀a w,agd a w->Q .normal a w):c.wp P Q a w:=
 Code.wp_mono (λe a w q=>by
  cases e with
  | normal=>exact k a w q
  | _=>exact q) h
class PI (Q:Exit->Act->World->Prop):Prop where
 pi:yG Q
instance adH {fn:Func} {R:Ending->World->Prop}:PI (bodyPost P fn R):=⟨Nd⟩
instance adI {K:Act->World->Prop} [h:PI Q]:PI (Exit.then K Q):=⟨Nf h.pi⟩
instance abN {i:Nat} [h:PI Q]:PI (Exit.inBlock i Q):=⟨Lm h.pi⟩
def okB(ops:Array Oper)(E:List Nat)(aQ:Array Bool)(i:Nat):Bool:=Region.noSelect ops&&(Region.ready .any ops aQ).contains i&&Region.free .any ops aQ i && !E.contains i
theorem Ud{E:List Nat}{aQ:Array Bool}{i:Nat}(h:okB ops E aQ i=true):Region.noSelect ops=true/\(Region.ready .any ops aQ).contains i=true/\Region.free .any ops aQ i=true/\E.contains i=false:=by
 unfold okB at h;simp only[mI,Bool.not_eq_true']at h;exact⟨h.1.1.1,h.1.1.2,h.1.2,h.2⟩
theorem ev{D:World->Prop}{E:List Nat}{aQ:Array Bool}[hp:PI Q](fuel i:Nat)(hi:ops[i]? = some o)(hB:okB ops E aQ i=true)(hw:vM o ops a)(hr:cR Df n (lk l j) a)(v:Value)
 (hrun:∀w,(execOp (eO (lk l j)) o).run P w= .ok (.value v) w) (k:∀a,cR Df n (lk ((d,v)::l) j) a->eK P .any ops Q D E fuel (aQ.setIfInBounds i true) a w) (hd:o.dst=some d:=by rfl) (hn:Nat.blt d n=true:=by rfl) :
 eK P .any ops Q D E (fuel+1) aQ a w:=
 have hb:=Ud hB
 e_val hp.pi hi hb.1 hb.2.1 hb.2.2.1 hb.2.2.2 hw hd hn hr hrun k
theorem eo{D:World->Prop}{E:List Nat}{aQ:Array Bool}[hp:PI Q](fuel i:Nat)(hi:ops[i]? = some o)(hB:okB ops E aQ i=true)(hw:Region.wanted o (yielded ops a.tmps)=false)(hr:cR Df n (lk l j) a)
 (k:∀a,cR Df n (lk ((d,undef)::l) j) a->eK P .any ops Q D E fuel (aQ.setIfInBounds i true) a w) (hd:o.dst=some d:=by rfl) (hn:Nat.blt d n=true:=by rfl) :
 eK P .any ops Q D E (fuel+1) aQ a w:=
 have hb:=Ud hB
 e_off hp.pi hi hb.1 hb.2.1 hb.2.2.1 hb.2.2.2 hw hd hn hr k
def okP(ops:Array Oper)(E:List Nat)(aQ:Array Bool)(i:Nat):Bool:=Region.noSelect ops&&(Region.ready .any ops aQ).contains i&&Region.free .any ops aQ i&&D5 .any ops E aQ i
theorem Zc{E:List Nat}{aQ:Array Bool}{i:Nat}(h:okP ops E aQ i=true):Region.noSelect ops=true/\(Region.ready .any ops aQ).contains i=true/\Region.free .any ops aQ i=true/\D5 .any ops E aQ i=true:=by
 unfold okP at h;simp only[mI]at h;exact⟨h.1.1.1,h.1.1.2,h.1.2,h.2⟩
theorem evD{D:World->Prop}{E:List Nat}{aQ:Array Bool}[hp:PI Q](hgo:∀w w',qY w w'->D w->D w')(hDw:D w)(fuel i:Nat)(hi:ops[i]? = some o)(hB:okP ops E aQ i=true)(hw:vM o ops a)(hr:cR Df n (lk l j) a)(v:Value)
 (hrun:∀w,(execOp (eO (lk l j)) o).run P w= .ok (.value v) w) (k:∀a,cR Df n (lk ((d,v)::l) j) a->eK P .any ops Q D E fuel (aQ.setIfInBounds i true) a w) (hd:o.dst=some d:=by rfl) (hn:Nat.blt d n=true:=by rfl) :
 eK P .any ops Q D E (fuel+1) aQ a w:=by
 have hb:=Zc hB;refine vS (D:=D) (D':=D) (E:=E) (E':=E) (v:=v) hi hp.pi (MV hb.1) (λ_ _ h=>h) (λk hk=>⟨hk,λ_ h=>h⟩) hgo aQ (.inr hb.2.2.2) fuel aQ a w (Region.free_spec hi hb.2.2.1) (λ_ h=>h) (λ_ h=>.inl h) (by simpa using hb.2.1) hDw ?_ ?_
 ·exact .inl ⟨hw,λw _=>by rw[hr.eval];exact hrun w⟩
 ·rw[hd];exact k _ (hr.put d v hn)
theorem eoD{D:World->Prop}{E:List Nat}{aQ:Array Bool}[hp:PI Q](hgo:∀w w',qY w w'->D w->D w')(hDw:D w)(fuel i:Nat)(hi:ops[i]? = some o)(hB:okP ops E aQ i=true)(hw:Region.wanted o (yielded ops a.tmps)=false)(hr:cR Df n (lk l j) a)
 (k:∀a,cR Df n (lk ((d,undef)::l) j) a->eK P .any ops Q D E fuel (aQ.setIfInBounds i true) a w) (hd:o.dst=some d:=by rfl) (hn:Nat.blt d n=true:=by rfl) :
 eK P .any ops Q D E (fuel+1) aQ a w:=by
 have hb:=Zc hB;refine vS (D:=D) (D':=D) (E:=E) (E':=E) (v:=undef) hi hp.pi (MV hb.1) (λ_ _ h=>h) (λk hk=>⟨hk,λ_ h=>h⟩) hgo aQ (.inr hb.2.2.2) fuel aQ a w (Region.free_spec hi hb.2.2.1) (λ_ h=>h) (λ_ h=>.inl h) (by simpa using hb.2.1) hDw ?_ ?_
 ·exact .inr ⟨hw,rfl⟩
 ·rw[hd];exact k _ (hr.put d undef hn)
theorem el{D:World->Prop}{E:List Nat}{aQ:Array Bool}(E':List Nat){b off:Nat}{cs:List Value}[hp:PI Q](TG:∀k∈E',k∈E/\∀w,D w->rT w b off cs)(fuel i:Nat)(hi:ops[i]? = some o)(hB:(okB ops E aQ i&&D5 .any ops E' aQ i)=true)(hw:vM o ops a)(hr:cR Df n (lk l j) a)(v:Value)
 (hc:rT w b off cs) (hrun:∀w,rT w b off cs->(execOp (eO (lk l j)) o).run P w= .ok (.value v) w)
 (k:∀a,cR Df n (lk ((d,v)::l) j) a->eK P .any ops Q D E fuel (aQ.setIfInBounds i true) a w) (hd:o.dst=some d:=by rfl) (hn:Nat.blt d n=true:=by rfl) :
 eK P .any ops Q D E (fuel+1) aQ a w:=by
 rw[mI]at hB;have hb:=Ud hB.1;exact aal E' hp.pi TG hi hb.1 hb.2.1 hb.2.2.1 hB.2 hb.2.2.2 hw hd hn hr hc hrun k
theorem ov(hr:cR Df n (lk l j) a)(v:Value)(hrun:(execOp (eO (lk l j)) o).run P w= .ok (.value v) w)(k:∀a,cR Df n (lk ((d,v)::l) j) a->wpList P ops Q rest a w)
 (hg:o.guard=none:=by rfl) (hd:o.dst=some d:=by rfl) (hn:Nat.blt d n=true:=by rfl):wpList P ops Q (o::rest) a w:=Bp (wn hg) hd hn hr hrun k
def Nj(P:Program):List Oper->List Value->List (Nat×Value)->(Nat->Value)->World->List (Option Nat×Option (Nat×Bool)×Result Next)
 | o::os,v::vs,l,j,w=>(o.dst,o.guard,(execOp (eO (lk l j)) o).run P w)::Nj P os vs ((o.dst.getD 0,v)::l) j w
 | _,_,_,_,_=>[]
def Nk:List Nat->List Value->World->List (Option Nat×Option (Nat×Bool)×Result Next)
 | d::ds,v::vs,w=>(some d,none,.ok (.value v) w)::Nk ds vs w
 | _,_,_=>[]
def Ue:List Nat->List Value->List (Nat×Value)->List (Nat×Value)
 | d::ds,v::vs,l=>Ue ds vs ((d,v)::l)
 | _,_,l=>l
theorem ovs:∀(ds:List Nat) (vs:List Value) {os:List Oper} {a:Act} {l:List (Nat×Value)} (hr:cR Df n (lk l j) a) (hl:ds.length=vs.length/\ds.all (λd=>Nat.blt d n)=true) (hrun:Nj P (os.take ds.length) vs l j w=Nk ds vs w)
 (k:∀a,cR Df n (lk (Ue ds vs l) j) a->wpList P ops Q (os.drop ds.length) a w),wpList P ops Q os a w
 | [],[],os,a,l,hr,_,_,k=>k a hr
 | d::ds,v::vs,[],a,l,hr,hl,hrun,k=>by simp[Nj,Nk]at hrun
 | d::ds,v::vs,o::os,a,l,hr,hl,hrun,k=>by
  simp only[Bm,qy,Nj,Nk,List.cons.injEq,Prod.mk.injEq]at hrun;obtain⟨⟨h1,h2,h3⟩,h4⟩:=hrun;obtain⟨GS,FQ⟩:=hl;simp only[List.all_cons,mI]at FQ;refine Bp (wn h2) h1 FQ.1 hr h3 λa hr => ?_;rw[h1]at h4;exact ovs ds vs hr ⟨by simpa using GS,FQ.2⟩ h4 k
theorem _root_.Go.Proofs.YtaiffafelihaaaaGreatDoor.GX.cR.abO{e:Nat->Value}(h:cR Df n e a)(l:List (Nat×Value))(hl:l.map (λp=>e p.1)=l.map (·.2)) :∃j,cR Df n (lk l j) a:=by
 refine h.fold l ?_
 induction l with
 | nil=>trivial
 | cons p l ih=>simp only[BX,List.cons.injEq]at hl;exact⟨hl.1,ih hl.2⟩
theorem fW{c:Operand}{x y:Code}{e:Nat->Value}(hr:cR Df n e a){b:Bool}(hb:b=true)(h:x.wp P Q a w)(hc:eO e c= .bool b:=by kernel_rfl):(Code.cond c x y).wp P Q a w:=Iv hr hc hb h
theorem jw{c:Operand}{x y:Code}{e:Nat->Value}(hr:cR Df n e a){b:Bool}(hb:b=false)(h:y.wp P Q a w)(hc:eO e c= .bool b:=by kernel_rfl):(Code.cond c x y).wp P Q a w:=Iw hr hc hb h
end
end GX
end
section
namespace SL
open Go Go.RowKit
structure nG(sz:Nat) where
 cs:List Value
 len:cs.length=sz
 one:∀u∈cs,u.oneCell'=true
theorem HP{sz:Nat}(h:0<sz):uD (nG.cs (sz:=sz)) sz:=⟨λx=>x.len,λx=>x.one,h⟩
def uk{α:Type}(e:TypeId)(sz:Nat)(own:α->List Value->bl)(v:Value)(l:List α):bl:=
 exs λcss:List (nG sz)=>aD (RX (css.length=l.length)::rowOf e sz nG.cs v css::List.zipWith (λx c=>own x c.cs) l css)
def CG{α:Type}(e:TypeId)(sz:Nat)(own:α->List Value->bl)(v:Value)(l:List α)(i:Nat)(cs:List Value):bl:=
 exs λcss:List (nG sz)=>aD (RX (css.length=l.length/\(css[i]?).map nG.cs=some cs)::rowOf e sz nG.cs v css::(List.zipWith (λx c=>own x c.cs) l css).eraseIdx i)
section
variable {w0 w:World}{L:List bl}{α:Type}{e:TypeId}{sz n cc i:Nat}{own:α->List Value->bl}{v:Value}{l:List α}{ca:fB}{cs:List Value}{x y:α}
theorem Fit.Dj(h:Fit w0 (aD (uk e sz own v l::L)) w) :∃css:List (nG sz),css.length=l.length/\Fit w0 (aD (rowOf e sz nG.cs v css::(List.zipWith (λx c=>own x c.cs) l css++L))) w:=by
 obtain⟨css,h⟩:=h.rR;have h:=h.vw;obtain⟨hl,h⟩:=h.Aq;exact⟨css,hl,h⟩
theorem Fit.Dk{css:List (nG sz)}(hl:css.length=l.length)(h:Fit w0 (aD (rowOf e sz nG.cs v css::(List.zipWith (λx c=>own x c.cs) l css++L))) w):Fit w0 (aD (uk e sz own v l::L)) w:=by
 refine Fit.mw css ?_;refine Fit.uh (RX (css.length=l.length)::rowOf e sz nG.cs v css::List.zipWith (λx c=>own x c.cs) l css) L ?_;exact h.yC hl
theorem Fit.Dl(h:Fit w0 (aD (CG e sz own v l i cs::L)) w) :∃css:List (nG sz),css.length=l.length/\(css[i]?).map nG.cs=some cs/\Fit w0 (aD (rowOf e sz nG.cs v css::((List.zipWith (λx c=>own x c.cs) l css).eraseIdx i++L))) w:=by
 obtain⟨css,h⟩:=h.rR;have h:=h.vw;obtain⟨hl,h⟩:=h.Aq;exact⟨css,hl.1,hl.2,h⟩
theorem Fit.Qt{css:List (nG sz)}(hl:css.length=l.length)(hi:(css[i]?).map nG.cs=some cs)(h:Fit w0 (aD (rowOf e sz nG.cs v css::((List.zipWith (λx c=>own x c.cs) l css).eraseIdx i++L))) w):Fit w0 (aD (CG e sz own v l i cs::L)) w:=by
 refine Fit.mw css ?_;refine Fit.uh (RX (css.length=l.length/\(css[i]?).map nG.cs=some cs)::rowOf e sz nG.cs v css::(List.zipWith (λx c=>own x c.cs) l css).eraseIdx i) L ?_;exact h.yC ⟨hl,hi⟩
theorem Fit.E4(h:Fit w0 (aD L) w):Fit w0 (aD (uk e sz own (.slice none 0 0) ([]:List α)::L)) w:=
 Fit.Dk (css:=[]) rfl (Fit.fC h)
theorem Fit.O0(h:Fit w0 (aD (uk e sz own (.slice ca n cc) l::L)) w):n=l.length:=by
 obtain⟨css,hl,h⟩:=h.Dj;rw[<-hl];exact h.rS
theorem Fit.aam(h:Fit w0 (aD (CG e sz own (.slice ca n cc) l i cs::L)) w):n=l.length:=by
 obtain⟨css,hl,_,h⟩:=h.Dl;rw[<-hl];exact h.rS
theorem Fit.ng(h:Fit w0 (aD (uk e sz own v l::L)) w)(hi:l[i]? = some x) :∃cs,Fit w0 (aD (CG e sz own v l i cs::own x cs::L)) w:=by
 obtain⟨css,hl,h⟩:=h.Dj;have G6:i<css.length:=by rw[hl];exact(List.getElem?_eq_some_iff.1 hi).1
 have hc:css[i]? = some css[i]:=List.getElem?_eq_getElem G6;refine⟨css[i].cs,Fit.Qt hl (by rw[hc];rfl) ?_⟩;have hz:(List.zipWith (λx c=>own x c.cs) l css)[i]? = some (own x css[i].cs):=by
  rw[List.getElem?_zipWith,hi,hc]
 have h2:Fit w0 (aD (List.zipWith (λx c=>own x c.cs) l css++(rowOf e sz nG.cs v css::L))) w:=h.perm (by
  refine(yA (l₁:=List.zipWith (λx c=>own x c.cs) l css) (a:=rowOf e sz nG.cs v css) (l₂:=L)).symm)
 have h3:=Fit.uh _ _ h2;have h4:Fit w0 (aD (aD (own x css[i].cs::(List.zipWith (λx c=>own x c.cs) l css).eraseIdx i)::rowOf e sz nG.cs v css::L)) w:=by
  refine h3.head λq hq => ?_;have:=FP i (List.zipWith (λx c=>own x c.cs) l css);unfold SL.pick at this;rw[hz]at this;show aD _ q;rw[this];exact hq
 have h5:=h4.vw;refine h5.perm ?_;simp only[uS];refine((yA (l₁:=(List.zipWith (λx c=>own x c.cs) l css).eraseIdx i) (a:=rowOf e sz nG.cs v css) (l₂:=L)).cons _).trans ?_;refine(List.Perm.swap _ _ _).trans (List.Perm.cons _ ?_);exact(yA (l₁:=(List.zipWith (λx c=>own x c.cs) l css).eraseIdx i) (a:=own x css[i].cs) (l₂:=L)).symm
theorem Fit.Uf(hi:i<l.length)(h:Fit w0 (aD (CG e sz own v l i cs::own y cs::L)) w):Fit w0 (aD (uk e sz own v (l.set i y)::L)) w:=by
 obtain⟨css,hl,hc,h⟩:=h.Dl;have G6:i<css.length:=by rw[hl];exact hi
 have KO:css[i]? = some css[i]:=List.getElem?_eq_getElem G6;rw[KO]at hc;simp only[wA,Option.some.injEq]at hc;refine Fit.Dk (css:=css) (by rw[gU];exact hl) ?_;have hz:(List.zipWith (λx c=>own x c.cs) (l.set i y) css)[i]? = some (own y cs):=by
  rw[List.getElem?_zipWith,List.getElem?_set_self hi,KO,<-hc]
 have he:(List.zipWith (λx c=>own x c.cs) (l.set i y) css).eraseIdx i=(List.zipWith (λx c=>own x c.cs) l css).eraseIdx i:=by
  have h1:List.zipWith (λx c=>own x c.cs) (l.set i y) css=(List.zipWith (λx c=>own x c.cs) l css).set i (own y css[i].cs):=by
   apply Ap
   intro k;rw[List.getElem?_zipWith];by_cases hk:i=k
   ·subst hk;rw[List.getElem?_set_self hi,KO,List.getElem?_set_self (by rw[List.length_zipWith];omega)]
   ·rw[List.getElem?_set_ne hk,List.getElem?_set_ne hk,List.getElem?_zipWith]
  rw[h1]
  apply Ap
  intro k;rw[List.getElem?_eraseIdx,List.getElem?_eraseIdx];split
  ·rw[List.getElem?_set_ne I]
  ·rw[List.getElem?_set_ne I]
 have h2:Fit w0 (aD ((own y cs::(List.zipWith (λx c=>own x c.cs) (l.set i y) css).eraseIdx i)++(rowOf e sz nG.cs v css::L))) w:=by
  rw[he];refine h.perm ?_;simp only[uS];refine(List.Perm.cons _ (yA (l₁:=(List.zipWith (λx c=>own x c.cs) l css).eraseIdx i) (a:=own y cs) (l₂:=L))).trans ?_;refine(List.Perm.swap _ _ _).trans (List.Perm.cons _ ?_);exact(yA (l₁:=(List.zipWith (λx c=>own x c.cs) l css).eraseIdx i) (a:=rowOf e sz nG.cs v css) (l₂:=L)).symm
 have h3:=Fit.uh _ _ h2;have h4:Fit w0 (aD (aD (List.zipWith (λx c=>own x c.cs) (l.set i y) css)::rowOf e sz nG.cs v css::L)) w:=by
  refine h3.head λq hq => ?_;have:=FP i (List.zipWith (λx c=>own x c.cs) (l.set i y) css);unfold SL.pick at this;rw[hz]at this;rw[<-this];exact hq
 exact h4.vw.perm (yA (l₁:=List.zipWith (λx c=>own x c.cs) (l.set i y) css) (a:=rowOf e sz nG.cs v css) (l₂:=L))
theorem Fit.qP(h:Fit w0 (aD (CG e sz own (.slice ca n cc) l i cs::L)) w)(hp:0<sz){f:Nat}{u:Value}(hf:cs[f]? = some u):w.cell? ⟨GX.dJ ca,i*sz+f,none⟩=some u:=by
 obtain⟨css,hl,hc,h⟩:=h.Dl;cases KO:css[i]? with
 | none=>rw[KO]at hc;simp at hc
 | some c =>
  rw[KO]at hc;simp only[wA,Option.some.injEq]at hc;exact h.cy (HP hp) KO (by rw[hc];exact hf)
theorem Fit.Qu(h:Fit w0 (aD (CG e sz own v l i cs::L)) w):i<l.length:=by
 obtain⟨css,hl,hc,_⟩:=h.Dl;cases KO:css[i]? with
 | none=>rw[KO]at hc;simp at hc
 | some c=>have:=(List.getElem?_eq_some_iff.1 KO).1;omega
theorem Fit.AA(h:Fit w0 (aD (CG e sz own v l i cs::own y cs::L)) w):Fit w0 (aD (uk e sz own v (l.set i y)::L)) w:=h.Uf h.Qu
theorem Fit.iC[Inhabited α](h:Fit w0 (aD (CG e sz own v l i cs::own (GX.J l i) cs::L)) w):Fit w0 (aD (uk e sz own v l::L)) w:=by
 have hi:=h.Qu;have h:=h.AA;have e1:l.set i (GX.J l i)=l:=by
  apply Ap
  intro k;by_cases hk:i=k
  ·subst hk;rw[List.getElem?_set_self hi,GX.get_at hi]
  ·rw[List.getElem?_set_ne hk]
 rw[e1]at h;exact h
theorem Fit.KP(h:Fit w0 (aD (uk e sz own (.slice ca n cc) l::L)) w)(hl:0<l.length):ca=some ⟨GX.dJ ca,0,none⟩:=by
 obtain⟨css,hl',h⟩:=h.Dj;exact(h.tW I).1
theorem Fit.R9(h:Fit w0 (aD (CG e sz own (.slice ca n cc) l i cs::L)) w):ca=some ⟨GX.dJ ca,0,none⟩:=by
 obtain⟨css,hl',hc,h⟩:=h.Dl;have:0<css.length:=by
  cases KO:css[i]? with
  | none=>rw[KO]at hc;simp at hc
  | some c=>have:=(List.getElem?_eq_some_iff.1 KO).1;omega
 exact(h.tW this).1
theorem Fit.Dm{enc:α->List Value}{b:Nat}{cs:Array Value}{T:TypeId}(hl:l.length=n)(hc:cs.toList=l.flatMap enc)(he:uD enc sz)(hm:n<=maxLen)(h:Fit w0 (aD (pts b (.cells cs T)::L)) w) :
 Fit w0 (aD (rowOf T sz enc (.slice (some ⟨b,0,none⟩) n n) l::L)) w:=by
 subst hl;refine h.head λz hz=>.inr ⟨b,l.length,cs,rfl,gQ _,hm,?_,?_,hz⟩
 ·rw[<-vP,hc,he.flat]
 ·rw[hc];exact GK (by rw[he.flat];exact gQ _)
end
end SL
namespace GX
open Go Go.RowKit SL
section
variable {P:Program}{ops:Array Oper}{Q:Exit->Act->World->Prop}{a:Act}{w w0 w1:World}{rest:List Oper}{o:Oper}{n d t:Nat}{v:Value}{l:List (Nat×Value)}{j e:Nat->Value}{L:List bl}{H:bl}{Df:List Deferred}
variable {α:Type}{E:TypeId}{sz n0 cc:Nat}{enc:α->List Value}{xs:List α}{ca:fB}{own:α->List Value->bl}
theorem HQ{w':World}{x y:Operand}{k:IntKind}{i:Int}(ho:o.op= .indexAddr t x y)(hx:eO e x= .slice ca n cc)(hy:eO e y= .int k i)
 (ht:P.underlying t=some (.slice E)) (hs:(P.info? E).map (·.size)=some sz) (hF:Fit w0 (aD (uk E sz own (.slice ca n cc) xs::L)) w) (hi:bJ i xs.length):(execOp (eO e) o).run P w'= .ok (.value (.pointer (some ⟨dJ ca,i.toNat*sz,none⟩))) w':=by
 have hn:=hF.O0;have h0:=hi.1;have h1:=hi.2;exact aag (hF.KP I) ho hx hy ht hs h0 I
theorem ye{w':World}{x y:Operand}{k:IntKind}{i:Int}{i0:Nat}{cs:List Value}(ho:o.op= .indexAddr t x y)(hx:eO e x= .slice ca n cc)(hy:eO e y= .int k i)
 (ht:P.underlying t=some (.slice E)) (hs:(P.info? E).map (·.size)=some sz) (hF:Fit w0 (aD (CG E sz own (.slice ca n cc) xs i0 cs::L)) w) (hi:bJ i xs.length):(execOp (eO e) o).run P w'= .ok (.value (.pointer (some ⟨dJ ca,i.toNat*sz,none⟩))) w':=by
 have hn:=hF.aam;have h0:=hi.1;have h1:=hi.2;exact aag hF.R9 ho hx hy ht hs h0 I
theorem O1{x y:Operand}{k:IntKind}{i:Int}{b N:Nat}{w':World}(ho:o.op= .indexAddr t x y)(hx:eO e x= .pointer (some ⟨b,0,none⟩))(hy:eO e y= .int k i)
 (ht:P.underlying t=some (.array N E)) (hs:(P.info? E).map (·.size)=some sz) (hN:xs.length=N) (hi:bJ i xs.length):(execOp (eO e) o).run P w'= .ok (.value (.pointer (some ⟨dJ (some ⟨b,0,none⟩),i.toNat*sz,none⟩))) w':=by
 unfold execOp;have h0:=hi.1;have h1:=hi.2;simp only[ho,hx,hy];subst hN;cases hq:P.info? E with
 | none=>simp[hq]at hs
 | some q =>
  simp[hq]at hs;simp[Instr.indexAt,Instr.sureAddr,run_underlying ht,asIntOf,h0,h1,sizeOf,typeInfo,hq,hs,w4,dJ]
theorem D6{x y:Operand}{i f:Nat}{cs:List Value}(hw:vM o ops a)(hd:o.dst=none)(hr:cR Df n (lk l j) a)(ho:o.op= .store t x y)
 (hx:eO (lk l j) x= .pointer (some ⟨dJ ca,i*sz+f,none⟩)) (hy:eO (lk l j) y=v) (hv:v.cells=#[v]) (h1:v.oneCell'=true) (hs:(P.info? t).map (·.size)=some 1) (hp:Nat.blt 0 sz=true)
 (hF:Fit w0 (aD (CG E sz own (.slice ca n0 cc) xs i cs::L)) w) (hf:f<sz)
 (k:∀w1,Fit w0 (aD (CG E sz own (.slice ca n0 cc) xs i (cs.set f v)::L)) w1->wpList P ops Q rest a w1):wpList P ops Q (o::rest) a w:=by
 obtain⟨css,hl,hc,h⟩:=hF.Dl;have hp':0<sz:=qx hp;cases KO:css[i]? with
 | none=>rw[KO]at hc;simp at hc
 | some c =>
  rw[KO]at hc;simp only[wA,Option.some.injEq]at hc;have hlt:i<css.length:=(List.getElem?_eq_some_iff.1 KO).1
  let q:nG sz:=⟨c.cs.set f v,by rw[gU];exact c.len,λu hu=>by
   rcases List.mem_or_eq_of_mem_set hu with h | h
   ·exact c.one u h
   ·subst h;exact h1⟩
  refine qZ hw hd hr ho hx hy hv h1 hs (HP hp') h (p:=c) (q:=q) KO hf rfl λw1 h=>k w1 ?_;refine Fit.Qt (css:=css.set i q) (by rw[gU];exact hl) (by rw[List.getElem?_set_self hlt,<-hc];rfl) ?_;have he:(List.zipWith (λx c=>own x c.cs) xs (css.set i q)).eraseIdx i=(List.zipWith (λx c=>own x c.cs) xs css).eraseIdx i:=by
   apply Ap
   intro k;rw[List.getElem?_eraseIdx,List.getElem?_eraseIdx];split
   ·rw[List.getElem?_zipWith,List.getElem?_zipWith,List.getElem?_set_ne I]
   ·rw[List.getElem?_zipWith,List.getElem?_zipWith,List.getElem?_set_ne I]
  rw[he];exact h
theorem CH{bytes:Nat}{s x:Operand}{ad:Addr}{c:Nat}{y:α}{cs:List Value}(hw:vM o ops a)(hd:o.dst=some d)(hn:Nat.blt d n=true)(hr:cR Df n (lk l j) a)
 (ho:o.op= .call {callee:=.builtin .append,args:=#[s,x],argTypes:=#[t,t]}) (hs:eO (lk l j) s= .slice ca n0 cc) (hx:eO (lk l j) x= .slice (some ad) 1 c)
 (hty:P.underlying t=some (.slice E)) (sO:(P.info? E).map (λi=>(i.size,i.bytes,i.zero.map (·.cells.size)))=some (sz,bytes,some sz))
 (hsz:cs.length=sz) (hone:cs.all (·.oneCell')=true) (hp:Nat.blt 0 sz=true)
 (hF:Fit w0 (aD (uk E sz own (.slice ca n0 cc) xs::own y cs::L)) w) (hnews:∀j u,cs[j]? = some u->w.cell? (ad.add j)=some u)
 (hb:(xs.length+1)*bytes<=140737488355328) (OO:Nat.blt 0 bytes=true)
 (k:∀ca cc w1 a,Fit w0 (aD (uk E sz own (.slice ca (xs++[y]).length cc) (xs++[y])::L)) w1->cR Df n (lk ((d,.slice ca (xs++[y]).length cc)::l) j) a->wpList P ops Q rest a w1):wpList P ops Q (o::rest) a w:=by
 obtain⟨css,hl,h⟩:=hF.Dj;have hp':0<sz:=qx hp
 let c0:nG sz:=⟨cs,hsz,by simpa using hone⟩
 have hlen:(css++[c0]).length=(xs++[y]).length:=by rw[jM,jM,hl];rfl
 refine jU (m:=1) (c:=c) (bytes:=bytes) hw hd hn hr ho hs hx (HP hp') (E:=E) (xs:=css) hty sO h (news:=[c0]) rfl (by simpa using hnews) (by rw[hl];exact hb) OO λca cc w1 a h G7 => ?_;rw[hlen]at h G7;refine k ca cc w1 a (Fit.Dk (css:=css++[c0]) hlen ?_) G7;rw[List.zipWith_append (by rw[hl])];simp only[List.zipWith_cons_cons,List.zipWith_nil_right,rK,uS,Bo];exact h
theorem Bt{bytes:Nat}{s x:Operand}{va:fB}{m0 c:Nat}(hw:vM o ops a)(hd:o.dst=some d)(hn:Nat.blt d n=true)(hr:cR Df n (lk l j) a)
 (ho:o.op= .call {callee:=.builtin .append,args:=#[s,x],argTypes:=#[t,t]}) (hs:eO (lk l j) s= .slice ca n0 cc) {news:List α} (hx:eO (lk l j) x= .slice va news.length c)
 (he:uD enc sz) (hty:P.underlying t=some (.slice E)) (sO:(P.info? E).map (λi=>(i.size,i.bytes,i.zero.map (·.cells.size)))=some (sz,bytes,some sz))
 (hF:Fit w0 (aD (rowOf E sz enc (.slice ca n0 cc) xs::L)) w) (hnews:bI L sz enc va news)
 (hb:(xs.length+news.length)*bytes<=140737488355328) (OO:Nat.blt 0 bytes=true)
 (k:∀ca cc w1 a,Fit w0 (aD (rowOf E sz enc (.slice ca (xs++news).length cc) (xs++news)::L)) w1->cR Df n (lk ((d,.slice ca (xs++news).length cc)::l) j) a->wpList P ops Q rest a w1):wpList P ops Q (o::rest) a w:=by
 by_cases h0:news.length=0
 ·have EZ:news=[]:=GM h0;subst EZ;have Zd:=hF.rS;simp only[B3]at k;obtain⟨q,z,hq,h1,h2,h3,h4⟩ :∃i z,P.info? E=some i/\i.size=sz/\i.bytes=bytes/\i.zero=some z/\z.cells.size=sz:=by
   cases hi:P.info? E with
   | none=>simp[hi]at sO
   | some i =>
    simp only[hi,wA,Option.some.injEq,Prod.mk.injEq]at sO;cases hz:i.zero with
    | none=>simp[hz]at sO
    | some z=>exact⟨i,z,rfl,sO.1,sO.2.1,hz,by simpa [hz]using sO.2.2⟩
  obtain⟨a',c',e1,_,WM⟩:=hF.HO;simp only[Value.slice.injEq]at e1;obtain⟨rfl,_,rfl⟩:=e1;refine sV (w1:=w) (v:=.slice ca xs.length cc) hw hd hn hr ?_ (λa hr=>k ca cc w a (Zd▸ hF) hr);unfold execOp;have hle:n0<=cc:=by omega
  simp only[ho,resolve,invoke,builtin,n9,uR,oa,GN,BX,Cy,hs,hx];subst Zd;cases ca with
  | none=>cases va<;>simp[Builtin.append_,run_underlying hty,sizeOf,typeInfo,hq,Builtin.lenOf,Builtin.firstCells,loadCells,loadCellsFrom,WM]
  | some ac=>cases va<;>simp[Builtin.append_,run_underlying hty,sizeOf,typeInfo,hq,Builtin.lenOf,Builtin.firstCells,loadCells,loadCellsFrom,WM,storeCells]
 ·obtain⟨y,hy⟩ :∃y,news[0]? = some y:=⟨_,List.getElem?_eq_getElem I⟩;have hva:=(hnews 0 y hy).1;rw[hva]at hx;refine jU (m:=news.length) (c:=c) (bytes:=bytes) hw hd hn hr ho hs hx he hty sO hF (news:=news) rfl (λi u hu => ?_) hb OO k;have hlt:=(List.getElem?_eq_some_iff.1 hu).1;rw[he.flat]at hlt;have hp:=he.pos;have hdiv:i/sz<news.length:=(Nat.div_lt_iff_lt_mul hp).2 hlt;have hm:i%sz<sz:=Nat.mod_lt _ hp;have hyi:news[i/sz]? = some (news[i/sz]'hdiv):=List.getElem?_eq_getElem hdiv;have hg:=he.get news (i/sz) (i%sz) _ hyi hm;rw[show i/sz*sz+i%sz=i by rw[Nat.mul_comm];exact Ii i sz,hu]at hg;have:=(hnews _ _ hyi).2 (i%sz) u hg.symm w0 w hF.drop;rw[w4];rw[show jf va+i=jf va+i/sz*sz+i%sz by rw[Nat.add_assoc,Nat.mul_comm,Ii]];exact this
end
end GX
end
section
namespace Ar
open Go Go.RowKit SL GX
structure Acc where
 who:Int
 kind:Int
 addr:Int
 a:Int
 b:Int
 ok:Bool
deriving Inhabited,DecidableEq
def jz(x:Int):List Value:=[.int .i64 x]
structure ASt where
 size:Int
 cells:List Int
 log:List Acc
 wB:Int
 on:Bool
end Ar
end
section
namespace RK
open Go Go.RowKit Go.ChangeShapes Go.WideShapes Go.Deep SL GX Ar
section
variable {H:Type}{enc:TypeId×Value->H}{P:Program}{w agb:World}{base:Nat}{spare:Nat->Bool}{held:Bool}{r:Reach}{b0:Nat}{t e:TypeId}{v:Value}{d:DataW H}{ps:List MemPlace}
theorem D7(hl:laidOutB P=true){W':World}(hb:Below agb.heap.size agb W'):∀{ts:List TypeId} {vs:List Value} {ds:List (DataW H)} {ps:List MemPlace},
 ts.all (λt=>P.readableRec t&&decide (t<P.types.size))=true->DataW.TrodAll enc P agb 0 (λ_=>true) true ts vs ds ps->DataW.TrodAll enc P W' 0 (λb=>decide (b<agb.heap.size)) true ts vs ds ps
 | [],[],[],_,_,h=>h
 | t::ts,v::vs,d::ds,_,hts,⟨p,q,h1,h2,e⟩=>by
  simp only[List.all_cons,mI,CA]at hts;refine⟨p,q,Below.trod hl hts.1.1 hts.1.2 h1 hb ?_,D7 hl hb hts.2 h2,e⟩;obtain⟨n,hn⟩:=h1;exact DataW.trod_lt n _ _ _ hn
theorem wf_i64{x:Int}(h:(Lit.int .i64 x).wf=true):-9223372036854775808<=x/\x<=9223372036854775807:=by
 simp only[Lit.wf,mI,CA]at h;exact⟨h.1,h.2⟩
end
open Go Go.RowKit Go.ChangeShapes Go.WideShapes Go.Deep SL GX
theorem Nl{H:Type}(d:DataW H):1<=Rows.uptoBulk d:=by
 cases d with
 | lit l=>cases l<;>simp[Rows.uptoBulk]
 | nil=>simp[Rows.uptoBulk]
 | ptr d=>simp[Rows.uptoBulk]
 | slice elems spare=>simp[Rows.uptoBulk]
 | agg parts=>simp[Rows.uptoBulk]
 | iface t d=>simp[Rows.uptoBulk]
 | map entries=>simp[Rows.uptoBulk]
 | held h=>simp[Rows.uptoBulk]
theorem KQ{H:Type}{d:DataW H}{l:List (DataW H)}(h:d∈l):Rows.uptoBulk d<=Rows.uptoBulkAll l:=by
 induction l with
 | nil=>cases h
 | cons x r ih =>
  simp only[Rows.uptoBulkAll];cases List.mem_cons.1 h with
  | inl e=>subst e;omega
  | inr e=>have:=ih e;omega
theorem Ug{H:Type}(l:List (DataW H)):l.length<=Rows.uptoBulkAll l:=by
 induction l with
 | nil=>simp
 | cons x r ih=>have:=Nl x;simp only[Rows.uptoBulkAll,Bm];omega
def IG(x:Int):Prop:=-9223372036854775808<=x/\x<=9223372036854775807
end RK
end
section
namespace GX
open Go Go.RowKit SL
abbrev Z(x:Int):Value:=.int .i64 x
abbrev vB(x:Bool):Value:=.bool x
abbrev pN:Value:=.pointer none
abbrev pA(b off:Nat):Value:=.pointer (some ⟨b,off,none⟩)
section
variable {P:Program}{ops:Array Oper}{Q:Exit->Act->World->Prop}{a:Act}{w w0 w1:World}{rest:List Oper}{o:Oper}{n d t T:Nat}{v u:Value}{l:List (Nat×Value)}{j e:Nat->Value}{L:List bl}{Df:List Deferred}
theorem nL{i:Nat}{b x c r:Bool}(hr:cR Df n e a)(pf:x=c)(hg:o.guard=some (i,b):=by rfl)(hi:(ops[i]?).bind (·.dst)=some t:=by rfl)(ht:Nat.blt t n=true:=by rfl)(he:e t= .bool x:=by kernel_rfl)(hc:(c==b)=r:=by rfl) :
 Region.wanted o (yielded ops a.tmps)=r:=by
 subst pf hc;exact wg hr hg hi ht he
theorem adM(hw:Region.wanted o (yielded ops a.tmps)=false)(hr:cR Df n (lk l j) a)(k:∀a,cR Df n (lk ((d,undef)::l) j) a->wpList P ops Q rest a w)(hd:o.dst=some d:=by rfl)(hn:Nat.blt d n=true:=by rfl):wpList P ops Q (o::rest) a w:=OY hw hd hn hr k
theorem CK(hw:vM o ops a)(hr:cR Df n (lk l j) a)(v:Value)(hrun:(execOp (eO (lk l j)) o).run P w= .ok (.value v) w)(k:∀a,cR Df n (lk ((d,v)::l) j) a->wpList P ops Q rest a w)(hd:o.dst=some d:=by rfl)(hn:Nat.blt d n=true:=by rfl):wpList P ops Q (o::rest) a w:=Bp hw hd hn hr hrun k
theorem ld{x:Operand}{ad:Addr}(hw:vM o ops a)(hr:cR Df n (lk l j) a)(v:Value)(hc:w.cell? ad=some v)(k:∀a,cR Df n (lk ((d,v)::l) j) a->wpList P ops Q rest a w)
 (hd:o.dst=some d:=by rfl) (hn:Nat.blt d n=true:=by rfl) (ho:o.op= .load T x:=by rfl) (hx:eO (lk l j) x= .pointer (some ad):=by kernel_rfl) (hu:yD (P.underlying T)=true:=by kernel_rfl):wpList P ops Q (o::rest) a w:=Bp hw hd hn hr (rl ho hx hu hc) k
theorem ldm{x:Operand}{b off:Nat}{cs:List Value}(hw:vM o ops a)(hr:cR Df n (lk l j) a)(v:Value)(hc:rT w b off cs)(k:∀a,cR Df n (lk ((d,v)::l) j) a->wpList P ops Q rest a w)(hv: .agg cs.toArray=v:=by rfl)
 (hd:o.dst=some d:=by rfl) (hn:Nat.blt d n=true:=by rfl) (ho:o.op= .load T x:=by rfl) (hx:eO (lk l j) x= .pointer (some ⟨b,off,none⟩):=by kernel_rfl) (hu:vo (P.underlying T)=true:=by kernel_rfl) (hs:(P.info? T).map (·.size)=some cs.length:=by kernel_rfl):wpList P ops Q (o::rest) a w:=by
 subst hv;exact Bp hw hd hn hr (rlm ho hx hu hs hc) k
theorem _root_.Go.Proofs.YtaiffafelihaaaaGreatDoor.SL.Fit.held{z:World}{b:Nat}{cs:Array Value}{t:TypeId}{q:Nat×Nat}(h:Fit z (aD (pts b (.cells cs t q)::L)) w)(off:Nat){xs:List Value}(hx:(cs.toList.drop off).take xs.length=xs):rT w b off xs:=by
 have hg:∀k u,xs[k]? = some u->w.cell? ⟨b,off+k,none⟩=some u:=by
  intro k u hk;refine h.cell (off+k) ?_;rw[<-hx,List.getElem?_take]at hk;split at hk
  ·rw[List.getElem?_drop]at hk;simpa using hk
  ·cases hk
 clear hx
 induction xs generalizing off with
 | nil=>trivial
 | cons x xs ih =>
  refine⟨hg 0 x rfl,ih (off+1) λk u hk => ?_⟩;have:=hg (k+1) u (by simpa using hk);rw[show off+1+k=off+(k+1) by omega];exact this
theorem sr{Uh:Nat}{y:Code}{os:List Oper}(h:wpList P os.toArray (Exit.then (y.wp P Q) Q) os a w):(Code.seq (.region Uh os.toArray false) y).wp P Q a w:=wp_seq (wp_region_lit h)
theorem evs{D:World->Prop}{E:List Nat}{aQ:Array Bool}[hp:PI Q](fuel i:Nat)(hi:ops[i]? = some o)(hw:vM o ops a)(hr:cR Df n (lk l j) a)(v:Value)
 (k:∀a,cR Df n (lk ((d,v)::l) j) a->eK P .any ops Q D E fuel (aQ.setIfInBounds i true) a w) (hB:okB ops E aQ i=true:=by kernel_rfl)
 (hrun:∀w,(execOp (eO (lk l j)) o).run P w= .ok (.value v) w:=by intro w;kernel_rfl) (hd:o.dst=some d:=by rfl) (hn:Nat.blt d n=true:=by rfl) :
 eK P .any ops Q D E (fuel+1) aQ a w:=ev fuel i hi hB hw hr v hrun k hd hn
theorem Ze{D:World->Prop}{E:List Nat}{aQ:Array Bool}[hp:PI Q](fuel i:Nat)(hi:ops[i]? = some o)(hw:Region.wanted o (yielded ops a.tmps)=false)(hr:cR Df n (lk l j) a)
 (k:∀a,cR Df n (lk ((d,undef)::l) j) a->eK P .any ops Q D E fuel (aQ.setIfInBounds i true) a w) (hB:okB ops E aQ i=true:=by kernel_rfl) (hd:o.dst=some d:=by rfl) (hn:Nat.blt d n=true:=by rfl) :
 eK P .any ops Q D E (fuel+1) aQ a w:=eo fuel i hi hB hw hr k hd hn
abbrev nb(b:Nat):Value:=pA b 0
theorem o1(hr:cR Df n (lk l j) a)(v:Value)(k:∀a,cR Df n (lk ((d,v)::l) j) a->wpList P ops Q rest a w)(hrun:(execOp (eO (lk l j)) o).run P w= .ok (.value v) w:=by kernel_rfl)(hg:o.guard=none:=by rfl)(hd:o.dst=some d:=by rfl)(hn:Nat.blt d n=true:=by rfl):wpList P ops Q (o::rest) a w:=ov hr v hrun k hg hd hn
theorem oo(ds:List Nat)(vs:List Value){os:List Oper}(hr:cR Df n (lk l j) a)(k:∀a,cR Df n (lk (Ue ds vs l) j) a->wpList P ops Q (os.drop ds.length) a w)(hl:ds.length=vs.length/\ds.all (λd=>Nat.blt d n)=true:=by exact⟨rfl,rfl⟩)(hrun:Nj P (os.take ds.length) vs l j w=Nk ds vs w:=by kernel_rfl):wpList P ops Q os a w:=ovs ds vs hr hl hrun k
theorem cl{f:FuncId}{args:Array Value}{R:Ending->World->Prop}(hw:vM o ops a)(hr:cR Df n (lk l j) a)(hc:Calls P f args w R)
 (k:∀e w1,R e w1->∃v,e= .returned v/\∀a,cR Df n (lk ((d,v)::l) j) a->wpList P ops Q rest a w1) (hrun:(execOp (eO (lk l j)) o).run P w= .ok (.enter f args) w:=by kernel_rfl) (hd:o.dst=some d:=by rfl) (hn:Nat.blt d n=true:=by rfl):wpList P ops Q (o::rest) a w:=vQ hw hd hn hr hrun hc k
theorem aan(hw:vM o ops a)(hr:cR Df n (lk l j) a)(hF:Fit w0 (aD L) w)(vf:Nat->Value)(cs:Array Value)(T:TypeId)
 (k:∀b w1 a,Fit w0 (aD (pts b (.cells cs T)::L)) w1->cR Df n (lk ((d,vf b)::l) j) a->wpList P ops Q rest a w1) (hrun:(execOp (eO (lk l j)) o).run P w= .ok (.value (vf w.heap.size)) (w.alloc (.cells cs T)):=by kernel_rfl) (hd:o.dst=some d:=by rfl) (hn:Nat.blt d n=true:=by rfl):wpList P ops Q (o::rest) a w:=OZ hw hd hn hr hF hrun k
theorem Lr{α:Type}{E:TypeId}{sz n0 cc:Nat}{enc:α->List Value}{xs:List α}{ca:fB}{x y:Operand}(hw:vM o ops a)(hr:cR Df n (lk l j) a)(he:uD enc sz)(hF:Fit w0 (aD (rowOf E sz enc (.slice ca n0 cc) xs::L)) w)(i f:Nat)(v:Value)(p q:α)(hp:xs[i]? = some p)
 (k:∀w1,Fit w0 (aD (rowOf E sz enc (.slice ca n0 cc) (xs.set i q)::L)) w1->wpList P ops Q rest a w1) (hd:o.dst=none:=by rfl) (ho:o.op= .store T x y:=by rfl) (hx:eO (lk l j) x= .pointer (some ⟨dJ ca,i*sz+f,none⟩):=by kernel_rfl) (hy:eO (lk l j) y=v:=by kernel_rfl)
 (hv:v.cells=#[v]:=by rfl) (h1:v.oneCell'=true:=by rfl) (hs:(P.info? T).map (·.size)=some 1:=by kernel_rfl) (hf:f<sz:=by decide) (hq:enc q=(enc p).set f v:=by rfl):wpList P ops Q (o::rest) a w:=qZ hw hd hr ho hx hy hv h1 hs he hF hp hf hq k
theorem ln{K:Act->World->Prop}(h:K a w):wpList P ops (Exit.then K Q) [] a w:=wpList_nil (M6 h)
end
end GX
end
section
namespace SL
open Go Go.RowKit
section
variable {z w:World}{L L':List bl}
theorem Fit.m1{A0 A1:bl}(h:Fit z (aD (A0::A1::L)) w):Fit z (aD (A1::A0::L)) w:=h.pick 1
theorem Fit.m2{A0 A1 A2:bl}(h:Fit z (aD (A0::A1::A2::L)) w):Fit z (aD (A2::A0::A1::L)) w:=h.pick 2
theorem Fit.m3{A0 A1 A2 A3:bl}(h:Fit z (aD (A0::A1::A2::A3::L)) w):Fit z (aD (A3::A0::A1::A2::L)) w:=h.pick 3
theorem Fit.m4{A0 A1 A2 A3 A4:bl}(h:Fit z (aD (A0::A1::A2::A3::A4::L)) w):Fit z (aD (A4::A0::A1::A2::A3::L)) w:=h.pick 4
theorem Fit.m5{A0 A1 A2 A3 A4 A5:bl}(h:Fit z (aD (A0::A1::A2::A3::A4::A5::L)) w):Fit z (aD (A5::A0::A1::A2::A3::A4::L)) w:=h.pick 5
theorem Fit.m6{A0 A1 A2 A3 A4 A5 A6:bl}(h:Fit z (aD (A0::A1::A2::A3::A4::A5::A6::L)) w):Fit z (aD (A6::A0::A1::A2::A3::A4::A5::L)) w:=h.pick 6
theorem Fit.m7{A0 A1 A2 A3 A4 A5 A6 A7:bl}(h:Fit z (aD (A0::A1::A2::A3::A4::A5::A6::A7::L)) w):Fit z (aD (A7::A0::A1::A2::A3::A4::A5::A6::L)) w:=h.pick 7
theorem Fit.m8{A0 A1 A2 A3 A4 A5 A6 A7 A8:bl}(h:Fit z (aD (A0::A1::A2::A3::A4::A5::A6::A7::A8::L)) w):Fit z (aD (A8::A0::A1::A2::A3::A4::A5::A6::A7::L)) w:=h.pick 8
theorem Fit.m9{A0 A1 A2 A3 A4 A5 A6 A7 A8 A9:bl}(h:Fit z (aD (A0::A1::A2::A3::A4::A5::A6::A7::A8::A9::L)) w):Fit z (aD (A9::A0::A1::A2::A3::A4::A5::A6::A7::A8::L)) w:=h.pick 9
theorem Fit.OQ{A0 A1 A2 A3 A4 A5 A6 A7 A8 A9 A10:bl}(h:Fit z (aD (A0::A1::A2::A3::A4::A5::A6::A7::A8::A9::A10::L)) w):Fit z (aD (A10::A0::A1::A2::A3::A4::A5::A6::A7::A8::A9::L)) w:=h.pick 10
theorem Fit.m11{A0 A1 A2 A3 A4 A5 A6 A7 A8 A9 A10 A11:bl}(h:Fit z (aD (A0::A1::A2::A3::A4::A5::A6::A7::A8::A9::A10::A11::L)) w):Fit z (aD (A11::A0::A1::A2::A3::A4::A5::A6::A7::A8::A9::A10::L)) w:=h.pick 11
theorem Fit.II{n m:Nat}(e:n=m)(F:Nat->bl)(h:Fit z (aD (F n::L)) w):Fit z (aD (F m::L)) w:=e▸ h
theorem Fit.Lt{α:Type}{e sz cc n:Nat}{enc:α->List Value}{ca:fB}{l:List α}{P:bl}(h:Fit z (aD (rowOf e sz enc (.slice ca n cc) l::P::L)) w)(f:Nat->bl)(hp:P=f n:=by rfl):Fit z (aD (rowOf e sz enc (.slice ca l.length cc) l::f l.length::L)) w:=by
 have hn:=h.rS;subst hn;exact hp▸ h
theorem Fit.se(h:Fit z (aD L) w)(n:Nat)(is:List Nat)(hB:GX.abJ n is=true:=by kernel_rfl)(e:is.map (λi=>L.getD i ON)++L.drop n=L':=by kernel_rfl):Fit z (aD L') w:=h.sel n is hB e
end
end SL
namespace GX
open Go Go.RowKit SL
section
variable {P:Program}{ops:Array Oper}{Q:Exit->Act->World->Prop}{a:Act}{w w0 w1:World}{rest os:List Oper}{o:Oper}{n d t T:Nat}{v u:Value}{l:List (Nat×Value)}{j e:Nat->Value}{L:List bl}{Df:List Deferred}
theorem cR.fj{X:Prop}(h:cR Df n e a)(hX:X)(hl:l.map (λp=>e p.1)=l.map (·.2):=by kernel_rfl) :∃j,cR Df n (lk l j) a/\X:=let ⟨j,h⟩:=h.abO l hl;⟨j,h,hX⟩
theorem cR.re(h:cR Df n (lk l j) a)(t:Nat){v v':Value}(e:v=v')(hv:lk l j t=v:=by kernel_rfl):cR Df n (lk ((t,v')::l) j) a:=by
 obtain⟨h1,h2,h3⟩:=h;refine⟨h1,λq => ?_,h3⟩;rw[h2 q];show lk l j q=bif Nat.beq q t then v' else lk l j q;cases hb:Nat.beq q t with
 | false=>rfl
 | true=>have:=Qj hb;subst this;rw[hv,e];rfl
def HL:List (Nat×Nat×List Value)->World->Prop
 | [],_=>True
 | p::r,w=>rT w p.1 p.2.1 p.2.2/\HL r w
theorem Ui:∀D w w',qY w w'->HL D w->HL D w'
 | [],_,_,_,_=>trivial
 | p::r,w,w',g,h=>⟨IF _ _ _ _ _ g h.1,Ui r w w' g h.2⟩
theorem IJ:∀{D:List (Nat×Nat×List Value)} {k:Nat} {p:Nat×Nat×List Value},D[k]? = some p->HL D w->rT w p.1 p.2.1 p.2.2
 | [],k,p,e,_=>by simp at e
 | q::r,0,p,e,h=>by simp at e;subst e;exact h.1
 | q::r,k+1,p,e,h=>IJ (D:=r) (k:=k) (by simpa using e) h.2
variable {D:List (Nat×Nat×List Value)}{E:List Nat}{aQ:Array Bool}{N:Nat}
theorem El{id:Nat}{lo:List Oper}{H:bl}(D:List (Nat×Nat×List Value))(E:List Nat)(N:Nat)(hF:Fit w0 H w)(hd:∀{w},Fit w0 H w->HL D w)
 (k:∀w,Fit w0 H w->HL D w->eK P .any lo.toArray Q (HL D) E N (Array.replicate N false) a w) (hm:P.follows .mixedOrders=true:=by kernel_rfl) (hN:lo.toArray.size=N:=by rfl) :
 (Code.region id lo.toArray true).wp P Q a w:=by
 subst hN;exact abK (HL D) E hF hm λw h=>k w h (hd h)
def Zf(ops:Array Oper)(E:List Nat)(aQ:Array Bool)(i:Nat):Bool:=okB ops E aQ i||okP ops E aQ i
theorem e1[hp:PI Q](hd:HL D w)(fuel i:Nat)(hi:ops[i]? = some o)(hB:Zf ops E aQ i=true)(hw:vM o ops a)(hr:cR Df n (lk l j) a)(v:Value)
 (hrun:∀w,(execOp (eO (lk l j)) o).run P w= .ok (.value v) w) (k:∀a,cR Df n (lk ((d,v)::l) j) a->eK P .any ops Q (HL D) E fuel (aQ.setIfInBounds i true) a w) (h1:o.dst=some d) (hn:Nat.blt d n=true) :
 eK P .any ops Q (HL D) E (fuel+1) aQ a w:=by
 unfold Zf at hB;rw[EV]at hB;rcases hB with hB | hB
 ·exact ev fuel i hi hB hw hr v hrun k h1 hn
 ·exact evD (Ui D) hd fuel i hi hB hw hr v hrun k h1 hn
theorem e0[hp:PI Q](hd:HL D w)(fuel i:Nat)(hi:ops[i]? = some o)(hB:Zf ops E aQ i=true)(hw:Region.wanted o (yielded ops a.tmps)=false)(hr:cR Df n (lk l j) a)
 (k:∀a,cR Df n (lk ((d,undef)::l) j) a->eK P .any ops Q (HL D) E fuel (aQ.setIfInBounds i true) a w) (h1:o.dst=some d) (hn:Nat.blt d n=true) :
 eK P .any ops Q (HL D) E (fuel+1) aQ a w:=by
 unfold Zf at hB;rw[EV]at hB;rcases hB with hB | hB
 ·exact eo fuel i hi hB hw hr k h1 hn
 ·exact eoD (Ui D) hd fuel i hi hB hw hr k h1 hn
theorem eof[hp:PI Q](hd:HL D w)(f i:Nat)(hi:ops[i]? = some o)(hw:Region.wanted o (yielded ops a.tmps)=false)(hr:cR Df n (lk l j) a)
 (k:∀a,cR Df n (lk ((d,undef)::l) j) a->eK P .any ops Q (HL D) E f (aQ.setIfInBounds i true) a w) (hB:Zf ops E aQ i=true:=by kernel_rfl) (h1:o.dst=some d:=by rfl) (hn:Nat.blt d n=true:=by rfl) :
 eK P .any ops Q (HL D) E (f+1) aQ a w:=e0 hd f i hi hB hw hr k h1 hn
theorem FG[hp:PI Q](hd:HL D w)(f i:Nat)(hi:ops[i]? = some o)(hw:vM o ops a)(hr:cR Df n (lk l j) a)(v:Value)
 (k:∀a,cR Df n (lk ((d,v)::l) j) a->eK P .any ops Q (HL D) E f (aQ.setIfInBounds i true) a w) (hB:Zf ops E aQ i=true:=by kernel_rfl) (hrun:∀w,(execOp (eO (lk l j)) o).run P w= .ok (.value v) w:=by intro w;kernel_rfl) (h1:o.dst=some d:=by rfl) (hn:Nat.blt d n=true:=by rfl) :
 eK P .any ops Q (HL D) E (f+1) aQ a w:=e1 hd f i hi hB hw hr v hrun k h1 hn
def Uj:List (Nat×Nat×Value)->Array Bool->Array Bool
 | [],s=>s
 | p::r,s=>Uj r (s.setIfInBounds p.1 true)
def Uk:List (Nat×Nat×Value)->List (Nat×Value)->List (Nat×Value)
 | [],l=>l
 | p::r,l=>Uk r ((p.2.1,p.2.2)::l)
def Lu(P:Program)(ops:Array Oper):List (Nat×Nat×Value)->List (Nat×Value)->(Nat->Value)->World->List (Option (Option Nat×Option (Nat×Bool))×Result Next)
 | [],_,_,_=>[]
 | p::r,l,j,w=>((ops[p.1]?).map λo=>(o.dst,o.guard),(match ops[p.1]? with | some o=>(execOp (eO (lk l j)) o).run P w | none=>.ok .skip w))::Lu P ops r ((p.2.1,p.2.2)::l) j w
def E5:List (Nat×Nat×Value)->World->List (Option (Option Nat×Option (Nat×Bool))×Result Next)
 | [],_=>[]
 | p::r,w=>(some (some p.2.1,none),.ok (.value p.2.2) w)::E5 r w
def okE(ops:Array Oper)(E:List Nat)(n:Nat):List (Nat×Nat×Value)->Array Bool->Bool
 | [],_=>true
 | p::r,s=>Zf ops E s p.1&&Nat.blt p.2.1 n&&okE ops E n r (s.setIfInBounds p.1 true)
theorem evl[hp:PI Q](hd:HL D w)(f:Nat):∀(is:List (Nat×Nat×Value)) {aQ:Array Bool} {a:Act} {l:List (Nat×Value)} (hr:cR Df n (lk l j) a)
 (k:∀a,cR Df n (lk (Uk is l) j) a->eK P .any ops Q (HL D) E f (Uj is aQ) a w) (hB:okE ops E n is aQ=true:=by kernel_rfl) (hrun:∀w,Lu P ops is l j w=E5 is w:=by intro w;kernel_rfl),
 eK P .any ops Q (HL D) E (f+is.length) aQ a w
 | [],aQ,a,l,hr,k,_,_=>k a hr
 | p::is,aQ,a,l,hr,k,hB,hrun=>by
  simp only[okE,mI]at hB;obtain⟨⟨h1,h2⟩,h3⟩:=hB;have abP:∀w,Lu P ops is ((p.2.1,p.2.2)::l) j w=E5 is w:=λw=>by have:=hrun w;simp only[Lu,E5,List.cons.injEq]at this;exact this.2
  cases ho:ops[p.1]? with
  | none=>have:=hrun w;simp only[Lu,E5,ho,List.cons.injEq]at this;simp at this
  | some o =>
   have h4:∀w,(o.dst=some p.2.1/\o.guard=none)/\(execOp (eO (lk l j)) o).run P w= .ok (.value p.2.2) w:=λw=>by
    have:=hrun w;simp only[Lu,E5,ho,List.cons.injEq,wA,Prod.mk.injEq,Option.some.injEq]at this;exact this.1
   have h5:=(h4 w).1;exact e1 hd (f+is.length) p.1 ho h1 (wn h5.2) hr p.2.2 (λw=>(h4 w).2) (λa hr=>evl hd f is hr k h3 abP) h5.1 h2
theorem adN[hp:PI Q](hd:HL D w)(f:Nat)(is:List (Nat×Nat×Value))(hr:cR Df n (lk l j) a)(k:∀a,cR Df n (lk (Uk is l) j) a->eK P .any ops Q (HL D) E f (Uj is aQ) a w)
 (hN:f+is.length=N:=by rfl) (hB:okE ops E n is aQ=true:=by kernel_rfl) (hrun:∀w,Lu P ops is l j w=E5 is w:=by intro w;kernel_rfl):eK P .any ops Q (HL D) E N aQ a w:=by
 subst hN;exact evl hd f is hr k hB hrun
theorem elx[hp:PI Q](hd:HL D w)(q f i:Nat){b off:Nat}{x:Operand}(hr:cR Df n (lk l j) a)(hw:vM o ops a)(hi:ops[i]? = some o)(hq:D[q]? = some (b,off,[v]))
 (k:∀a,cR Df n (lk ((d,v)::l) j) a->eK P .any ops Q (HL D) E f (aQ.setIfInBounds i true) a w) (hB:(okB ops E aQ i&&D5 .any ops E aQ i)=true:=by kernel_rfl)
 (ho:o.op= .load T x:=by rfl) (hx:eO (lk l j) x= .pointer (some ⟨b,off,none⟩):=by kernel_rfl) (hu:yD (P.underlying T)=true:=by kernel_rfl) (h1:o.dst=some d:=by rfl) (hn:Nat.blt d n=true:=by rfl) :
 eK P .any ops Q (HL D) E (f+1) aQ a w:=
 el E (b:=b) (off:=off) (cs:=[v]) (λ_ hk=>⟨hk,λw h=>IJ hq h⟩) f i hi hB hw hr v (IJ hq hd) (λw hc=>rl ho hx hu hc.1) k h1 hn
theorem elm[hp:PI Q](hd:HL D w)(q f i:Nat){b off:Nat}{cs:List Value}{x:Operand}(hr:cR Df n (lk l j) a)(hw:vM o ops a)(hi:ops[i]? = some o)(hq:D[q]? = some (b,off,cs))
 (k:∀a,cR Df n (lk ((d,.agg cs.toArray)::l) j) a->eK P .any ops Q (HL D) E f (aQ.setIfInBounds i true) a w) (hB:(okB ops E aQ i&&D5 .any ops E aQ i)=true:=by kernel_rfl)
 (ho:o.op= .load T x:=by rfl) (hx:eO (lk l j) x= .pointer (some ⟨b,off,none⟩):=by kernel_rfl) (hu:vo (P.underlying T)=true:=by kernel_rfl) (hs:(P.info? T).map (·.size)=some cs.length:=by kernel_rfl) (h1:o.dst=some d:=by rfl) (hn:Nat.blt d n=true:=by rfl) :
 eK P .any ops Q (HL D) E (f+1) aQ a w:=
 el E (b:=b) (off:=off) (cs:=cs) (λ_ hk=>⟨hk,λw h=>IJ hq h⟩) f i hi hB hw hr _ (IJ hq hd) (λw hc=>rlm ho hx hu hs hc) k h1 hn
theorem eE{p X aga:Prop}(hd:aga)(k:aga->X):(p->aga)/\X:=⟨λ_=>hd,k hd⟩
theorem xE{i:Nat}{X aga:Prop}(k:X)(hB:¬i∈E:=by decide):(i∈E->aga)/\X:=⟨λh=>absurd h hB,k⟩
theorem lj(i:Nat){D:World->Prop}{fuel:Nat}(hi:ops[i]? = some o)(k:wpList P ops (Exit.then (λa w=>(i∈E->D w)/\eK P .any ops Q D E fuel (aQ.setIfInBounds i true) a w) Q) [o] a w)
 (hrd:Region.ready .any ops aQ=[i]:=by kernel_rfl):eK P .any ops Q D E (fuel+1) aQ a w:=abL hrd hi k
theorem zN{D:World->Prop}{fuel:Nat}(k:Q .normal a w)(hrd:Region.ready .any ops aQ=[]:=by kernel_rfl):eK P .any ops Q D E fuel aQ a w:=abM hrd k
section
variable {β:Type}{p:Prop}[Decidable p]{X aga r:Option β}{c:Operand}{x y:Code}
theorem cD(hr:cR Df n e a)(H:(if p then X else aga)=r)(k1:p->X=r->x.wp P Q a w)(k2:¬p->aga=r->y.wp P Q a w)(hc:eO e c= .bool (decide p):=by kernel_rfl):(Code.cond c x y).wp P Q a w:=by
 by_cases h:p
 ·rw[bg h]at H;exact Iv hr hc (uT h) (k1 h H)
 ·rw[cQ h]at H;exact Iw hr hc (Il h) (k2 h H)
theorem cN(hr:cR Df n e a)(H:(if p then X else aga)=r)(k1:p->X=r->y.wp P Q a w)(k2:¬p->aga=r->x.wp P Q a w)(hc:eO e c= .bool (!decide p):=by kernel_rfl):(Code.cond c x y).wp P Q a w:=by
 by_cases h:p
 ·rw[bg h]at H;exact Iw hr hc (by simp[h]) (k1 h H)
 ·rw[cQ h]at H;exact Iv hr hc (by simp[h]) (k2 h H)
theorem cV{b:Bool}(hr:cR Df n e a)(H:(if b=true then X else aga)=r)(k1:b=true->X=r->x.wp P Q a w)(k2:¬b=true->aga=r->y.wp P Q a w)(hc:eO e c= .bool b:=by kernel_rfl):(Code.cond c x y).wp P Q a w:=by
 by_cases h:b=true
 ·rw[bg h]at H;exact Iv hr hc h (k1 h H)
 ·rw[cQ h]at H;exact Iw hr hc (by simpa using h) (k2 h H)
theorem cM{b:Bool}(hr:cR Df n e a)(H:(if b=true then X else aga)=r)(k1:b=true->X=r->y.wp P Q a w)(k2:¬b=true->aga=r->x.wp P Q a w)(hc:eO e c= .bool (!b):=by kernel_rfl):(Code.cond c x y).wp P Q a w:=by
 by_cases h:b=true
 ·rw[bg h]at H;exact Iw hr hc (by simp[h]) (k1 h H)
 ·rw[cQ h]at H;exact Iv hr hc (by simpa using h) (k2 h H)
end
def Ul(P:Program)(ops:Array Oper)(n:Nat):List Oper->List Value->List (Nat×Value)->(Nat->Value)->World->List (Option Nat×Option (Bool×Option (Bool×Value))×Result Next)
 | o::os,v::vs,l,j,w=>(o.dst,o.guard.map (λg=>(g.2,((ops[g.1]?).bind (·.dst)).map λt=>(Nat.blt t n,lk l j t))),(execOp (eO (lk l j)) o).run P w)::Ul P ops n os vs ((o.dst.getD 0,v)::l) j w
 | _,_,_,_,_=>[]
def Nm(x c:Bool):List Nat->List Value->World->List (Option Nat×Option (Bool×Option (Bool×Value))×Result Next)
 | d::ds,v::vs,w=>(some d,some (c,some (true,.bool x)),.ok (.value v) w)::Nm x c ds vs w
 | _,_,_=>[]
theorem wgx{i:Nat}{b x c:Bool}(hr:cR Df n e a)(pf:x=c)(h:o.guard.map (λg=>(g.2,((ops[g.1]?).bind (·.dst)).map λt=>(Nat.blt t n,e t)))=some (b,some (true,.bool x))):Region.wanted o (yielded ops a.tmps)=(c==b):=by
 subst pf;cases hg:o.guard with
 | none=>rw[hg]at h;cases h
 | some g =>
  obtain⟨i,b'⟩:=g;simp only[hg,wA,Option.some.injEq,Prod.mk.injEq]at h;obtain⟨rfl,h⟩:=h;cases ht:(ops[i]?).bind (·.dst)with
  | none=>rw[ht]at h;cases h
  | some t =>
   simp only[ht,wA,Option.some.injEq,Prod.mk.injEq]at h;exact wg hr hg ht h.1 h.2
theorem onl{x c:Bool}(pf:x=c):∀(ds:List Nat) (vs:List Value) {os:List Oper} {a:Act} {l:List (Nat×Value)} (hr:cR Df n (lk l j) a) (k:∀a,cR Df n (lk (Ue ds vs l) j) a->wpList P ops Q (os.drop ds.length) a w)
 (hl:ds.length=vs.length/\ds.all (λd=>Nat.blt d n)=true:=by exact⟨rfl,rfl⟩) (hrun:Ul P ops n (os.take ds.length) vs l j w=Nm x c ds vs w:=by kernel_rfl),wpList P ops Q os a w
 | [],[],os,a,l,hr,k,_,_=>k a hr
 | [],v::vs,os,a,l,hr,k,hl,_=>by simp at hl
 | d::ds,[],os,a,l,hr,k,hl,_=>by simp at hl
 | d::ds,v::vs,[],a,l,hr,k,hl,hrun=>by simp[Ul,Nm]at hrun
 | d::ds,v::vs,o::os,a,l,hr,k,hl,hrun=>by
  simp only[Bm,qy,Ul,Nm,List.cons.injEq,Prod.mk.injEq]at hrun;obtain⟨⟨h1,h2,h3⟩,h4⟩:=hrun;obtain⟨GS,FQ⟩:=hl;simp only[List.all_cons,mI]at FQ;refine Bp (by unfold vM;rw[wgx (i:=0) hr pf h2];simp) h1 FQ.1 hr h3 λa hr => ?_;rw[h1]at h4;exact onl pf ds vs hr k ⟨by simpa using GS,FQ.2⟩ h4
def Lv(ops:Array Oper)(n:Nat):List Oper->List (Nat×Value)->(Nat->Value)->List (Option Nat×Option (Bool×Option (Bool×Value)))
 | o::os,l,j=>(o.dst,o.guard.map (λg=>(g.2,((ops[g.1]?).bind (·.dst)).map λt=>(Nat.blt t n,lk l j t))))::Lv ops n os ((o.dst.getD 0,undef)::l) j
 | _,_,_=>[]
def E6(b:Bool)(gv:Value):List Nat->List (Option Nat×Option (Bool×Option (Bool×Value)))
 | d::ds=>(some d,some (b,some (true,gv)))::E6 b gv ds
 | _=>[]
def Um:List Nat->List (Nat×Value)->List (Nat×Value)
 | d::ds,l=>Um ds ((d,undef)::l)
 | _,l=>l
theorem abQ{x c:Bool}(pf:x=c):∀(ds:List Nat) {os:List Oper} {a:Act} {l:List (Nat×Value)} (hr:cR Df n (lk l j) a) (k:∀a,cR Df n (lk (Um ds l) j) a->wpList P ops Q (os.drop ds.length) a w)
 (hl:ds.all (λd=>Nat.blt d n)=true:=by rfl) (hrun:Lv ops n (os.take ds.length) l j=E6 (!c) (.bool x) ds:=by kernel_rfl),wpList P ops Q os a w
 | [],os,a,l,hr,k,_,_=>k a hr
 | d::ds,[],a,l,hr,k,hl,hrun=>by simp[Lv,E6]at hrun
 | d::ds,o::os,a,l,hr,k,hl,hrun=>by
  simp only[Bm,qy,Lv,E6,List.cons.injEq,Prod.mk.injEq]at hrun;obtain⟨⟨h1,h2⟩,h4⟩:=hrun;simp only[List.all_cons,mI]at hl;refine OY (by rw[wgx (i:=0) hr pf h2];cases c<;>rfl) h1 hl.1 hr λa hr => ?_;rw[h1]at h4;exact abQ pf ds hr k hl.2 h4
theorem wux{b:Bool}(hr:cR Df n e a)(h:o.guard.map (λg=>(g.2,((ops[g.1]?).bind (·.dst)).map λt=>(Nat.blt t n,e t)))=some (b,some (true,undef))):Region.wanted o (yielded ops a.tmps)=false:=by
 cases hg:o.guard with
 | none=>rw[hg]at h;cases h
 | some g =>
  obtain⟨i,b'⟩:=g;simp only[hg,wA,Option.some.injEq,Prod.mk.injEq]at h;obtain⟨rfl,h⟩:=h;cases ht:(ops[i]?).bind (·.dst)with
  | none=>rw[ht]at h;cases h
  | some t =>
   simp only[ht,wA,Option.some.injEq,Prod.mk.injEq]at h;exact Ua hr hg ht h.1 h.2
theorem abR(b:Bool):∀(ds:List Nat) {os:List Oper} {a:Act} {l:List (Nat×Value)} (hr:cR Df n (lk l j) a) (k:∀a,cR Df n (lk (Um ds l) j) a->wpList P ops Q (os.drop ds.length) a w)
 (hl:ds.all (λd=>Nat.blt d n)=true:=by rfl) (hrun:Lv ops n (os.take ds.length) l j=E6 b undef ds:=by kernel_rfl),wpList P ops Q os a w
 | [],os,a,l,hr,k,_,_=>k a hr
 | d::ds,[],a,l,hr,k,hl,hrun=>by simp[Lv,E6]at hrun
 | d::ds,o::os,a,l,hr,k,hl,hrun=>by
  simp only[Bm,qy,Lv,E6,List.cons.injEq,Prod.mk.injEq]at hrun;obtain⟨⟨h1,h2⟩,h4⟩:=hrun;simp only[List.all_cons,mI]at hl;refine OY (wux hr h2) h1 hl.1 hr λa hr => ?_;rw[h1]at h4;exact abR b ds hr k hl.2 h4
theorem st1{x y:Operand}{b:Nat}{cs:Array Value}{T':TypeId}(hw:vM o ops a)(hr:cR Df n (lk l j) a)(hF:Fit w0 (aD (pts b (.cells cs T')::L)) w)(i:Nat)(v:Value)(A:bl)
 (k:∀w1,Fit w0 (aD (A::L)) w1->wpList P ops Q rest a w1) (hd:o.dst=none:=by rfl) (ho:o.op= .store T x y:=by rfl) (hx:eO (lk l j) x= .pointer (some ⟨b,i,none⟩):=by kernel_rfl) (hy:eO (lk l j) y=v:=by kernel_rfl)
 (hv:v.cells=#[v]:=by rfl) (h1:v.oneCell'=true:=by rfl) (hs:(P.info? T).map (·.size)=some 1:=by kernel_rfl) (hc:(cs[i]?).isSome=true:=by kernel_rfl) (hA:pts b (.cells (cs.setIfInBounds i v) T')=A:=by kernel_rfl):wpList P ops Q (o::rest) a w:=by
 subst hA;cases hu:cs[i]? with
 | none=>rw[hu]at hc;cases hc
 | some u=>exact M8 hw hd hr ho hx hy hv h1 hs hF hu k
theorem Xo{x y:Operand}{b:Nat}{cs:Array Value}{T':TypeId}(hw:vM o ops a)(hr:cR Df n (lk l j) a)(hF:Fit w0 (aD (pts b (.cells cs T')::L)) w)(i:Nat)(vs:List Value)(A:bl)
 (k:∀w1,Fit w0 (aD (A::L)) w1->wpList P ops Q rest a w1) (hd:o.dst=none:=by rfl) (ho:o.op= .store T x y:=by rfl) (hx:eO (lk l j) x= .pointer (some ⟨b,i,none⟩):=by kernel_rfl) (hy:eO (lk l j) y= .agg vs.toArray:=by kernel_rfl)
 (h1:vs.all (·.oneCell')=true:=by rfl) (hfit:Nat.ble (i+vs.length) cs.size=true:=by rfl) (hs:(P.info? T).map (·.size)=some vs.length:=by kernel_rfl) (hA:pts b (.cells (cs.toList.take i++vs++cs.toList.drop (i+vs.length)).toArray T')=A:=by kernel_rfl):wpList P ops Q (o::rest) a w:=by
 subst hA;exact KM hw hd hr ho hx hy h1 hfit hs hF rfl k
end
end GX
end
section
namespace GX
open Go Go.RowKit SL
section
variable {P:Program}{w w0 w1 z:World}{ops:Array Oper}{a:Act}{rest:List Oper}{e:Nat->Value}{o:Oper}{t E:TypeId}{n d cc sz tU:Nat}{α β:Type}{l:List (Nat×Value)}{j:Nat->Value}{Df:List Deferred}{L:List bl}
def yf(L:List bl)(sz tU:Nat)(enc:fB->Nat->α->List Value)(jz:β->List Value)(wm:α->List β)(va:fB)(hs:Nat->Option Addr×Nat)(l:List α):Prop:=
 ∀i x,l[i]? = some x->va=some ⟨dJ va,jf va,none⟩/\(∀f u,(enc (hs i).1 (hs i).2 x)[f]? = some u->∀z w,Fit z (aD L) w->w.cell? ⟨dJ va,jf va+i*sz+f,none⟩=some u)/\bI L tU jz (hs i).1 (wm x)
section
variable {enc:fB->Nat->α->List Value}{jz:β->List Value}{wm:α->List β}{va:fB}{hs:Nat->Option Addr×Nat}{l:List α}
theorem yf.nil{L:List bl}:yf L sz tU enc jz wm va hs ([]:List α):=λi x h=>by simp at h
theorem yf.up(k:Nat){L':List bl}(h:yf (L'.drop k) sz tU enc jz wm va hs l):yf L' sz tU enc jz wm va hs l:=
 λi x hx=>⟨(h i x hx).1,λf u hu z w hw=>(h i x hx).2.1 f u hu z w (hw.dn k),(h i x hx).2.2.up k⟩
theorem yf.take{L:List bl}(h:yf L sz tU enc jz wm va hs l)(k:Nat):yf L sz tU enc jz wm va hs (l.take k):=by
 intro i x hx;refine h i x ?_;rw[List.getElem?_take]at hx;split at hx
 ·exact hx
 ·cases hx
theorem yf.cell{z:World}{L:List bl}[Inhabited α]{i:Int}(hF:yf L sz tU enc jz wm va hs l)(hi:bJ i l.length)(h:Fit z (aD L) w)(f:Nat){u:Value}(hu:(enc (hs i.toNat).1 (hs i.toNat).2 (J l i.toNat))[f]? = some u):w.cell? ⟨dJ va,jf va+i.toNat*sz+f,none⟩=some u:=
 (hF _ _ (bj hi)).2.1 f u hu z w h
theorem yf.vT{L:List bl}[Inhabited α]{i:Int}(hF:yf L sz tU enc jz wm va hs l)(hi:bJ i l.length):bI L tU jz (hs i.toNat).1 (wm (J l i.toNat)):=(hF _ _ (bj hi)).2.2
theorem yf.cast{L:List bl}{l2:List α}(h:yf L sz tU enc jz wm va hs l)(e:l=l2):yf L sz tU enc jz wm va hs l2:=e▸ h
theorem yf.ne{L:List bl}(hF:yf L sz tU enc jz wm va hs l)(h:0<l.length):va=some ⟨dJ va,jf va,none⟩:=(hF 0 _ (List.getElem?_eq_getElem h)).1
end
theorem bI.ne{L:List bl}{enc:α->List Value}{va:fB}{l:List α}(hF:bI L sz enc va l)(h:0<l.length):va=some ⟨dJ va,jf va,none⟩:=(hF 0 _ (List.getElem?_eq_getElem h)).1
theorem bI.IK{z:World}{L:List bl}{enc:α->List Value}{b:Nat}[Inhabited α]{l:List α}{i:Int}(hF:bI L sz enc (some ⟨b,0,none⟩) l)(hi:bJ i l.length)(h:Fit z (aD L) w)(f:Nat){u:Value}(hu:(enc (J l i.toNat))[f]? = some u):w.cell? ⟨dJ (some ⟨b,0,none⟩),i.toNat*sz+f,none⟩=some u:=by
 have e:=(hF _ _ (bj hi)).2 f u hu z w h;have o:jf (some ⟨b,0,none⟩:fB)=0:=rfl;rw[o,Bn]at e;exact e
theorem abS{x y:Operand}{k:IntKind}{i:Int}{n0:Nat}{L:List bl}{enc:fB->Nat->α->List Value}{jz:β->List Value}{wm:α->List β}{va:fB}{hs:Nat->Option Addr×Nat}[Inhabited α]{l:List α}(ho:o.op= .indexAddr t x y)(hx:eO e x= .slice va n0 cc)(hy:eO e y= .int k i)(EZ:n0=l.length)
 (ht:P.underlying t=some (.slice E)) (hs':(P.info? E).map (·.size)=some sz) (hF:yf L sz tU enc jz wm va hs l) (hi:bJ i l.length):(execOp (eO e) o).run P w= .ok (.value (.pointer (some ⟨dJ va,jf va+i.toNat*sz,none⟩))) w:=by
 have h0:=hi.1;have h1:=hi.2;exact rie (hF _ _ (bj hi)).1 ho hx hy ht hs' h0 I
theorem KR(d:Nat){T:TypeId}(b:Addr)(m c n' c':Nat)(h:P.underlying T=some (.slice E)):(Op.equalIn (d+1) T (.slice (some b) m c) (.slice none n' c')).run P w= .ok false w:=by
 simp[Op.equalIn,run_underlying h]
theorem Xp{x y:Operand}{T T':TypeId}{n0:Nat}{va:fB}(ho:o.op= .binOp .eql T x y T')(hx:eO e x= .slice va n0 cc)(hy:eO e y= .slice none 0 0)(ht:P.underlying T=some (.slice E))(hv:va=some ⟨dJ va,jf va,none⟩):(execOp (eO e) o).run P w= .ok (.value (.bool false)) w:=by
 rw[hv]at hx;have h:=KR (P:=P) (w:=w) 9999 ⟨dJ va,jf va,none⟩ n0 cc 0 0 ht;unfold execOp;simp only[ho,hx,hy,eqGuard,binOp,Op.equal,Op.maxDepth];simp[h]
theorem Un{x y:Operand}{T T':TypeId}{n0:Nat}{va:fB}(ho:o.op= .binOp .neq T x y T')(hx:eO e x= .slice va n0 cc)(hy:eO e y= .slice none 0 0)(ht:P.underlying T=some (.slice E))(hv:va=some ⟨dJ va,jf va,none⟩):(execOp (eO e) o).run P w= .ok (.value (.bool true)) w:=by
 rw[hv]at hx;have h:=KR (P:=P) (w:=w) 9999 ⟨dJ va,jf va,none⟩ n0 cc 0 0 ht;unfold execOp;simp only[ho,hx,hy,eqGuard,binOp,Op.equal,Op.maxDepth];simp[h]
def iu(x y:Int):Int:=IntKind.i64.wrap ((BitVec.ofInt 64 x &&& BitVec.ofInt 64 y).toNat)
def O2(x y:Int):Int:=IntKind.i64.wrap ((BitVec.ofInt 64 x ||| BitVec.ofInt 64 y).toNat)
theorem rand{x y:Operand}{p q:Int}{T T':TypeId}(ho:o.op= .binOp .and T x y T')(hx:eO e x= .int .i64 p)(hy:eO e y= .int .i64 q):(execOp (eO e) o).run P w= .ok (.value (.int .i64 (iu p q))) w:=by
 unfold execOp;simp[ho,hx,hy,eqGuard,binOp,Op.intBits];rfl
theorem ror{x y:Operand}{p q:Int}{T T':TypeId}(ho:o.op= .binOp .or T x y T')(hx:eO e x= .int .i64 p)(hy:eO e y= .int .i64 q):(execOp (eO e) o).run P w= .ok (.value (.int .i64 (O2 p q))) w:=by
 unfold execOp;simp[ho,hx,hy,eqGuard,binOp,Op.intBits];rfl
theorem Fit.Zg{Q:bl}(hz:∀{z w:World} {L:List bl},Fit z (aD L) w->Fit z (aD (Q::L)) w){L:List bl}(h:Fit w0 (aD L) w):∀n,Fit w0 (aD (List.replicate n Q++L)) w
 | 0=>h
 | n+1=>by rw[List.replicate_succ];exact hz (Fit.Zg hz h n)
theorem _root_.Go.Proofs.YtaiffafelihaaaaGreatDoor.SL.Fit.Sa{own:α->List Value->bl}{v:Value}{z0:α}{c:nG sz}{L:List bl}(hz:∀{z w:World} {L:List bl},Fit z (aD L) w->Fit z (aD (own z0 c.cs::L)) w)(n:Nat)(h:Fit w0 (aD (rowOf E sz nG.cs v (List.replicate n c)::L)) w):Fit w0 (aD (uk E sz own v (List.replicate n z0)::L)) w:=by
 refine Fit.Dk (css:=List.replicate n c) (by simp) ?_;have e:List.zipWith (λx c=>own x c.cs) (List.replicate n z0) (List.replicate n c)=List.replicate n (own z0 c.cs):=by simp[List.zipWith_replicate']
 rw[e];exact(Fit.Zg hz h n).perm yA
variable {Q:Exit->Act->World->Prop}
theorem E7{x y:Operand}{i:Int}{bytes:Nat}{zc:Array Value}{own:α->List Value->bl}(z0:α)(hw:vM o ops a)(hd:o.dst=some d)(hn:Nat.blt d n=true)(hr:cR Df n (lk l j) a)
 (ho:o.op= .makeSlice t x y) (hx:eO (lk l j) x= .int .i64 i) (hy:eO (lk l j) y= .int .i64 i) (hi:0<=i/\i*bytes<=140737488355328) (hlen:zc.toList.length=sz) (hone:∀u∈zc.toList,u.oneCell'=true) (hsz:0<sz) (hty:P.underlying t=some (.slice E))
 (sO:(P.info? E).map (λi=>(i.size,i.bytes,i.zero.map (·.cells)))=some (sz,bytes,some zc)) (OO:Nat.blt 0 bytes=true) (hz:∀{z w:World} {L:List bl},Fit z (aD L) w->Fit z (aD (own z0 zc.toList::L)) w) (hF:Fit w0 (aD L) w)
 (k:∀ca w1 a,Fit w0 (aD (uk E sz own (.slice ca (List.replicate i.toNat z0).length i.toNat) (List.replicate i.toNat z0)::L)) w1->cR Df n (lk ((d,.slice ca (List.replicate i.toNat z0).length i.toNat)::l) j) a->wpList P ops Q rest a w1):wpList P ops Q (o::rest) a w:=
 tX (⟨zc.toList,hlen,hone⟩:nG sz) hw hd hn hr ho hx hy hi (HP hsz) hty sO rfl OO hF λca w1 a h G7=>by
  have e:(List.replicate i.toNat (⟨zc.toList,hlen,hone⟩:nG sz)).length=(List.replicate i.toNat z0).length:=by simp
  rw[e]at h G7;exact k ca w1 a (h.Sa hz) G7
theorem Em{β:Type}(F vs:List β)(a s f:Nat)(hf:f+vs.length<=s)(hs:a+s<=F.length) :
 F.take a++(((F.drop a).take s).take f++vs++((F.drop a).take s).drop (f+vs.length))++F.drop (a+s)=F.take (a+f)++vs++F.drop (a+f+vs.length):=by
 have e1:F.take a++((F.drop a).take s).take f=F.take (a+f):=by
  rw[List.take_take,zo I,List.take_add]
 have e2:((F.drop a).take s).drop (f+vs.length)++F.drop (a+s)=F.drop (a+f+vs.length):=by
  have h:=Im s (F.drop a);rw[List.drop_drop]at h;have h2:=nR (List.drop (f+vs.length)) h;rw[KE (by rw[vO,Cx];omega),List.drop_drop]at h2;rw[h2];congr 1;omega
 rw[<-e1,<-e2];simp only[rK]
theorem gN{x y:Operand}{vs:List Value}{f:Nat}{α:Type}{sz n0 cc:Nat}{enc:α->List Value}{xs:List α}{ca:fB}(hw:vM o ops a)(hd:o.dst=none)(hr:cR Df n (lk l j) a)(ho:o.op= .store t x y)
 {i:Nat} (hx:eO (lk l j) x= .pointer (some ⟨dJ ca,i*sz+f,none⟩)) (hy:eO (lk l j) y= .agg vs.toArray) (h1:vs.all (·.oneCell')=true) (hs:(P.info? t).map (·.size)=some vs.length)
 (he:uD enc sz) (hF:Fit w0 (aD (rowOf E sz enc (.slice ca n0 cc) xs::L)) w) {p q:α} (hp:xs[i]? = some p) (hfit:f+vs.length<=sz) (hq:enc q=(enc p).take f++vs++(enc p).drop (f+vs.length))
 (k:∀w1,Fit w0 (aD (rowOf E sz enc (.slice ca n0 cc) (xs.set i q)::L)) w1->wpList P ops Q rest a w1):wpList P ops Q (o::rest) a w:=by
 have hi:i<xs.length:=(List.getElem?_eq_some_iff.1 hp).1;have hn:=hF.rS;obtain⟨hca,D2⟩:=hF.tW I;obtain⟨GS,FQ⟩:=D2.zq;obtain⟨cur,Xh,M9,hP⟩:=D2.qK;have hle:i*sz+sz<=xs.length*sz:=by
  have:(i+1)*sz<=xs.length*sz:=s9 _ hi;rw[vn]at this;omega
 have aah:xs.length*sz<=cc*sz:=s9 _ GS;have hst:=run_storeCells_at P (dJ ca) (i*sz+f) E vs 0 cur w hP.block I (by simpa using h1);simp only[w6]at hst;refine EX (w1:=w.setRow (dJ ca) (cur.toList.take (i*sz+f)++vs++cur.toList.drop (i*sz+f+vs.length)).toArray) hw hd hr ?_ (k _ (Fit.Ay ?_ hca (by rw[gU];exact hn)))
 ·unfold execOp;cases yE:P.info? t with
  | none=>simp[yE]at hs
  | some q =>
   simp[yE]at hs;simp only[ho,hx,hy,Instr.storeAt,Instr.sureAddr,storeVar,n9,uR,oa,sizeOf,typeInfo,run_program,yE,Value.cells];simp[hs,hst]
 ·refine(hP.turn (w':=w.setRow (dJ ca) (cur.toList.take (i*sz+f)++vs++cur.toList.drop (i*sz+f+vs.length)).toArray) (setRow_heap w (dJ ca) cur _ E (0,0) hP.block) (λk hk _=>setRow_other w (dJ ca) k _ hk) rfl rfl rfl (by simp)).head λz hz=>⟨by simpa using GS,FQ,_,?_,?_,hz⟩
  ·simp only[DY,jM,vO,Cx,vP];omega
  ·have Zh:((xs.flatMap enc).drop (i*sz)).take sz=enc p:=by
    apply Ap
    intro k;rw[List.getElem?_take];by_cases hk:k<sz
    ·rw[bg hk,List.getElem?_drop];exact he.get xs i k p hp hk
    ·rw[cQ hk,List.getElem?_eq_none (by rw[he.len];omega)]
   rw[gU,he.set xs i q hi,hq,<-Zh,Em _ _ _ _ _ hfit (by rw[he.flat];exact hle),<-M9];have hA:(cur.toList.take (i*sz+f)).length=i*sz+f:=by rw[vO,vP];omega
   have e1:(cur.toList.take (i*sz+f)++vs++cur.toList.drop (i*sz+f+vs.length)).take (xs.length*sz)=cur.toList.take (i*sz+f)++vs++(cur.toList.drop (i*sz+f+vs.length)).take (xs.length*sz-(i*sz+f+vs.length)):=by
    rw[KF,GK (by rw[jM,hA];omega),jM,hA]
   rw[KG,e1,List.take_take,zo I,KH]
structure AB(l:List Value)(n:Nat):Prop where
 len:l.length=n
 one:∀u∈l,u.oneCell'=true
theorem AB.lit{l:List Value}(n:Nat)(h:(Nat.beq l.length n&&l.all (·.oneCell'))=true):AB l n:=by
 simp only[mI,List.all_eq_true]at h;exact⟨Qj h.1,h.2⟩
theorem AB.app{a b:List Value}{m n:Nat}(h:AB a m)(k:AB b n):AB (a++b) (m+n):=
 ⟨by rw[jM,h.len,k.len],λu hu=>(List.mem_append.1 hu).elim (h.one u) (k.one u)⟩
theorem _root_.Go.Proofs.YtaiffafelihaaaaGreatDoor.SL.uD.p{enc:α->List Value}(he:uD enc sz)(x:α):AB (enc x) sz:=⟨he.len x,he.one x⟩
theorem AB.enc{enc:α->List Value}{N:Nat}(h:∀x,AB (enc x) N)(hp:0<N)(e:N=sz):uD enc sz:=by
 subst e;exact⟨λx=>(h x).len,λx=>(h x).one,hp⟩
def eA[Inhabited α](N:Nat)(enc:α->List Value)(l:List α):List Value:=(List.range N).flatMap (λi=>enc (J l i))
theorem HR[Inhabited α](N:Nat){enc:α->List Value}(he:uD enc sz)(l:List α):AB (eA N enc l) (N*sz):=by
 unfold eA;refine⟨?_,λu hu => ?_⟩
 ·have e:(List.range N).flatMap (λi=>enc (J l i))=((List.range N).map (λi=>J l i)).flatMap enc:=by rw[List.flatMap_map]
  rw[e,he.flat];simp
 ·obtain⟨i,_,hi⟩:=List.mem_flatMap.1 hu;exact he.one _ u hi
theorem IL{b:Nat}:∀(xs:List Value) (off:Nat),(∀k u,xs[k]? = some u->w.cell? ⟨b,off+k,none⟩=some u)->rT w b off xs
 | [],_,_=>trivial
 | x::xs,off,h=>⟨by simpa using h 0 x rfl,IL xs (off+1) λk u hu=>by have:=h (k+1) u (by simpa using hu);rw[show off+1+k=off+(k+1) by omega];exact this⟩
theorem _root_.Go.Proofs.YtaiffafelihaaaaGreatDoor.SL.Fit.IM{L:List bl}{enc:α->List Value}{ca:fB}{n i f:Nat}{l:List α}{x:α}{xs:List Value}(h:Fit w0 (aD (rowOf E sz enc (.slice ca n cc) l::L)) w)(he:uD enc sz)(hx:l[i]? = some x)(hxs:((enc x).drop f).take xs.length=xs):rT w (dJ ca) (i*sz+f) xs:=by
 refine IL xs _ λk u hu => ?_;rw[<-hxs,List.getElem?_take]at hu;split at hu
 ·rw[List.getElem?_drop]at hu;rw[show i*sz+f+k=i*sz+(f+k) by omega];exact h.cy he hx hu
 ·cases hu
def E8[Inhabited α](N:Nat)(ys l:List α):List α:=(List.range N).map (λi=>if i<ys.length then J ys i else J l i)
def mL[Inhabited α](N:Nat)(l:List α)(k:Nat)(y:α):List α:=(List.range N).map (λi=>if i=k then y else J l i)
theorem Uo[Inhabited α]{l:List α}{i:Nat}(h:i<l.length):J l i=l[i]:=by
 have:=get_at h;rw[List.getElem?_eq_getElem h]at this;exact(Option.some.inj this).symm
theorem Zi[Inhabited α]{N i:Nat}(f:Nat->α)(h:i<N):J ((List.range N).map f) i=f i:=by
 rw[Uo (by simpa using h)];simp
theorem Dp[Inhabited α](N:Nat)(enc:α->List Value)(l:List α):eA N enc l=((List.range N).map (λi=>J l i)).flatMap enc:=by unfold eA;rw[List.flatMap_map]
theorem Lw[Inhabited α]{N:Nat}{enc:α->List Value}(he:uD enc sz){ys l:List α}(h:ys.length<=N):eA N enc (E8 N ys l)=ys.flatMap enc++(eA N enc l).drop (ys.length*sz):=by
 have e1:(List.range N).map (λi=>J (E8 N ys l) i)=ys++((List.range N).map (λi=>J l i)).drop ys.length:=by
  apply List.ext_getElem
  ·simp;omega
  ·intro i h1 h2;have hi:i<N:=by simpa using h1
   simp only[List.getElem_map,List.getElem_range];unfold E8;rw[Zi _ hi,List.getElem_append];by_cases c:i<ys.length
   ·rw[bg c,dif_pos c,Uo c]
   ·rw[cQ c,dif_neg c];simp only[List.getElem_drop,List.getElem_map,List.getElem_range]
    congr 1;omega
 have e2:∀(m:List α) (k:Nat),(m.drop k).flatMap enc=(m.flatMap enc).drop (k*sz):=by
  intro m k;by_cases hk:k<=m.length
  ·have e:(m.take k).flatMap enc++(m.drop k).flatMap enc=m.flatMap enc:=by rw[<-EU,Im]
   have hl:((m.take k).flatMap enc).length=k*sz:=by rw[he.flat,vO,zo hk]
   rw[<-e,<-hl,List.drop_left]
  ·rw[Qk I,Qk (by rw[he.flat];exact s9 _ I)];rfl
 rw[Dp,e1,EU,e2,<-Dp]
theorem Up[Inhabited α]{N k:Nat}{enc:α->List Value}(he:uD enc sz){l:List α}{y:α}(h:k<N):eA N enc (mL N l k y)=(eA N enc l).take (k*sz)++enc y++(eA N enc l).drop (k*sz+sz):=by
 have e1:(List.range N).map (λi=>J (mL N l k y) i)=((List.range N).map (λi=>J l i)).set k y:=by
  apply List.ext_getElem
  ·simp
  ·intro i h1 h2;have hi:i<N:=by simpa using h1
   simp only[List.getElem_map,List.getElem_range];unfold mL;rw[Zi _ hi,List.getElem_set];by_cases c:i=k
   ·rw[bg c,bg c.symm]
   ·rw[cQ c,cQ (λe=>c e.symm)];simp
 rw[Dp,e1,he.set _ _ _ (by simpa using h),<-Dp]
theorem Uq{A E ys:List Value}{f k:Nat}(hA:A.length=f):A++(ys++E.drop k)=(A++E).take f++ys++(A++E).drop (f+k):=by
 subst hA;rw[GL,rK,List.drop_append];simp
theorem IP{s x:Operand}{α β:Type}{sz tU n0 cc i f N cv:Nat}{enc:α->List Value}{jz:β->List Value}{xs:List α}{ca va:fB}{ys:List β}{E agd:TypeId}{p q:α}(hw:vM o ops a)(hd:o.dst=some d)(hn:Nat.blt d n=true)(hr:cR Df n (lk l j) a)
 (ho:o.op= .call {callee:=.builtin .copy,args:=#[s,x],argTypes:=#[t,t]}) (hs:eO (lk l j) s= .slice (some ⟨dJ ca,i*sz+f,none⟩) N N) (hx:eO (lk l j) x= .slice va ys.length cv)
 (he:uD enc sz) (hi:uD jz tU) (hty:P.underlying t=some (.slice agd)) (hsz:(P.info? agd).map (·.size)=some tU) (hlen:ys.length<=N)
 (hF:Fit w0 (aD (rowOf E sz enc (.slice ca n0 cc) xs::L)) w) (hv:bI L tU jz va ys) (hp:xs[i]? = some p) (hfit:f+ys.length*tU<=sz) (hq:enc q=(enc p).take f++ys.flatMap jz++(enc p).drop (f+ys.length*tU))
 (k:∀w1 a,Fit w0 (aD (rowOf E sz enc (.slice ca n0 cc) (xs.set i q)::L)) w1->cR Df n (lk ((d,.int .i64 ((ys.length:Nat):Int))::l) j) a->wpList P ops Q rest a w1):wpList P ops Q (o::rest) a w:=by
 have G6:i<xs.length:=(List.getElem?_eq_some_iff.1 hp).1;have hn':=hF.rS;obtain⟨hca,D2⟩:=hF.tW I;obtain⟨GS,FQ⟩:=D2.zq;obtain⟨cur,Xh,M9,hP⟩:=D2.qK;have hle:i*sz+sz<=xs.length*sz:=by
  have:(i+1)*sz<=xs.length*sz:=s9 _ G6;rw[vn]at this;omega
 have aah:xs.length*sz<=cc*sz:=s9 _ GS;have hfl:(ys.flatMap jz).length=ys.length*tU:=hi.flat ys;have hmin:Nat.min ys.length N=ys.length:=zo hlen;have hcells:(Builtin.firstCells tU ys.length (.slice va ys.length cv)).run P w= .ok (ys.flatMap jz).toArray w:=by
  rcases Nat.eq_zero_or_pos ys.length with h0 | h0
  ·have e:ys=[]:=GM h0;subst e;cases va with
   | none=>exact run_firstCells_none (P:=P) w tU _ _ _
   | some ad=>exact run_firstCells_some (P:=P) w tU 0 _ _ _ [] (by simp) (by simp)
  ·have hva:=hv.ne h0;rw[hva];refine run_firstCells_some (P:=P) w tU ys.length _ _ _ (ys.flatMap jz) hfl ?_;intro jj u hu;have hj:jj<ys.length*tU:=by rw[<-hfl];exact(List.getElem?_eq_some_iff.1 hu).1
   have hpos:0<tU:=hi.pos;have h1:jj/tU<ys.length:=Nat.div_lt_of_lt_mul (by rw[Nat.mul_comm];exact hj);have h2:jj%tU<tU:=Nat.mod_lt _ hpos;have h3:jj/tU*tU+jj%tU=jj:=by rw[Nat.mul_comm];exact Ii jj tU
   have h4:=hi.get ys (jj/tU) (jj%tU) ys[jj/tU] (List.getElem?_eq_getElem h1) h2;rw[h3,hu]at h4;have h5:=(hv _ _ (List.getElem?_eq_getElem h1)).2 _ _ h4.symm _ _ hF.drop;rw[w4,show jf va+jj=jf va+jj/tU*tU+jj%tU by omega];exact h5
 have hst:=run_storeCells_at P (dJ ca) (i*sz+f) E (ys.flatMap jz) 0 cur w hP.block (by rw[hfl];omega) (hi.As ys);simp only[w6]at hst;refine sV (w1:=w.setRow (dJ ca) (cur.toList.take (i*sz+f)++ys.flatMap jz++cur.toList.drop (i*sz+f+(ys.flatMap jz).length)).toArray) (v:=.int .i64 ((ys.length:Nat):Int)) hw hd hn hr ?_ (λa hr=>k _ a (Fit.Ay ?_ hca (by rw[gU];exact hn')) hr)
 ·unfold execOp;cases yE:P.info? agd with
  | none=>simp[yE]at hsz
  | some q =>
   simp[yE]at hsz;simp only[ho,resolve,invoke,builtin,n9,uR,oa,GN,BX,Cy,hs,hx];simp[Builtin.copy_,run_underlying hty,Builtin.lenOf,sizeOf,typeInfo,yE,hsz,hmin,hcells,hst,goInt]
 ·refine(hP.turn (w':=w.setRow (dJ ca) (cur.toList.take (i*sz+f)++ys.flatMap jz++cur.toList.drop (i*sz+f+(ys.flatMap jz).length)).toArray) (setRow_heap w (dJ ca) cur _ E (0,0) hP.block) (λk hk _=>setRow_other w (dJ ca) k _ hk) rfl rfl rfl (by simp)).head λz hz=>⟨by simpa using GS,FQ,_,?_,?_,hz⟩
  ·simp only[DY,jM,vO,Cx,vP];omega
  ·have Zh:((xs.flatMap enc).drop (i*sz)).take sz=enc p:=by
    apply Ap
    intro k;rw[List.getElem?_take];by_cases hk:k<sz
    ·rw[bg hk,List.getElem?_drop];exact he.get xs i k p hp hk
    ·rw[cQ hk,List.getElem?_eq_none (by rw[he.len];omega)]
   rw[<-hfl]at hq hfit;generalize ys.flatMap jz=vs at hq hfit hst⊢;rw[gU,he.set xs i q G6,hq,<-Zh,Em _ _ _ _ _ hfit (by rw[he.flat];exact hle),<-M9];have hA:(cur.toList.take (i*sz+f)).length=i*sz+f:=by rw[vO,vP];omega
   have e1:(cur.toList.take (i*sz+f)++vs++cur.toList.drop (i*sz+f+vs.length)).take (xs.length*sz)=cur.toList.take (i*sz+f)++vs++(cur.toList.drop (i*sz+f+vs.length)).take (xs.length*sz-(i*sz+f+vs.length)):=by
    rw[KF,GK (by rw[jM,hA];omega),jM,hA]
   rw[KG,e1,List.take_take,zo I,KH]
def IQ(cn:fB->Nat->α->List Value)(agd:TypeId)(tU:Nat)(jz:β->List Value)(wm:α->List β)(p:α×(Option Addr×Nat))(cs:List Value):bl:=
 aD [RX (cs=cn p.2.1 p.2.2 p.1),rowOf agd tU jz (.slice p.2.1 (wm p.1).length p.2.2) (wm p.1)]
section
variable {cn:fB->Nat->α->List Value}{agd:TypeId}{jz:β->List Value}{wm:α->List β}{own:α->List Value->bl}{v:Value}
theorem HS{p:α×(Option Addr×Nat)}{cs:List Value}{L:List bl}(h:Fit z (aD (IQ cn agd tU jz wm p cs::L)) w):cs=cn p.2.1 p.2.2 p.1/\Fit z (aD (rowOf agd tU jz (.slice p.2.1 (wm p.1).length p.2.2) (wm p.1)::L)) w:=by
 have h:=h.vw;obtain⟨e,h⟩:=h.Aq;exact⟨e,h⟩
theorem Xq{p:α×(Option Addr×Nat)}{L:List bl}(h:Fit z (aD (rowOf agd tU jz (.slice p.2.1 (wm p.1).length p.2.2) (wm p.1)::L)) w):Fit z (aD (IQ cn agd tU jz wm p (cn p.2.1 p.2.2 p.1)::L)) w:=by
 refine Fit.uh (RX (cn p.2.1 p.2.2 p.1=cn p.2.1 p.2.2 p.1)::[rowOf agd tU jz (.slice p.2.1 (wm p.1).length p.2.2) (wm p.1)]) L ?_;exact h.yC rfl
theorem Qv(hown:∀{z w:World} {L:List bl} {x:α} {cs:List Value},Fit z (aD (own x cs::L)) w->∃(ca:fB) (cc:Nat),cs=cn ca cc x/\Fit z (aD (rowOf agd tU jz (.slice ca (wm x).length cc) (wm x)::L)) w) :
 ∀(l:List α) (css:List (nG sz)) (M:List bl),css.length=l.length->Fit z (aD (List.zipWith (λx c=>own x c.cs) l css++M)) w->∃l':List (α×(Option Addr×Nat)),l'.map Prod.fst=l/\l'.length=css.length/\Fit z (aD (List.zipWith (λx c=>IQ cn agd tU jz wm x c.cs) l' css++M)) w
 | [],css,M,hl,h=>⟨[],rfl,by simpa using hl.symm,by simpa using h⟩
 | x::l,[],M,hl,h=>by simp at hl
 | x::l,c::css,M,hl,h=>by
  obtain⟨ca,cc,e,h⟩:=hown h;have h:=Xq (cn:=cn) (p:=(x,(ca,cc))) h;rw[<-e]at h;have h2:=h.perm (yA (l₁:=List.zipWith (λx c=>own x c.cs) l css) (a:=IQ cn agd tU jz wm (x,(ca,cc)) c.cs) (l₂:=M)).symm;obtain⟨l',e1,e2,h3⟩:=Qv (λh=>hown h) l css _ (by simpa using hl) h2;exact⟨(x,(ca,cc))::l',by simp[e1],by simp[e2],h3.perm yA⟩
theorem KS(hsh:∀{z w:World} {L:List bl} {x:α} {ca:fB} {cc:Nat},Fit z (aD (rowOf agd tU jz (.slice ca (wm x).length cc) (wm x)::L)) w->Fit z (aD (own x (cn ca cc x)::L)) w) :
 ∀(l':List (α×(Option Addr×Nat))) (css:List (nG sz)) (M:List bl),css.length=l'.length->Fit z (aD (List.zipWith (λx c=>IQ cn agd tU jz wm x c.cs) l' css++M)) w->Fit z (aD (List.zipWith (λx c=>own x c.cs) (l'.map Prod.fst) css++M)) w
 | [],css,M,hl,h=>by simpa using h
 | p::l,[],M,hl,h=>by simp at hl
 | p::l,c::css,M,hl,h=>by
  obtain⟨e,h⟩:=HS h;have h:=hsh h;rw[<-e]at h;have h2:=h.perm (yA (l₁:=List.zipWith (λx c=>IQ cn agd tU jz wm x c.cs) l css) (a:=own p.1 c.cs) (l₂:=M)).symm;have h3:=KS (λh=>hsh h) l css _ (by simpa using hl) h2;exact h3.perm yA
theorem Ur(hown:∀{z w:World} {L:List bl} {x:α} {cs:List Value},Fit z (aD (own x cs::L)) w->∃(ca:fB) (cc:Nat),cs=cn ca cc x/\Fit z (aD (rowOf agd tU jz (.slice ca (wm x).length cc) (wm x)::L)) w){l:List α}{L:List bl}
 (h:Fit z (aD (uk E sz own v l::L)) w) :∃l':List (α×(Option Addr×Nat)),l'.map Prod.fst=l/\Fit z (aD (uk E sz (IQ cn agd tU jz wm) v l'::L)) w:=by
 obtain⟨css,hl,h⟩:=h.Dj;have h:=h.perm (yA (l₁:=List.zipWith (λx c=>own x c.cs) l css) (a:=rowOf E sz nG.cs v css) (l₂:=L)).symm;obtain⟨l',e1,e2,h⟩:=Qv (own:=own) (cn:=cn) (λh=>hown h) l css _ hl h;exact⟨l',e1,Fit.Dk (css:=css) e2.symm (h.perm yA)⟩
theorem O3(hsh:∀{z w:World} {L:List bl} {x:α} {ca:fB} {cc:Nat},Fit z (aD (rowOf agd tU jz (.slice ca (wm x).length cc) (wm x)::L)) w->Fit z (aD (own x (cn ca cc x)::L)) w){l':List (α×(Option Addr×Nat))}{L:List bl}
 (h:Fit z (aD (uk E sz (IQ cn agd tU jz wm) v l'::L)) w) {l:List α} (e:l'.map Prod.fst=l):Fit z (aD (uk E sz own v l::L)) w:=by
 subst e;obtain⟨css,hl,h⟩:=h.Dj;have h:=h.perm (yA (l₁:=List.zipWith (λx c=>IQ cn agd tU jz wm x c.cs) l' css) (a:=rowOf E sz nG.cs v css) (l₂:=L)).symm;have h:=KS (own:=own) (λh=>hsh h) l' css _ hl h;exact Fit.Dk (css:=css) (by simpa using hl) (h.perm yA)
theorem yf.Xr[Inhabited α]{l':List (α×(Option Addr×Nat))}{L' L'' L3:List bl}{ca:fB}{n cc:Nat}(heI:uD jz tU)(hsz:0<sz)(h0:Fit z (aD (uk E sz (IQ cn agd tU jz wm) (.slice ca n cc) l'::L'')) w)
 (f:∀{z w:World},Fit z (aD L') w->Fit z (aD (uk E sz (IQ cn agd tU jz wm) (.slice ca n cc) l'::L3)) w):yf L' sz tU cn jz wm ca (λi=>(J l' i).2) (l'.map Prod.fst):=by
 intro i x hx;rw[List.getElem?_map]at hx;cases hp:l'[i]? with
 | none=>simp[hp]at hx
 | some p =>
  simp[hp]at hx;subst hx;have G6:i<l'.length:=(List.getElem?_eq_some_iff.1 hp).1;have hat:J l' i=p:=by
   have:=get_at G6;rw[hp]at this;exact(Option.some.inj this).symm
  have hca:=h0.KP I;have ho:jf ca=0:=by rw[hca];rfl
  simp only[hat];refine⟨by rw[ho];exact hca,λg u hu z w hw => ?_,?_⟩
  ·rw[ho,Bn];obtain⟨cs,h⟩:=(f hw).ng hp;obtain⟨e,_⟩:=HS (h.pick 1);subst e;exact h.qP hsz hu
  ·intro k y hy;have main:∀{z w:World},Fit z (aD L') w->∃M,Fit z (aD (rowOf agd tU jz (.slice p.2.1 (wm p.1).length p.2.2) (wm p.1)::M)) w:=λhw=>by
    obtain⟨cs,h⟩:=(f hw).ng hp;obtain⟨_,h⟩:=HS (h.pick 1);exact⟨_,h⟩
   have hkl:k<(wm p.1).length:=(List.getElem?_eq_some_iff.1 hy).1;have h1 :∃M,Fit z (aD (rowOf agd tU jz (.slice p.2.1 (wm p.1).length p.2.2) (wm p.1)::M)) w:=by
    obtain⟨cs,h⟩:=h0.ng hp;obtain⟨_,h⟩:=HS (h.pick 1);exact⟨_,h⟩
   obtain⟨M,h1⟩:=h1;have hc:=(h1.tW I).1;have ho2:jf p.2.1=0:=by rw[hc];rfl
   refine⟨by rw[ho2];exact hc,λg u hu z w hw => ?_⟩;obtain⟨M,h2⟩:=main hw;rw[ho2,Bn];exact h2.cy heI hy hu
end
end
end GX
end
section
namespace RK
open Go Go.RowKit Go.ChangeShapes Go.WideShapes Go.Deep SL GX
section
variable {H:Type}{FX:TypeId×Value->H}{P:Program}{agb:World}{base:Nat}{spare:Nat->Bool}{held:Bool}{t e:TypeId}{n:Nat}{cs:List Value}{y:DataW H×List MemPlace}
theorem Qw{l:List (DataW H)}{d:DataW H}(h:d∈l):Rows.uptoBulk d<=Rows.uptoBulkAll l:=KQ h
theorem rU{fs:Array Field}(hs:P.underlying t=some (.struct fs))(h:DataW.trod FX P agb base spare held n t cs=some y)(i:Nat){f:Field}(hf:fs[i]? = some f) :
 ∃m z,DataW.trod FX P agb base spare held m f.type ((cs.drop f.offset).take (P.cellsOf f.type))=some z/\Rows.uptoBulk z.1<=Rows.uptoBulk y.1:=by
 obtain⟨xs,m,_,hx,_,hl,hg⟩:=DataW.trod_struct hs h;have hi:i<fs.size:=(Array.getElem?_eq_some_iff.1 hf).1;have hg:=hg i f hf;rw[List.getElem?_eq_getElem I]at hg;refine⟨m,_,hg,?_⟩;rw[hx];simp only[Rows.uptoBulk];have:=Qw (l:=xs.map (·.1)) (List.mem_map.2 ⟨_,List.getElem_mem (show i<xs.length by omega),rfl⟩);omega
theorem aao{fs:Array Field}(hs:P.underlying t=some (.struct fs))(h:DataW.trod FX P agb base spare held n t cs=some y):cs.length=P.cellsOf t:=by
 obtain⟨xs,m,_,hx,hl,_⟩:=DataW.trod_struct hs h;exact hl
theorem wM(ht:P.underlying t=some (.int .i64))(h:DataW.trod FX P agb base spare held n t cs=some y) :∃x:Int,cs=[.int .i64 x]/\IG x:=by
 obtain⟨x,hx,_,hw⟩:=DataW.trod_int ht h;exact⟨x,hx,wf_i64 hw⟩
theorem O4{α:Type}{Q:α->DataW H->Prop}{enc:α->List Value}{sz:Nat}(he:uD enc sz)(ht:P.underlying t=some (.slice e))(hC:P.cellsOf e=sz)
 (Us:∀n cs y,DataW.trod FX P agb base spare held n e cs=some y->cs.length=sz->∃x:α,cs=enc x/\Q x y.1) (h:DataW.trod FX P agb base spare held n t cs=some y) :
 ∃(va:fB) (l:List α) (cap:Nat),cs=[.slice va l.length cap]/\bI [old agb] sz enc va l/\(∀x∈l,∃d,Q x d/\Rows.uptoBulk d<=Rows.uptoBulk y.1)/\l.length+1<=Rows.uptoBulk y.1/\l.length<=cap:=by
 rcases open_slice ht h with ⟨h0,_⟩ | ⟨a',len,cap,m,n,D,Pl,hcs,_,hl,hm,T9,hx,hi⟩
 ·exact⟨none,[],0,h0,bI.nil,λx h=>by simp at h,by simpa using Nl y.1,by simp⟩
 ·have hlm:len<=m:=by rw[T9];split<;>omega
  rw[hC]at hi;have hex:∀i,i<m->∃x:α,agb.cells? base (a'.add (i*sz)) sz=some (enc x)/\Q x (D i):=λi him=>by
   obtain⟨cs',h1,h2⟩:=hi i him;obtain⟨_,h3,_⟩:=World.cells?_some h1;obtain⟨x,hx,hq⟩:=Us n cs' _ h2 h3;exact⟨x,by rw[h1,hx],hq⟩
  have hlen:∀k,k<=m->∃l:List α,l.length=k/\∀i x,l[i]? = some x->agb.cells? base (a'.add (i*sz)) sz=some (enc x)/\Q x (D i):=by
   intro k
   induction k with
   | zero=>intro _;exact⟨[],rfl,λi x h=>by simp at h⟩
   | succ k ih =>
    intro hk;obtain⟨l,h1,h2⟩:=ih I;obtain⟨x,hx⟩:=hex k I;refine⟨l++[x],by simp[h1],λi y hy => ?_⟩;by_cases hik:i<l.length
    ·rw[List.getElem?_append_left hik]at hy;exact h2 i y hy
    ·rw[List.getElem?_append_right I]at hy;have gT:i=k:=by
      have:=(List.getElem?_eq_some_iff.1 hy).1;simp at this;omega
     subst gT;rw[h1,Io]at hy;simp at hy;subst hy;exact hx
  obtain⟨l,GS,FQ⟩:=hlen len hlm;have hd:y.1= .slice ((List.range len).map D) ((List.range (m-len)).map λj=>D (len+j)):=nR Prod.fst hx;refine⟨some a',l,cap,by rw[GS];exact hcs,λi x hx => ?_,λx hx => ?_,?_,I⟩
  ·have hc:=(FQ i x hx).1;obtain⟨_,_,hat⟩:=World.cells?_some hc;have hcell:∀f u,(enc x)[f]? = some u->agb.cell? ((a'.add (i*sz)).add f)=some u:=λf u hu=>by
    have hf:f<sz:=by rw[<-he.len x];exact(List.getElem?_eq_some_iff.1 hu).1
    rw[hat f hf,hu]
   have hsp:a'.spot=none:=by
    have hp:=he.pos;have G6:i<l.length:=(List.getElem?_eq_some_iff.1 hx).1;have hx0:l[0]? = some (l[0]' I):=List.getElem?_eq_getElem I;obtain⟨_,_,adO⟩:=World.cells?_some (FQ 0 _ hx0).1;have h0:0<(enc (l[0]' I)).length:=by rw[he.len];exact hp
    have h1:agb.cell? ((a'.add (0*sz)).add 0)=some _:=(adO 0 hp).trans (List.getElem?_eq_getElem h0);have h2:=World.cell?_spot h1;rw[Nat.zero_mul,Addr.add,bg rfl,Addr.add,bg rfl]at h2;exact h2
   obtain⟨ab,ao,asp⟩:=a';simp only at hsp;subst hsp;refine⟨rfl,λf u hu z w hw => ?_⟩;refine hw.M4 ?_;have:=hcell f u hu;rw[w4,w4]at this;exact this
  ·obtain⟨i,hi,rfl⟩:=List.getElem_of_mem hx;obtain⟨_,hq⟩:=FQ i _ (List.getElem?_eq_getElem hi);refine⟨D i,hq,?_⟩;rw[hd];simp only[Rows.uptoBulk];have:=Qw (l:=(List.range len).map D) (List.mem_map.2 ⟨i,List.mem_range.2 I,rfl⟩);omega
  ·rw[hd,GS];simp only[Rows.uptoBulk];have:=Ug ((List.range len).map D);simp only[DZ,List.length_range]at this;omega
theorem Lx(ht:P.underlying t=some (.slice e))(he:P.underlying e=some (.int .i64))(hC:P.cellsOf e=1)(h:DataW.trod FX P agb base spare held n t cs=some y) :
 ∃(va:fB) (l:List Int) (cap:Nat),cs=[.slice va l.length cap]/\bI [old agb] 1 aK va l/\(∀x∈l,IG x)/\l.length+1<=Rows.uptoBulk y.1/\l.length<=cap:=by
 obtain⟨va,l,cap,h1,h2,h3,h4,h5⟩:=O4 (Q:=λx _=>IG x) aJ ht hC (λn cs y h hl=>by
  obtain⟨x,hx,hi⟩:=wM he h;exact⟨x,by rw[hx];rfl,hi⟩) h
 exact⟨va,l,cap,h1,h2,λx hx=>by obtain⟨_,h,_⟩:=h3 x hx;exact h,h4,h5⟩
theorem Xs{α β:Type}{Q:α->DataW H->Prop}{enc:fB->Nat->α->List Value}{jz:β->List Value}{wm:α->List β}{sz tU:Nat}(he:∀a c,uD (enc a c) sz)(ht:P.underlying t=some (.slice e))(hC:P.cellsOf e=sz)
 (Us:∀n cs y,DataW.trod FX P agb base spare held n e cs=some y->cs.length=sz->∃(a:fB) (c:Nat) (x:α),cs=enc a c x/\bI [old agb] tU jz a (wm x)/\Q x y.1) (h:DataW.trod FX P agb base spare held n t cs=some y) :
 ∃(va:fB) (hs:Nat->Option Addr×Nat) (l:List α) (cap:Nat),cs=[.slice va l.length cap]/\yf [old agb] sz tU enc jz wm va hs l/\(∀x∈l,∃d,Q x d/\Rows.uptoBulk d<=Rows.uptoBulk y.1)/\l.length+1<=Rows.uptoBulk y.1/\l.length<=cap:=by
 obtain⟨va,l,cap,h1,h2,h3,h4,h5⟩:=O4 (α:=(Option Addr×Nat)×α) (Q:=λp d=>bI [old agb] tU jz p.1.1 (wm p.2)/\Q p.2 d) (enc:=λp=>enc p.1.1 p.1.2 p.2)
  ⟨λp=>(he _ _).len _,λp u h=>(he _ _).one _ u h,(he none 0).pos⟩ ht hC (λn cs y h hl=>by
   obtain⟨a,c,x,e1,e2,e3⟩:=Us n cs y h hl;exact⟨((a,c),x),e1,e2,e3⟩) h
 refine⟨va,λi=>(l[i]?.map (·.1)).getD (none,0),l.map (·.2),cap,by rw[DZ];exact h1,λi x hx => ?_,λx hx => ?_,by rw[DZ];exact h4,by rw[DZ];exact h5⟩
 ·rw[List.getElem?_map]at hx;cases hq:l[i]? with
  | none=>rw[hq]at hx;cases hx
  | some p =>
   rw[hq]at hx;simp only[wA,Option.some.injEq]at hx;subst hx;obtain⟨a1,a2⟩:=h2 i p hq;obtain⟨_,a3,_⟩:=h3 p (List.mem_of_getElem? hq);simp only[hq,wA,pG];exact⟨a1,a2,a3.1⟩
 ·obtain⟨p,hp,rfl⟩:=List.mem_map.1 hx;obtain⟨d,a,b⟩:=h3 p hp;exact⟨d,a.2,b⟩
end
theorem Nn{P:Program}{agb:World}{α:Type}{enc:α->List Value}{dE:α->DataW Unit}{sz:Nat}{name:String}{g:Nat}{t e:TypeId}{N:Nat}{l:List α}{rest:List (String×DataW Unit)}{ps:List MemPlace}(hsz:0<sz)
 (hg:P.globalNamed name=some g) (hty:(P.globals[g]?).map (·.type)=some t) (ht:P.underlying t=some (.array N e)) (hC:P.cellsOf e=sz) (hCt:P.cellsOf t=N*sz) (hN:N=l.length)
 (hlen:∀x,(enc x).length=sz) (Us:∀m cs y x,DataW.trod (λ_=>()) P agb 0 (λ_=>true) false m e cs=some y->cs.length=sz->y.1=dE x->cs=enc x)
 (h:DataW.LaidVars P agb ((name,.agg (l.map dE))::rest) ps):bI [old agb] sz enc (some ⟨g,0,none⟩) l/\∃qs,DataW.LaidVars P agb rest qs:=by
 obtain⟨g',t',cs,fuel,p,q,Iz,ht',adP,hd,hr,_⟩:=h;obtain rfl:=Option.some.inj (hg.symm.trans Iz);obtain rfl:=Option.some.inj (hty.symm.trans ht');refine⟨λi x hx => ?_,_,hr⟩;have hi:i<l.length:=(List.getElem?_eq_some_iff.1 hx).1;refine⟨rfl,λf u hu z w hw=>hw.M4 ?_⟩;obtain⟨xs,m,_,ex,hlc,hl,hel⟩:=DataW.trod_array ht hd;have hf:f<sz:=by rw[<-hlen x];exact(List.getElem?_eq_some_iff.1 hu).1
 have h1:=hel i I;rw[hC,List.getElem?_eq_getElem I]at h1;have h2:(xs[i]' I).1=dE x:=by
  simp only[Prod.mk.injEq,DataW.agg.injEq]at ex;have:=nR (·[i]?) ex.1;simp only[List.getElem?_map,hx,wA,List.getElem?_eq_getElem (show i<xs.length by omega),Option.some.injEq]at this;exact this.symm
 have hlt:cs.toList.length=N*sz:=by rw[hlc,hCt]
 have h4:i*sz+sz<=N*sz:=by
  have:=s9 sz (show i+1<=N by omega);rw[GP]at this;exact this
 have h3:=Us m _ _ x h1 (by rw[vO,Cx,hlt];omega) h2;have:=World.var?_cell hg adP (i*sz+f);rw[show(jf (some ⟨g,0,none⟩:fB))=0 from rfl,Bn];show agb.cell? ⟨g,i*sz+f,none⟩=some u;rw[this,<-Array.getElem?_toList];rw[<-h3,List.getElem?_take,bg hf,List.getElem?_drop]at hu;exact hu
end RK
end
section
namespace GX
open Go Go.RowKit SL
def O5(x y:Int):Int:=IntKind.i64.wrap ((BitVec.ofInt 64 x ^^^ BitVec.ofInt 64 y).toNat)
def Sb(x y:Int):Int:=IntKind.i64.wrap (x*2 ^ (min y.toNat 64))
def Np(x y:Int):Int:=x.fdiv (2 ^ (min y.toNat 64))
section
variable {P:Program}{ops:Array Oper}{Q:Exit->Act->World->Prop}{a:Act}{w w0 w1:World}{rest:List Oper}{o:Oper}{n d t:Nat}{v v1:Value}{l:List (Nat×Value)}{j e:Nat->Value}{L:List bl}{Df:List Deferred}{E:TypeId}
theorem adQ{x y:Operand}{p q:Int}{T T':TypeId}(ho:o.op= .binOp .xor T x y T')(hx:eO e x= .int .i64 p)(hy:eO e y= .int .i64 q):(execOp (eO e) o).run P w= .ok (.value (.int .i64 (O5 p q))) w:=by
 unfold execOp;simp[ho,hx,hy,eqGuard,binOp,Op.intBits];rfl
theorem Ut(x:Int):0<=IntKind.u64.wrap x:=by
 simp only[IntKind.wrap,IntKind.min,IntKind.max,IntKind.signed,IntKind.bits];simp;omega
theorem adR{x y:Operand}{p q:Int}{T T':TypeId}(ho:o.op= .binOp .shl T x y T')(hx:eO e x= .int .i64 p)(hy:eO e y= .int .u64 q)(hq:0<=q):(execOp (eO e) o).run P w= .ok (.value (.int .i64 (Sb p q))) w:=by
 have h:¬q<0:=by omega
 unfold execOp;simp[ho,hx,hy,eqGuard,binOp,Op.shift,h];rfl
theorem adS{x y:Operand}{p q:Int}{T T':TypeId}(ho:o.op= .binOp .shr T x y T')(hx:eO e x= .int .i64 p)(hy:eO e y= .int .u64 q)(hq:0<=q):(execOp (eO e) o).run P w= .ok (.value (.int .i64 (Np p q))) w:=by
 have h:¬q<0:=by omega
 unfold execOp;simp[ho,hx,hy,eqGuard,binOp,Op.shift,h];rfl
theorem vy{x y:Operand}{k:IntKind}{i:Int}{b N off sz:Nat}{w':World}(ho:o.op= .indexAddr t x y)(hx:eO e x= .pointer (some ⟨b,off,none⟩))(hy:eO e y= .int k i)
 (ht:P.underlying t=some (.array N E)) (hs:(P.info? E).map (·.size)=some sz) (hi:bJ i N):(execOp (eO e) o).run P w'= .ok (.value (.pointer (some ⟨b,off+i.toNat*sz,none⟩))) w':=by
 unfold execOp;have h0:=hi.1;have h1:=hi.2;simp only[ho,hx,hy];cases hq:P.info? E with
 | none=>simp[hq]at hs
 | some q =>
  simp[hq]at hs;simp[Instr.indexAt,Instr.sureAddr,run_underlying ht,asIntOf,h0,h1,sizeOf,typeInfo,hq,hs,w4]
theorem adT{x y:Operand}{kd:IntKind}{i j:Int}{v:Value}{w:World}(ho:o.op= .index t x y)(hy:eO e y= .int kd i)(hi:i=j)(hrun:(Instr.index t (eO e x) (.int kd j)).run P w= .ok v w):(execOp (eO e) o).run P w= .ok (.value v) w:=by
 subst hi;unfold execOp;simp[ho,hy,hrun]
theorem aap{x y:Operand}{k:IntKind}{i:Int}{b N R off sz:Nat}{w':World}(ho:o.op= .indexAddr t x y)(hx:eO e x= .pointer (some ⟨b,R+off,none⟩))(hy:eO e y= .int k i)
 (ht:P.underlying t=some (.array N E)) (hs:(P.info? E).map (·.size)=some sz) (hi:bJ i N):(execOp (eO e) o).run P w'= .ok (.value (.pointer (some ⟨b,R+(off+i.toNat*sz),none⟩))) w':=by
 rw[<-Nat.add_assoc];exact vy ho hx hy ht hs hi
end
section
variable {α:Type}[Inhabited α]{enc:α->List Value}{sz N:Nat}{C pre post:List Value}{l:List α}{o:Nat}
theorem kX{i:Int}(h:bJ i N):i.toNat<N:=by have h0:=h.1;have h1:=h.2;omega
theorem Uu(he:uD enc sz){i f:Nat}(hi:i<N){u:Value}(hu:(enc (J l i))[f]? = some u):(eA N enc l)[i*sz+f]? = some u:=by
 have hf:f<sz:=by rw[<-he.len (J l i)];exact(List.getElem?_eq_some_iff.1 hu).1
 rw[Dp,he.get _ i f (J l i) (by simp[hi]) hf];exact hu
theorem po(hC:C=pre++(eA N enc l++post))(he:uD enc sz)(ho:pre.length=o){i f:Nat}(hi:i<N){u:Value}(hu:(enc (J l i))[f]? = some u):C[o+i*sz+f]? = some u:=by
 have h1:=Uu (N:=N) he hi hu;have h2:i*sz+f<(eA N enc l).length:=(List.getElem?_eq_some_iff.1 h1).1;rw[hC,List.getElem?_append_right I,ho,show o+i*sz+f-o=i*sz+f by omega,List.getElem?_append_left h2];exact h1
theorem Xt(hC:C=pre++(eA N enc l++post))(he:uD enc sz)(ho:pre.length=o){i:Nat}(hi:i<N){xs:List Value}(hx:enc (J l i)=xs):(C.drop (o+i*sz)).take xs.length=xs:=by
 subst hx
 apply Ap
 intro k;rw[List.getElem?_take];by_cases hk:k<(enc (J l i)).length
 ·rw[bg hk,List.getElem?_drop,po hC he ho hi (List.getElem?_eq_getElem hk),List.getElem?_eq_getElem hk]
 ·rw[cQ hk,List.getElem?_eq_none I]
theorem O6{C':List Value}(hC:C=pre++(eA N enc l++post))(he:uD enc sz)(ho:pre.length=o){i:Nat}(hi:i<N){y:α}{vs:List Value}(hy:enc y=vs)(hC':C'=pre++(eA N enc (mL N l i y)++post)):C'=C.take (o+i*sz)++vs++C.drop (o+i*sz+vs.length):=by
 have hl:=(HR N he l).len;have hvs:vs.length=sz:=by rw[<-hy];exact he.len y
 have hm:i*sz+sz<=N*sz:=by
  have:=s9 sz (show i+1<=N by omega);rw[GP]at this;exact this
 have e1:(pre++(eA N enc l++post)).take (o+i*sz)=pre++(eA N enc l).take (i*sz):=by
  rw[KF,GK I,ho,show o+i*sz-o=i*sz by omega,List.take_append_of_le_length I]
 have e2:(pre++(eA N enc l++post)).drop (o+i*sz+sz)=(eA N enc l).drop (i*sz+sz)++post:=by
  rw[List.drop_append,zn I,ho,show o+i*sz+sz-o=i*sz+sz by omega,Bo,KE I]
 rw[hC',hC,Up he hi,<-hy,he.len y,e1,e2];simp only[rK]
theorem Xu{C:List Value}{k:Nat}{u:Value}(h:C[k]? = some u):C.toArray[k]? = some u:=by simpa using h
theorem IU(hC:C=pre++(eA N enc l++post))(he:uD enc sz)(ho:pre.length=o){i m:Nat}(hi:i<N)(hm:m<=sz):o+i*sz+m<=C.length:=by
 have hl:=(HR N he l).len;have:i*sz+sz<=N*sz:=by
  have:=s9 sz (show i+1<=N by omega);rw[GP]at this;exact this
 rw[hC,jM,jM,hl];omega
theorem vb{C':List Value}{v:Value}(hC:C=pre++(eA N enc l++post))(he:uD enc 1)(ho:pre.length=o){i:Nat}(hi:i<N){y:α}(hy:enc y=[v])(hC':C'=pre++(eA N enc (mL N l i y)++post)):C'=C.set (o+i*1) v:=by
 have h:=O6 hC he ho hi hy hC';have hl:=IU (m:=1) hC he ho hi (gQ _);rw[h,List.set_eq_take_append_cons_drop,rD];simp
end
section
variable {P:Program}{ops:Array Oper}{Q:Exit->Act->World->Prop}{a:Act}{w w0 w1:World}{rest:List Oper}{o:Oper}{n d t:Nat}{v v1:Value}{l:List (Nat×Value)}{j e:Nat->Value}{L:List bl}{Df:List Deferred}{E:TypeId}
theorem _root_.Go.Proofs.YtaiffafelihaaaaGreatDoor.SL.Fit.Uv{b k:Nat}{C xs:List Value}{T:TypeId}(h:Fit w0 (aD (pts b (.cells C.toArray T)::L)) w)(hx:(C.drop k).take xs.length=xs):rT w b k xs:=by
 refine IL xs _ λq u hu => ?_;rw[<-hx,List.getElem?_take]at hu;split at hu
 ·rw[List.getElem?_drop]at hu;exact h.cell (k+q) (by simpa using hu)
 ·cases hu
theorem tY{x y:Operand}{b k:Nat}{C C':List Value}{T:TypeId}{u:Value}(hw:vM o ops a)(hd:o.dst=none)(hr:cR Df n (lk l j) a)(ho:o.op= .store t x y)
 (hx:eO (lk l j) x= .pointer (some ⟨b,k,none⟩)) (hy:eO (lk l j) y=v) (hv:v.cells=#[v]) (h1:v.oneCell'=true) (hs:(P.info? t).map (·.size)=some 1)
 (hF:Fit w0 (aD (pts b (.cells C.toArray T)::L)) w) (hk:C[k]? = some u) (hC:C'=C.set k v)
 (K:∀w1,Fit w0 (aD (pts b (.cells C'.toArray T)::L)) w1->wpList P ops Q rest a w1):wpList P ops Q (o::rest) a w:=
 M8 hw hd hr ho hx hy hv h1 hs hF (by simpa using hk) λw1 h=>K w1 (by
  have e:C.toArray.setIfInBounds k v=C'.toArray:=by rw[hC];simp
  exact e▸ h)
theorem E9{x y:Operand}{b k:Nat}{C C' vs:List Value}{T:TypeId}(hw:vM o ops a)(hd:o.dst=none)(hr:cR Df n (lk l j) a)(ho:o.op= .store t x y)
 (hx:eO (lk l j) x= .pointer (some ⟨b,k,none⟩)) (hy:eO (lk l j) y= .agg vs.toArray) (h1:vs.all (·.oneCell')=true) (hs:(P.info? t).map (·.size)=some vs.length)
 (hF:Fit w0 (aD (pts b (.cells C.toArray T)::L)) w) (hk:k+vs.length<=C.length) (hC:C'=C.take k++vs++C.drop (k+vs.length))
 (K:∀w1,Fit w0 (aD (pts b (.cells C'.toArray T)::L)) w1->wpList P ops Q rest a w1):wpList P ops Q (o::rest) a w:=
 KM hw hd hr ho hx hy h1 (Nat.ble_eq_true_of_le (by simpa using hk)) hs hF (cs':=C'.toArray) (by rw[hC]) K
end
section
variable {P:Program}{w w0 w1 z:World}{ops:Array Oper}{Q:Exit->Act->World->Prop}{a:Act}{rest:List Oper}{e:Nat->Value}{o:Oper}{n d:Nat}{l:List (Nat×Value)}{j:Nat->Value}{Df:List Deferred}{L:List bl}{u:Value}
theorem FY{x:Operand}{T:TypeId}(hw:vM o ops a)(hr:cR Df n (lk l j) a)(ho:o.op= .panic x)(hx:eO (lk l j) x= .iface T u)
 (k:Q (.panic [{v:=.iface T u,recovered:=false}]) a w):wpList P ops Q (o::rest) a w:=by
 refine yc hw ?_;unfold Oper.wp;have h:(execOp (eO (lk l j)) o).run P w= .halt (.panic (.iface T u)) w:=by
  unfold execOp;simp[ho,hx,Instr.panic,goPanic]
 rw[hr.eval,h,Oper.upon_panic];exact k
theorem Nq{f:FuncId}{args:Array Value}{R:Ending->World->Prop}(hw:vM o ops a)(hr:cR Df n (lk l j) a)
 (hrun:(execOp (eO (lk l j)) o).run P w= .ok (.enter f args) w) (hc:Calls P f args w R)
 (k:∀e w1,R e w1->∃ch,e= .panicked ch/\Q (.panic ch) a w1):wpList P ops Q (o::rest) a w:=by
 refine yc hw ?_;unfold Oper.wp;rw[hr.eval,hrun,Oper.upon_enter];refine hc.mono λe w1 h => ?_;obtain⟨ch,rfl,h2⟩:=k e w1 h;exact h2
theorem oS{K:Act->World->Prop}{ch:List PanicEntry}(h:Q (.panic ch) a w):Exit.then K Q (.panic ch) a w:=h
theorem ve{i:Nat}{ch:List PanicEntry}(h:Q (.panic ch) a w):Exit.inBlock i Q (.panic ch) a w:=h
theorem Dq{fn:Func}{R:Ending->World->Prop}{ch:List PanicEntry}(hr:jY n e a)(h:R (.panicked ch) w):bodyPost P fn R (.panic ch) a w:=⟨hr.defers,h⟩
theorem ejR{γ δ:Type}{x y:δ}(h:some (Sum.inr x:γ⊕δ)=some (Sum.inr y)):x=y:=by cases h;rfl
theorem Uw(h:Q .ret a w):Exit.noGoto Q .ret a w:=h
instance afz [h:PI Q]:PI (Exit.noGoto Q):=⟨λch a w dst v k=>h.pi ch a w dst v k⟩
end
section
variable {P:Program}{w:World}
theorem Ly(em:Bool)(d:Nat)(xs:Array Value):∀(fs:List Field) (i:Nat) (us:List Value),D4 P i fs us us=true->(∀j,us[j]? = xs[i+j]?∨us.length<=j)->
 Sem.run P (forIn fs PUnit.unit λf _=>if f.name≠ "_" then do let v<-part f.type xs f.offset;Instr.checkKey em (d+1) f.type v;pure (ForInStep.yield PUnit.unit)else pure (ForInStep.yield PUnit.unit)) w= .ok PUnit.unit w
 | [],_,[],_,_=>by simp
 | f::fs,i,.int k a::us,h,hx=>by
  simp only[D4,mI,bne_iff_ne,ne_eq,Cz]at h;obtain⟨⟨⟨⟨hn,ho⟩,ht⟩,_⟩,hr⟩:=h;have hx0:xs[i]? = some (.int k a):=by rcases hx 0 with h | h;simpa using h.symm;simp at h
  have hty :∃kk,P.underlying f.type=some (.int kk):=by
   revert ht
   cases hq:P.underlying f.type with
   | none=>simp
   | some d=>cases d<;>simp
  obtain⟨kk,hty⟩:=hty;have ih:=Ly em d xs fs (i+1) us hr (λj=>by rcases hx (j+1)with h | h;left;simpa [OX,KI]using h;right;simpa using h);have pa:=tE (P:=P) (w:=w) (t:=f.type) (cs:=xs) (i:=f.offset) (v:=.int k a) (by rw[hty]) (by rw[ho];exact hx0);have hc:(Instr.checkKey em (d+1) f.type (.int k a)).run P w= .ok () w:=by simp[Instr.checkKey,run_underlying hty]
  rw[List.forIn_cons];simp only[ne_eq,bg hn,n9,pa,hc,oa,uR]
  simpa using ih
 | f::fs,i,.bool a::us,h,hx=>by
  simp only[D4,mI,bne_iff_ne,ne_eq,Cz]at h;obtain⟨⟨⟨hn,ho⟩,ht⟩,hr⟩:=h;have hx0:xs[i]? = some (.bool a):=by rcases hx 0 with h | h;simpa using h.symm;simp at h
  have hty:P.underlying f.type=some .bool:=by
   revert ht
   cases hq:P.underlying f.type with
   | none=>simp
   | some d=>cases d<;>simp
  have ih:=Ly em d xs fs (i+1) us hr (λj=>by rcases hx (j+1)with h | h;left;simpa [OX,KI]using h;right;simpa using h);have pa:=tE (P:=P) (w:=w) (t:=f.type) (cs:=xs) (i:=f.offset) (v:=.bool a) (by rw[hty]) (by rw[ho];exact hx0);have hc:(Instr.checkKey em (d+1) f.type (.bool a)).run P w= .ok () w:=by simp[Instr.checkKey,run_underlying hty]
  rw[List.forIn_cons];simp only[ne_eq,bg hn,n9,pa,hc,oa,uR]
  simpa using ih
theorem Ux{em:Bool}{T:TypeId}{us:List Value}(d:Nat)(hu:P.underlying T=some (.struct (P.fieldsOf T)))(hf:D4 P 0 (P.fieldsOf T).toList us us=true):(Instr.checkKey em (d+2) T (.agg us.toArray)).run P w= .ok () w:=by
 unfold Instr.checkKey;simp only[run_underlying hu,n9,oa,<-Array.forIn_toList];rw[Ly em d us.toArray _ 0 us hf (λj=>by left;simp)];simp
structure Nr{α:Type}[DecidableEq α](P:Program)(kt:TypeId)(ek:α->List Value):Prop where
 hp:P.stoodInHeld kt=false
 hu:P.underlying kt=some (.struct (P.fieldsOf kt))
 hf:∀x y,D4 P 0 (P.fieldsOf kt).toList (ek x) (ek y)=true
 eq:∀x y,vR (ek x) (ek y)=decide (x=y)
end
section
variable {α β:Type}[DecidableEq α]
def th(ek:α->List Value)(ev:β->List Value)(l:List (α×β))(k:Nat):List MapEntry:=(l.zipIdx k).map λp=>{key:=.agg (ek p.1.1).toArray,val:=.agg (ev p.1.2).toArray,born:=p.2}
def mapOf(ek:α->List Value)(ev:β->List Value)(b:Nat)(l:List (α×β)):bl:=pts b (.map (th ek ev l 0).toArray l.length)
def za:List (α×β)->α->Option β
 | [],_=>none
 | p::l,x=>if x=p.1 then some p.2 else za l x
variable {P:Program}{w w0 w1 z:World}{ops:Array Oper}{Q:Exit->Act->World->Prop}{a:Act}{rest:List Oper}{e:Nat->Value}{o:Oper}{n d:Nat}{l:List (Nat×Value)}{j:Nat->Value}{Df:List Deferred}{L:List bl}{u:Value}
variable {ek:α->List Value}{ev:β->List Value}{b:Nat}{m:List (α×β)}{t kt et:TypeId}
theorem Ns(hk:Nr P kt ek)(x:α):∀(m:List (α×β)) (k i:Nat),((za m x=none/\(Instr.findAsking kt (.agg (ek x).toArray) (th ek ev m k) i).run P w= .ok none w)∨∃v q,za m x=some v/\(Instr.findAsking kt (.agg (ek x).toArray) (th ek ev m k) i).run P w= .ok (some (q,.agg (ev v).toArray)) w)
 | [],k,i=>by left;exact⟨rfl,by simp[th,Instr.findAsking]⟩
 | p::m,k,i=>by
  have h1:=run_equalIn_struct (P:=P) w 9999 kt (ek x).toArray (ek p.1).toArray hk.hu hk.hp;rw[Lo (P:=P) (w:=w) 9998 (ek x).toArray (ek p.1).toArray (P.fieldsOf kt).toList 0 (ek x) (ek p.1) (hk.hf x p.1) (λj=>by left;simp) (λj=>by left;simp)]at h1;have h2:(Op.equal kt (.agg (ek x).toArray) (.agg (ek p.1).toArray)).run P w= .ok (decide (x=p.1)) w:=by rw[<-hk.eq];exact h1
  have e:th ek ev (p::m) k={key:=.agg (ek p.1).toArray,val:=.agg (ev p.2).toArray,born:=k}::th ek ev m (k+1):=rfl;rw[e];by_cases c:x=p.1
  ·right
   refine⟨p.2,i,by simp[za,c],?_⟩;rw[Instr.findAsking];simp only[n9,h2,oa];simp[c]
  ·have ih:=Ns hk x m (k+1) (i+1);have e2:(Instr.findAsking kt (.agg (ek x).toArray) ({key:=.agg (ek p.1).toArray,val:=.agg (ev p.2).toArray,born:=k}::th ek ev m (k+1)) i).run P w=(Instr.findAsking kt (.agg (ek x).toArray) (th ek ev m (k+1)) (i+1)).run P w:=by
    rw[Instr.findAsking];simp[h2,c]
   rw[e2]
   simpa [za,c]using ih
theorem KT(hk:Nr P kt ek)(x:α)(m:List (α×β)):((za m x=none/\(Instr.findKey kt (.agg (ek x).toArray) (th ek ev m 0)).run P w= .ok none w)∨∃v q,za m x=some v/\(Instr.findKey kt (.agg (ek x).toArray) (th ek ev m 0)).run P w= .ok (some (q,.agg (ev v).toArray)) w):=by
 have h:=Ns (P:=P) (w:=w) (ev:=ev) hk x m 0 0;unfold Instr.findKey;simp only[n9,run_underlying hk.hu,oa];cases m with
 | nil=>left;exact⟨rfl,by simp[th,Instr.findNow]⟩
 | cons p m =>
  have e:Instr.findNow (.struct (P.fieldsOf kt)) (.agg (ek x).toArray) (th ek ev (p::m) 0) 0=none:=rfl;rw[e];exact h
theorem Uy(hw:vM o ops a)(hd:o.dst=some d)(hn:Nat.blt d n=true)(hr:cR Df n (lk l j) a)(ho:o.op= .makeMap t none)(ek:α->List Value)(ev:β->List Value)(hF:Fit z (aD L) w)
 (k:∀b w a,Fit z (aD (mapOf ek ev b []::L)) w->cR Df n (lk ((d,.map (some b))::l) j) a->wpList P ops Q rest a w):wpList P ops Q (o::rest) a w:=by
 refine sV hw hd hn hr (w1:=w.alloc (.map #[] 0)) (v:=.map (some w.heap.size)) ?_ λa G7=>k _ _ a (hF.alloc _) G7;unfold execOp;simp[ho,Instr.makeMap,newObj]
 rfl
theorem Xv{zc:Array Value}(h:(P.info? et).bind (·.zero)=some (.agg zc)):(zeroValue et).run P w= .ok (.agg zc) w:=by
 cases hi:P.info? et with
 | none=>simp[hi]at h
 | some i =>
  simp[hi]at h;simp[zeroValue,typeInfo,hi,h]
theorem Xw{x y:Operand}{v0:β}(hw:vM o ops a)(hd:o.dst=some d)(hn:Nat.blt d n=true)(hr:cR Df n (lk l j) a)(ho:o.op= .lookup t x y true)(hx:eO (lk l j) x= .map (some b))(q:α)(hy:eO (lk l j) y= .agg (ek q).toArray)
 (ht:P.underlying t=some (.map kt et)) (hk:Nr P kt ek) (hz:(P.info? et).bind (·.zero)=some (.agg (ev v0).toArray)) (hF:Fit z (aD (mapOf ek ev b m::L)) w)
 (k:∀a,cR Df n (lk ((d,.tuple #[.agg (ev ((za m q).getD v0)).toArray,.bool (za m q).isSome])::l) j) a->wpList P ops Q rest a w):wpList P ops Q (o::rest) a w:=by
 refine sV hw hd hn hr (w1:=w) ?_ k;unfold execOp;have hb:(getObj b).run P w= .ok (.map (th ek ev m 0).toArray m.length) w:=Ql hF.block;have hc:∀em,(Instr.checkKey em 10000 kt (.agg (ek q).toArray)).run P w= .ok () w:=λem=>Ux 9998 hk.hu (hk.hf q q);have hzv:=Xv (P:=P) (w:=w) hz;rcases KT (P:=P) (w:=w) (ev:=ev) hk q m with ⟨e,h⟩ | ⟨v,i,e,h⟩
 ·simp[ho,hx,hy,Instr.lookup,run_underlying ht,hb,hc,h,e,hzv]
 ·simp[ho,hx,hy,Instr.lookup,run_underlying ht,hb,hc,h,e]
theorem KU(p:α×β):∀(m:List (α×β)) (k:Nat),th ek ev (m++[p]) k=th ek ev m k++[{key:=.agg (ek p.1).toArray,val:=.agg (ev p.2).toArray,born:=k+m.length}]
 | [],k=>rfl
 | q::m,k=>by
  have ih:=KU p m (k+1);show _::th ek ev (m++[p]) (k+1)=_::(th ek ev m (k+1)++_);rw[ih]
  congr 3
  simp;omega
theorem Qx{o o':Obj}(h:Fit w0 (aD (pts b o::L)) w):Fit w0 (aD (pts b o'::L)) {w with heap:=w.heap.setIfInBounds b o' }:=by
 refine h.turn ?_ (λk hk hlt => ?_) rfl rfl rfl (by simp)
 ·simp[h.lt]
 ·show(w.heap.setIfInBounds b o')[k]? = _;rw[Array.getElem?_setIfInBounds_ne I]
theorem Uz{x y v:Operand}(hw:vM o ops a)(hd:o.dst=none)(hr:cR Df n (lk l j) a)(ho:o.op= .mapUpdate t x y v∨o.op= .insert t x y v)(hx:eO (lk l j) x= .map (some b))(q:α)(r:β)(hy:eO (lk l j) y= .agg (ek q).toArray)(hv:eO (lk l j) v= .agg (ev r).toArray)
 (ht:P.underlying t=some (.map kt et)) (hk:Nr P kt ek) (hq:za m q=none) (hF:Fit z (aD (mapOf ek ev b m::L)) w)
 (k:∀w,Fit z (aD (mapOf ek ev b (m++[(q,r)])::L)) w->wpList P ops Q rest a w):wpList P ops Q (o::rest) a w:=by
 have hb:(getObj b).run P w= .ok (.map (th ek ev m 0).toArray m.length) w:=Ql hF.block;have hc:∀em,(Instr.checkKey em 10000 kt (.agg (ek q).toArray)).run P w= .ok () w:=λem=>Ux 9998 hk.hu (hk.hf q q);have hrun:(Instr.mapUpdate t (.map (some b)) (.agg (ek q).toArray) (.agg (ev r).toArray)).run P w= .ok () {w with heap:=w.heap.setIfInBounds b (.map (th ek ev (m++[(q,r)]) 0).toArray (m++[(q,r)]).length)}:=by
  rcases KT (P:=P) (w:=w) (ev:=ev) hk q m with ⟨e,h⟩ | ⟨v,i,e,h⟩
  ·rw[KU];have hs:∀o',(setObj b o').run P w= .ok () {w with heap:=w.heap.setIfInBounds b o' }:=λo'=>by simp[setObj,Sem.run,hF.block]
   simp[Instr.mapUpdate,run_underlying ht,hb,hc,h,hs]
  ·rw[e]at hq;cases hq
 refine yc hw ?_;unfold Oper.wp;have h2:(execOp (eO (lk l j)) o).run P w= .ok .skip {w with heap:=w.heap.setIfInBounds b (.map (th ek ev (m++[(q,r)]) 0).toArray (m++[(q,r)]).length)}:=by
  unfold execOp;rcases ho with ho | ho<;>simp[ho,hx,hy,hv,hrun]
 rw[hr.eval,h2,Oper.upon_skip,hd];exact k _ (Qx hF)
section
variable {ξ γ:Type}
noncomputable def xb(aH:ξ->γ->Option γ)(s0:γ)(l:List ξ):Option γ:=
 open Classical in if h :∃r,∀l':List ξ,l'.Perm l->l'.foldlM (λs x=>aH x s) s0=some r then some h.choose else none
theorem D8{aH:ξ->γ->Option γ}{s0 r:γ}{l l':List ξ}(h:xb aH s0 l=some r)(p:l'.Perm l):l'.foldlM (λs x=>aH x s) s0=some r:=by
 unfold xb at h;split at h
 ·rename_i hx;rw[<-Option.some.inj h];exact hx.choose_spec l' p
 ·cases h
theorem Nt{aH:ξ->γ->Option γ}{s0 r:γ}{l:List ξ}(h:∀l':List ξ,l'.Perm l->l'.foldlM (λs x=>aH x s) s0=some r):xb aH s0 l=some r:=by
 unfold xb;have hx :∃r,∀l':List ξ,l'.Perm l->l'.foldlM (λs x=>aH x s) s0=some r:=⟨r,h⟩;rw[dif_pos hx];have e:=hx.choose_spec l (List.Perm.refl l);rw[h l (List.Perm.refl l)]at e;rw[<-Option.some.inj e]
structure Seen(l:List ξ)(aH:ξ->γ->Option γ)(s0:γ)(seen:Array Nat)(s:γ):Prop where
 nd:seen.toList.Nodup
 lt:∀i∈seen.toList,i<l.length
 fold:(seen.toList.filterMap (λi=>l[i]?)).foldlM (λs x=>aH x s) s0=some s
theorem Seen.nil{l:List ξ}{aH:ξ->γ->Option γ}{s0:γ}:Seen l aH s0 #[] s0:=⟨by simp,by simp,rfl⟩
theorem KV(l:List ξ):(List.range l.length).filterMap (λi=>l[i]?)=l:=by
 apply Ap
 intro i;have h:∀(l:List ξ),(List.range l.length).filterMap (λi=>l[i]?)=l:=by
  intro l
  induction l with
  | nil=>rfl
  | cons x l ih =>
   rw[Bm,List.range_succ_eq_map,List.filterMap_cons];simp only[List.getElem?_cons_zero,List.filterMap_map]
   congr 1
 rw[h]
theorem wN{n:Nat}{l:List Nat}(h:l.Nodup)(hlt:∀i∈l,i<n)(Az:∀i,i<n->i∈l):l.Perm (List.range n):=
 (List.perm_ext_iff_of_nodup h List.nodup_range).2 λi=>⟨λhi=>List.mem_range.2 (hlt i hi),λhi=>Az i (List.mem_range.1 hi)⟩
theorem Seen.done{l:List ξ}{aH:ξ->γ->Option γ}{s0 s r:γ}{seen:Array Nat}(h:Seen l aH s0 seen s)(H:xb aH s0 l=some r)(Az:∀i,i<l.length->i∈seen.toList):s=r:=by
 have p:=(wN h.nd h.lt Az).filterMap (λi=>l[i]?);rw[KV]at p;have e:=D8 H p;rw[h.fold]at e;exact Option.some.inj e
theorem Seen.push{l:List ξ}{aH:ξ->γ->Option γ}{s0 s r:γ}{seen:Array Nat}(h:Seen l aH s0 seen s)(H:xb aH s0 l=some r){i:Nat}{x:ξ}(hx:l[i]? = some x)(hi:i∉seen.toList) :∃s',aH x s=some s'/\Seen l aH s0 (seen.push i) s':=by
 have G6:i<l.length:=(List.getElem?_eq_some_iff.1 hx).1;have hnd:(seen.toList++[i]).Nodup:=by
  rw[List.nodup_append];exact⟨h.nd,by simp,λa ha b hb=>by simp at hb;subst hb;intro e;subst e;exact hi ha⟩
 have hlt:∀k∈seen.toList++[i],k<l.length:=λk hk=>by
  rcases List.mem_append.1 hk with hk | hk
  ·exact h.lt k hk
  ·simp at hk;omega
 let rest:=(List.range l.length).filter (λk => !(seen.toList++[i]).contains k)
 have p:((seen.toList++[i])++rest).Perm (List.range l.length):=by
  refine wN ?_ ?_ ?_
  ·rw[List.nodup_append];refine⟨hnd,List.nodup_range.filter _,λa ha b hb => ?_⟩;intro e;subst e;have:=(List.mem_filter.1 hb).2;simp at this ha;rcases ha with ha | ha
   ·exact this.1 ha
   ·exact this.2 ha
  ·intro k hk;rcases List.mem_append.1 hk with hk | hk
   ·exact hlt k hk
   ·exact List.mem_range.1 (List.mem_filter.1 hk).1
  ·intro k hk;by_cases c:k∈seen.toList++[i]
   ·exact List.mem_append.2 (.inl c)
   ·refine List.mem_append.2 (.inr (List.mem_filter.2 ⟨List.mem_range.2 hk,?_⟩))
    simpa using c
 have p2:=p.filterMap (λi=>l[i]?);rw[KV]at p2;have e:=D8 H p2;rw[List.filterMap_append,List.filterMap_append,List.foldlM_append,List.foldlM_append,h.fold]at e;have e1:List.filterMap (λi=>l[i]?) [i]=[x]:=by simp[hx]
 rw[e1]at e;cases hs:aH x s with
 | none=>simp[hs]at e
 | some s' =>
  refine⟨s',rfl,⟨by simpa using hnd,λk hk=>hlt k (by simpa using hk),?_⟩⟩;rw[Array.toList_push,List.filterMap_append,List.foldlM_append,h.fold,e1];simp[hs]
theorem Seen.size{l:List ξ}{aH:ξ->γ->Option γ}{s0 s:γ}{seen:Array Nat}(h:Seen l aH s0 seen s):seen.size<=l.length:=by
 have p:(seen.toList++(List.range l.length).filter (λk => !seen.toList.contains k)).Perm (List.range l.length):=by
  refine wN ?_ ?_ ?_
  ·rw[List.nodup_append];refine⟨h.nd,List.nodup_range.filter _,λa ha b hb => ?_⟩;intro e;subst e;have:=(List.mem_filter.1 hb).2;simp at this ha;exact this ha
  ·intro k hk;rcases List.mem_append.1 hk with hk | hk
   ·exact h.lt k hk
   ·exact List.mem_range.1 (List.mem_filter.1 hk).1
  ·intro k hk;by_cases c:k∈seen.toList
   ·exact List.mem_append.2 (.inl c)
   ·refine List.mem_append.2 (.inr (List.mem_filter.2 ⟨List.mem_range.2 hk,?_⟩))
    simpa using c
 have h1:=p.length_eq;simp at h1;omega
end
theorem O7{ξ γ:Type}{c:Code}(m:List ξ)(aH:ξ->γ->Option γ)(s0:γ)(agd:Array Nat->γ->Act->World->Prop)(h0:agd #[] s0 a w)
 (round:∀seen s a w,Seen m aH s0 seen s->agd seen s a w->c.wp P (Exit.then (λa w =>∃i s',Seen m aH s0 (seen.push i) s'/\agd (seen.push i) s' a w) Q) a w):(Code.loop c).wp P Q a w:=by
 refine dr (λx:Array Nat×γ=>m.length-x.1.size) (λx a w=>Seen m aH s0 x.1 x.2/\agd x.1 x.2 a w) (#[],s0) ⟨Seen.nil,h0⟩ ?_
 rintro ⟨seen,s⟩ a w ⟨hs,hI⟩
 refine Code.wp_mono (λe a w q => ?_) (round seen s a w hs hI);cases e with
 | normal =>
  obtain⟨i,s',h1,h2⟩:=q;refine⟨(seen.push i,s'),⟨h1,h2⟩,?_⟩;have:=h1.size;simp at this⊢;omega
 | _=>exact q
def IV(it b n:Nat)(seen:Array Nat):bl:=pts it (.mapIter (some b) n seen n)
theorem UA{x:Operand}(hw:vM o ops a)(hd:o.dst=some d)(hn:Nat.blt d n=true)(hr:cR Df n (lk l j) a)(ho:o.op= .range t x)(hx:eO (lk l j) x= .map (some b))(ht:P.underlying t=some (.map kt et))
 (hF:Fit z (aD (mapOf ek ev b m::L)) w)
 (k:∀it w a,Fit z (aD (IV it b m.length #[]::mapOf ek ev b m::L)) w->cR Df n (lk ((d,.pointer (some ⟨it,0,none⟩))::l) j) a->wpList P ops Q rest a w):wpList P ops Q (o::rest) a w:=by
 refine sV hw hd hn hr (w1:=w.alloc (.mapIter (some b) m.length #[] m.length)) (v:=.pointer (some ⟨w.heap.size,0,none⟩)) ?_ λa G7=>k _ _ a (hF.alloc _) G7;have h:=run_range_map (P:=P) w t kt et b (th ek ev m 0).toArray m.length ht hF.block;unfold execOp;simp[ho,hx,h]
theorem Fa(m:List (α×β))(k i:Nat):(th ek ev m k)[i]? = (m[i]?).map λp=>{key:=.agg (ek p.1).toArray,val:=.agg (ev p.2).toArray,born:=k+i}:=by
 unfold th;rw[List.getElem?_map,List.getElem?_zipIdx];cases m[i]? <;> rfl
theorem Nu{m:List (α×β)}{x:MapEntry}(h:x∈th ek ev m 0) :∃p,m[x.born]? = some p/\x={key:=.agg (ek p.1).toArray,val:=.agg (ev p.2).toArray,born:=x.born}:=by
 obtain⟨i,hi⟩:=List.getElem?_of_mem h;rw[Fa]at hi;cases hm:m[i]? with
 | none=>simp[hm]at hi
 | some p =>
  simp[hm]at hi;subst hi;exact⟨p,hm,rfl⟩
theorem Xx{x:Operand}{it n0:Nat}{seen:Array Nat}(hw:vM o ops a)(hd:o.dst=some d)(hn:Nat.blt d n=true)(hr:cR Df n (lk l j) a)(ho:o.op= .next x false)(hx:eO (lk l j) x= .pointer (some ⟨it,0,none⟩))(EZ:n0=m.length)
 (hF:Fit z (aD (IV it b n0 seen::mapOf ek ev b m::L)) w)
 (k0:(∀i,i<m.length->i∈seen.toList)->∀a,cR Df n (lk ((d,.tuple #[.bool false])::l) j) a->wpList P ops Q rest a w)
 (k1:∀i x w a,m[i]? = some x->i∉seen.toList->Fit z (aD (IV it b n0 (seen.push i)::mapOf ek ev b m::L)) w->cR Df n (lk ((d,.tuple #[.bool true,.agg (ek x.1).toArray,.agg (ev x.2).toArray])::l) j) a->wpList P ops Q rest a w):wpList P ops Q (o::rest) a w:=by
 subst EZ;have hb1:(getObj it).run P w= .ok (.mapIter (some b) m.length seen m.length) w:=by simp[getObj,Sem.run,hF.block]
 have hb2:(getObj b).run P w= .ok (.map (th ek ev m 0).toArray m.length) w:=Ql (hF.pick 1).block;have hold:∀x∈(th ek ev m 0).toArray.toList,x.born<m.length:=λx hx=>by
  obtain⟨p,hp,_⟩:=Nu (by simpa using hx);exact(List.getElem?_eq_some_iff.1 hp).1
 have abT:=next_test_false seen (th ek ev m 0).toArray m.length m.length hold (gQ _);have adU:∀(w:World) o',w.heap[it]? = some (.mapIter (some b) m.length seen m.length)->(setObj it o').run P w= .ok () {w with heap:=w.heap.setIfInBounds it o' }:=λw o' h=>by simp[setObj,Sem.run,h]
 have hmem:∀x∈(Array.filter (λe => !seen.contains e.born) (th ek ev m 0).toArray).toList,x.born<m.length:=λx hx=>hold x (by simp at hx⊢;exact hx.1);have hsrc:∀x∈(Array.filter (λe => !seen.contains e.born) (th ek ev m 0).toArray).toList,∃p,m[x.born]? = some p/\x.born∉seen.toList/\x={key:=.agg (ek p.1).toArray,val:=.agg (ev p.2).toArray,born:=x.born}:=λx hx=>by
  simp at hx;obtain⟨p,h1,h2⟩:=Nu hx.1;exact⟨p,h1,by simpa using hx.2,h2⟩
 have Az:(Array.filter (λe => !seen.contains e.born) (th ek ev m 0).toArray).size=0->∀i,i<m.length->i∈seen.toList:=by
  intro h0 i hi;have h1:Array.filter (λe => !seen.contains e.born) (th ek ev m 0).toArray=#[]:=Array.eq_empty_of_size_eq_zero h0;rw[Array.filter_eq_empty_iff]at h1;have h2:=h1 {key:=.agg (ek m[i].1).toArray,val:=.agg (ev m[i].2).toArray,born:=i} (by
   have:(th ek ev m 0)[i]? = some {key:=.agg (ek m[i].1).toArray,val:=.agg (ev m[i].2).toArray,born:=i}:=by rw[Fa,List.getElem?_eq_getElem hi];simp
   simpa using List.mem_of_getElem? this)
  simpa using h2
 have hrun:∀ty,(∃i x w1,m[i]? = some x/\i∉seen.toList/\Fit z (aD (IV it b m.length (seen.push i)::mapOf ek ev b m::L)) w1/\(Instr.next (.pointer (some ⟨it,0,none⟩)) false ty).run P w= .ok (.tuple #[.bool true,.agg (ek x.1).toArray,.agg (ev x.2).toArray]) w1)∨
  ((∀i,i<m.length->i∈seen.toList)/\(Instr.next (.pointer (some ⟨it,0,none⟩)) false ty).run P w= .ok (.tuple #[.bool false]) w):=by
  intro ty;simp only[Instr.next,n9,hb1,hb2,oa,abT,Ik,if_false];generalize Array.filter (λe => !seen.contains e.born) (th ek ev m 0).toArray=K at hmem hsrc Az⊢;have e1:K.filter (λx=>decide (x.born<m.length))=K:=Array.filter_eq_self.2 (λx hx=>by simpa using hmem x (by simpa using hx));have e2:K.filter (λx=>decide (x.born>=m.length))=#[]:=by
   rw[Array.filter_eq_empty_iff];intro x hx;have:=hmem x (by simpa using hx);simp;omega
  simp only[e1,e2,Array.append_empty];by_cases h0:K.size=0
  ·right
   have h1:K=#[]:=Array.eq_empty_of_size_eq_zero h0;refine⟨Az h0,?_⟩;subst h1;simp[choose,Sem.run,Question.forced]
  ·left
   have hne:K.isEmpty=false:=by simp[Array.isEmpty,h0]
   simp only[hne,Ik,if_false,Array.empty_append,Array.size_map];have hch :∃(q:Nat) (w1:World),q<K.size/\(w1=w∨w1=w.drew)/\(choose (Question.mapNext K.size)).run P w= .ok q w1:=by
    by_cases hf:K.size<=1
    ·exact⟨0,w,I,.inl rfl,by simp[choose,Sem.run,Question.forced,hf]⟩
    ·exact⟨_,w.drew,Nat.mod_lt _ I,.inr rfl,by
      simp only[choose,Sem.run,Question.forced,CA,hf,if_false,Question.cut]
      rfl⟩
   obtain⟨q,w1,hq,hw1,hrun⟩:=hch;obtain⟨p,hp1,hp2,hp3⟩:=hsrc K[q] (by simp);have hF1:Fit z (aD (IV it b m.length seen::mapOf ek ev b m::L)) w1:=by
    rcases hw1 with rfl | rfl
    ·exact hF
    ·exact hF.drew
   refine⟨K[q].born,p,_,hp1,hp2,Qx (o':=.mapIter (some b) m.length (seen.push K[q].born) m.length) hF1,?_⟩;have hkey:K[q].key= .agg (ek p.1).toArray:=by rw[hp3]
   have hval:K[q].val= .agg (ev p.2).toArray:=by rw[hp3]
   simp only[hrun,Array.getElem?_map,Array.getElem?_eq_getElem hq,wA,n9,adU w1 _ hF1.block,oa,hkey,hval]
   rfl
 refine yc hw ?_;unfold Oper.wp;rcases hrun o.type with ⟨i,y,w1,h1,h2,h3,h4⟩ | ⟨h1,h4⟩
 ·have h5:(execOp (eO (lk l j)) o).run P w= .ok (.value (.tuple #[.bool true,.agg (ek y.1).toArray,.agg (ev y.2).toArray])) w1:=by
   unfold execOp;simp[ho,hx,h4]
  rw[hr.eval,h5,Oper.upon_value,hd];exact k1 i y w1 _ h1 h2 h3 (hr.put d _ hn)
 ·have h5:(execOp (eO (lk l j)) o).run P w= .ok (.value (.tuple #[.bool false])) w:=by
   unfold execOp;simp[ho,hx,h4]
  rw[hr.eval,h5,Oper.upon_value,hd];exact k0 h1 _ (hr.put d _ hn)
theorem UB{x:Operand}{it n0 i:Nat}{seen:Array Nat}{p:α×β}(hw:vM o ops a)(hd:o.dst=some d)(hn:Nat.blt d n=true)(hr:cR Df n (lk l j) a)(ho:o.op= .entry x)(hx:eO (lk l j) x= .pointer (some ⟨it,0,none⟩))(EZ:n0=m.length)
 (hF:Fit z (aD (IV it b n0 (seen.push i)::mapOf ek ev b m::L)) w) (hp:m[i]? = some p)
 (k:∀a,cR Df n (lk ((d,.tuple #[.agg (ek p.1).toArray,.agg (ev p.2).toArray])::l) j) a->wpList P ops Q rest a w):wpList P ops Q (o::rest) a w:=by
 subst EZ;have hb1:(getObj it).run P w= .ok (.mapIter (some b) m.length (seen.push i) m.length) w:=by simp[getObj,Sem.run,hF.block]
 have hb2:(getObj b).run P w= .ok (.map (th ek ev m 0).toArray m.length) w:=Ql (hF.pick 1).block;have hf:(th ek ev m 0).toArray.find? (·.born==i)=some {key:=.agg (ek p.1).toArray,val:=.agg (ev p.2).toArray,born:=i}:=by
  rw[<-Array.find?_toList,KG];have hmem:{key:=.agg (ek p.1).toArray,val:=.agg (ev p.2).toArray,born:=i}∈th ek ev m 0:=List.mem_of_getElem? (i:=i) (by rw[Fa,hp];simp);have hnd:((th ek ev m 0).map (·.born)).Nodup:=by
   have e:(th ek ev m 0).map (·.born)=List.range m.length:=by
    apply Ap
    intro k;rw[List.getElem?_map,Fa];by_cases c:k<m.length
    ·simp[List.getElem?_eq_getElem c,List.getElem?_range c]
    ·rw[List.getElem?_eq_none I,List.getElem?_eq_none (by simpa using c)];rfl
   rw[e];exact List.nodup_range
  exact find_born _ _ hnd hmem
 refine sV hw hd hn hr (w1:=w) ?_ k;unfold execOp;have h:(Instr.entry (.pointer (some ⟨it,0,none⟩))).run P w= .ok (.tuple #[.agg (ek p.1).toArray,.agg (ev p.2).toArray]) w:=by
  simp only[Instr.entry,n9,hb1,hb2,oa,Array.back?_push,bne_self_eq_false,Ik,if_false,hf]
  rfl
 simp[ho,hx,h]
end
open Go Go.RowKit SL Go.MuLone Go.Conc.Locks
section
variable {P:Program}{ops:Array Oper}{Q:Exit->Act->World->Prop}{a:Act}{w w0 w1 z:World}{rest:List Oper}{o:Oper}{n d t:Nat}{v r u:Value}{l:List (Nat×Value)}{j e:Nat->Value}{L:List bl}{Df:List Deferred}{f:FuncId}{args:Array Value}
theorem UC{q:Deferred}(hw:vM o ops a)(hd:o.dst=none)(hr:cR Df n (lk l j) a)(hrun:(execOp (eO (lk l j)) o).run P w= .ok (.defer q) w)
 (k:∀a,cR (q::Df) n (lk l j) a->wpList P ops Q rest a w):wpList P ops Q (o::rest) a w:=by
 refine yc hw ?_;unfold Oper.wp;rw[hr.eval,hrun,Oper.upon_defer,hd];exact k _ ⟨hr.size,hr.get,by show _::a.defers=_;rw[hr.defers]⟩
theorem aaq{fn:Func}{c:Code}{R:Ending->World->Prop}(hf:P.funcs[f]? = some fn)(hb:fn.body=some c)(n:Nat)(hn:fn.ntmps=n)(hs:Nat.ble args.size n=true)
 (l:List (Nat×Value)) (hl:allEq (λt=>args.getD t undef) l) (k:∀j a,jY n (lk l j) a->c.wp P (bodyPostD P fn R) a w):Calls P f args w R:=by
 refine calls_of_wp_defers hf hb (k (λt=>args.getD t undef) _ ?_);rw[w8 hl];refine⟨?_,λt=>Ix args _ t,rfl⟩;have:=qx hs;simp[hn];omega
end
open Go Go.RowKit SL
section
variable {P:Program}{w w0 w1 z:World}{a:Act}{o:Oper}{n d:Nat}{l:List (Nat×Value)}{j:Nat->Value}{L:List bl}{f:FuncId}{args:Array Value}{Q:Exit->Act->List Frame->World->Prop}{cs cs':List Frame}{Df:List Deferred}
theorem UD{fn:Func}{c:Code}{u:FrameMode}{R:Ending->FrameMode->World->Prop}(hf:P.funcs[f]? = some fn)(hb:fn.body=some c)(n:Nat)(hn:fn.ntmps=n)(hs:Nat.ble args.size n=true)
 (l:List (Nat×Value)) (hl:allEq (λt=>args.getD t undef) l) (k:∀(c0:Frame) (cs:List Frame) j a,c0.mode=u->jY n (lk l j) a->c.wpS P (bodyPostS P fn c0 cs R) a (c0::cs) w):CallsD P f args u w R:=by
 refine callsD_of_wpS hf hb λc0 cs hu=>k c0 cs (λt=>args.getD t undef) _ hu ?_;rw[w8 hl];refine⟨?_,λt=>Ix args _ t,rfl⟩;have:=qx hs;simp[hn];omega
theorem Nv(hg:o.guard=none)(y:Nat->Option Bool):Region.wanted o y=true:=by simp[Region.wanted,hg]
theorem Zj{Uh:Nat}{y:Code}{v:Value}(hr:cR Df n (lk l j) a)(hv:recoverD cs=some (v,cs')∨recoverD cs=none/\v= .nilIface/\cs'=cs)(k:∀a,cR Df n (lk ((d,v)::l) j) a->y.wpS P Q a cs' w)
 (hg:o.guard=none) (hd:o.dst=some d) (hn:Nat.blt d n=true) (hrun:(execOp (eO (lk l j)) o).run P w= .ok .recover w):(Code.seq (.region Uh #[o] false) y).wpS P Q a cs w:=by
 refine wpS_seq (wpS_region ?_);have e:(List.range (#[o]:Array Oper).size)=[0]:=rfl;rw[e];simp only[wpOpsS,List.getElem?_toArray,List.getElem?_cons_zero];rw[Nv hg,bg rfl,hr.eval,hrun];simp only;rcases hv with h | ⟨h,rfl,rfl⟩
 ·rw[h];simp only;rw[hd];exact k _ (hr.put d v hn)
 ·rw[h];simp only;rw[hd];exact k _ (hr.put d _ hn)
end
theorem Xy{z w:World}{L:List bl}{b:Nat}{x y k x0 y0 k0:Int}(h:Fit z (aD (pts b (.cells #[Z x0,Z y0,Z k0] 81)::L)) w) :
 CallsD Tryz.prog 87 #[.pointer (some ⟨b,0,none⟩)] (.panicking [{v:=.iface 171 (.agg #[Z x,Z y,Z k]),recovered:=false}]) w λe u' w'=>e= .returned (.tuple #[])/\u'= .panicking [{v:=.iface 171 (.agg #[Z x,Z y,Z k]),recovered:=true}]/\Fit z (aD (pts b (.cells #[Z x,Z y,Z k] 81)::L)) w':=by
 refine UD func87 rfl 12 rfl rfl [(0,pA b 0)] ⟨rfl,bR⟩ ?_;intro c0 cs j a hm hr;refine Zj (v:=.iface 171 (.agg #[Z x,Z y,Z k])) (cs':={c0 with mode:=.panicking [{v:=.iface 171 (.agg #[Z x,Z y,Z k]),recovered:=true}]}::cs) hr (.inl (by simp[recoverD,hm])) ?_ rfl rfl rfl aZ;clear hr a;intro a hr;refine wpS_of_wp ?_;refine wp_block ?_;refine sr ?_;refine o1 hr (vB false) λa hr => ?_;refine ln ?_;refine jw hr (b:=false) rfl ?_;refine sr ?_;refine oo [7,8,9] [.tuple #[.agg #[Z x,Z y,Z k],vB true],vB true,.agg #[Z x,Z y,Z k]] hr λa hr => ?_;refine ln ?_;refine fW hr (b:=true) rfl ?_;refine sr ?_;refine aan (wn rfl) hr h nb (#[Z 0,Z 0,Z 0]) 171 λb2 w a h hr => ?_;refine Xo (wn rfl) hr h 0 ([Z x,Z y,Z k]) (pts b2 (.cells #[Z x,Z y,Z k] 171)) λw h => ?_;refine ln ?_;refine wp_region_lit ?_;refine o1 hr (pA b2 0) λa hr => ?_;refine ldm (wn rfl) hr (.agg #[Z x,Z y,Z k]) (cs:=[Z x,Z y,Z k]) (h.held 0 rfl) λa hr => ?_;replace h:=h.m1;refine Xo (wn rfl) hr h 0 ([Z x,Z y,Z k]) (pts b (.cells #[Z x,Z y,Z k] 81)) λw h => ?_;refine wpList_nil ?_;refine Iu ?_;exact⟨hr.defers,_,rfl,_,results_none rfl _ _ _,rfl,rfl,h.se 2 [0]⟩
theorem Xz{w:World}{b:Nat} :
 CallsD Tryz.prog 87 #[.pointer (some ⟨b,0,none⟩)] .returning w λe u' w'=>e= .returned (.tuple #[])/\u'= .returning/\w'=w:=by
 refine UD func87 rfl 12 rfl rfl [(0,pA b 0)] ⟨rfl,bR⟩ ?_;intro c0 cs j a hm hr;refine Zj (v:=.nilIface) (cs':=c0::cs) hr (.inr ⟨by simp[recoverD,hm],rfl,rfl⟩) ?_ rfl rfl rfl aZ;clear hr a;intro a hr;refine wpS_of_wp ?_;refine wp_block ?_;refine sr ?_;refine o1 hr (vB true) λa hr => ?_;refine ln ?_;refine fW hr (b:=true) rfl ?_;refine wp_region_lit ?_;refine o1 hr (.nilIface) λa hr => ?_;refine wpList_nil ?_;refine Iu ?_;refine⟨hr.defers,c0.mode,rfl,_,results_none rfl _ _ _,rfl,hm,rfl⟩
section
variable {P:Program}{w z:World}{a:Act}{n:Nat}{e:Nat->Value}{Df:List Deferred}{L:List bl}
theorem abU{fn:Func}{t T b off:Nat}{cs:List Value}(hres:fn.results=#[.cell t T])(hr:cR Df n e a)(hv:e t= .pointer (some ⟨b,off,none⟩))(hu:vo (P.underlying T)=true)
 (hs:(P.info? T).map (·.size)=some cs.length) (hc:rT w b off cs):(results fn a.tmps).run P w= .ok (.agg cs.toArray) w:=by
 have hl:=run_loadCells_list (P:=P) w ⟨b,off,none⟩ cs (wK hc);cases hi:P.info? T with
 | none=>simp[hi]at hs
 | some q =>
  simp[hi]at hs;have hg:=hr.get t;rw[hv,w5]at hg;simp[results,hres,hg,asAddr,loadVar,uU hu,sizeOf,typeInfo,hi,hs,hl]
abbrev Nw(b:Nat):Deferred:={target:=.fn (.func 87) #[.pointer (some ⟨b,0,none⟩)],args:=#[]}
theorem Qy{b:Nat}{w:World}:(invoke (.fn (.func 87) #[.pointer (some ⟨b,0,none⟩)]) #[]).run Tryz.prog w= .ok (.enter 87 #[.pointer (some ⟨b,0,none⟩)]) w:=by kernel_rfl
theorem Bu{fn:Func}{R:Ending->World->Prop}{b t:Nat}{x y k:Int}(hr:cR [Nw b] n e a)(hres:fn.results=#[.cell t 81])(hv:e t= .pointer (some ⟨b,0,none⟩))(h:Fit z (aD (pts b (.cells #[Z x,Z y,Z k] 81)::L)) w)
 (K:R (.returned (.agg #[Z x,Z y,Z k])) w):bodyPostD Tryz.prog fn R .ret a w:=by
 show Leaves Tryz.prog fn a.tmps R a.defers .returning w;rw[hr.defers];refine leaves_cons (by simp) Qy ?_;refine Xz.mono ?_
 rintro e u' w' ⟨rfl,rfl,rfl⟩
 exact⟨_,abU hres hr hv aZ aZ (h.held 0 (xs:=[Z x,Z y,Z k]) rfl),K⟩
theorem IW{fn:Func}{R:Ending->World->Prop}{b t:Nat}{x y k x0 y0 k0:Int}(hr:cR [Nw b] n e a)(hres:fn.results=#[.cell t 81])(hv:e t= .pointer (some ⟨b,0,none⟩))(h:Fit z (aD (pts b (.cells #[Z x0,Z y0,Z k0] 81)::L)) w)
 (K:∀w,Fit z (aD (pts b (.cells #[Z x,Z y,Z k] 81)::L)) w->R (.returned (.agg #[Z x,Z y,Z k])) w):bodyPostD Tryz.prog fn R (.panic [{v:=.iface 171 (.agg #[Z x,Z y,Z k]),recovered:=false}]) a w:=by
 show Leaves Tryz.prog fn a.tmps R a.defers (.panicking [{v:=.iface 171 (.agg #[Z x,Z y,Z k]),recovered:=false}]) w;rw[hr.defers];refine leaves_cons (by simp) Qy ?_;refine(Xy h).mono ?_
 rintro e u' w' ⟨rfl,rfl,h⟩
 exact⟨_,abU hres hr hv aZ aZ (h.held 0 (xs:=[Z x,Z y,Z k]) rfl),K _ h⟩
end
def dn(o:Oper):Nat:=o.dst.getD 0
def EL(o:Oper)(n:Nat):Bool:=match o.dst with | some d=>o.guard.isNone&&Nat.blt d n | none=>false
def okg(o:Oper)(n:Nat):Bool:=match o.dst with | some d=>Nat.blt d n | none=>false
theorem Qz{o:Oper}{n:Nat}(h:okg o n=true):o.dst=some (dn o)/\Nat.blt (dn o) n=true:=by
 unfold okg at h;unfold dn;cases hd:o.dst with
 | none=>rw[hd]at h;cases h
 | some d=>rw[hd]at h;exact⟨rfl,h⟩
theorem jS{o:Oper}{n:Nat}(h:EL o n=true):(o.dst=some (dn o)/\Nat.blt (dn o) n=true)/\o.guard=none:=by
 unfold EL at h;unfold dn;cases hd:o.dst with
 | none=>rw[hd]at h;cases h
 | some d =>
  rw[hd]at h;simp only[mI]at h;refine⟨⟨rfl,h.2⟩,?_⟩;cases hg:o.guard with
  | none=>rfl
  | some g=>rw[hg]at h;simp at h
def XA:Nat->List Value->List (Nat×Value)
 | _,[]=>[]
 | k,v::vs=>(k,v)::XA (k+1) vs
theorem QA(f:Nat->Value):∀(vs:List Value) (k:Nat),(∀i,i<vs.length->f (k+i)=vs.getD i undef)->allEq f (XA k vs)
 | [],_,_=>trivial
 | v::vs,k,h=>⟨by have:=h 0 (by simp);simpa using this,QA f vs (k+1) λi hi=>by
  have:=h (i+1) (by simpa using hi);rw[show k+(i+1)=k+1+i by omega]at this
  simpa using this⟩
section
variable {P:Program}{ops:Array Oper}{Q:Exit->Act->World->Prop}{a:Act}{w w0 w1:World}{rest:List Oper}{o:Oper}{n d t T:Nat}{v u:Value}{l:List (Nat×Value)}{j e:Nat->Value}{L:List bl}{Df:List Deferred}
theorem qe{f:FuncId}{fn:Func}{c:Code}{args:Array Value}{R:Ending->World->Prop}(hf:P.funcs[f]? = some fn)(n:Nat)(hb:fn.body=some c)
 (k:∀j a,jY n (lk (XA 0 args.toList) j) a->c.wp P (bodyPost P fn R) a w) (hn:fn.ntmps=n:=by rfl) (hs:Nat.ble args.size n=true:=by rfl):Calls P f args w R:=
 enter hf hb n hn hs _ (QA _ _ 0 λi hi=>by simp[w5,List.getD_eq_getElem?_getD]) k
theorem qo(hr:cR Df n (lk l j) a)(v:Value)(k:∀a,cR Df n (lk ((dn o,v)::l) j) a->wpList P ops Q rest a w)(ho:EL o n=true:=by rfl)(hrun:(execOp (eO (lk l j)) o).run P w= .ok (.value v) w:=by kernel_rfl):wpList P ops Q (o::rest) a w:=
 Bp (wn (jS ho).2) (jS ho).1.1 (jS ho).1.2 hr hrun k
theorem qp(hr:cR Df n (lk l j) a)(v:Value)(hrun:(execOp (eO (lk l j)) o).run P w= .ok (.value v) w)(k:∀a,cR Df n (lk ((dn o,v)::l) j) a->wpList P ops Q rest a w)(ho:EL o n=true:=by rfl):wpList P ops Q (o::rest) a w:=
 Bp (wn (jS ho).2) (jS ho).1.1 (jS ho).1.2 hr hrun k
theorem qpg(hw:vM o ops a)(hr:cR Df n (lk l j) a)(v:Value)(hrun:(execOp (eO (lk l j)) o).run P w= .ok (.value v) w)(k:∀a,cR Df n (lk ((dn o,v)::l) j) a->wpList P ops Q rest a w)(ho:okg o n=true:=by rfl):wpList P ops Q (o::rest) a w:=
 Bp hw (Qz ho).1 (Qz ho).2 hr hrun k
theorem qT{b:Bool}{c x y:Operand}(hb:b=true)(hr:cR Df n (lk l j) a)(v:Value)(k:∀a,cR Df n (lk ((dn o,v)::l) j) a->wpList P ops Q rest a w)(ho:EL o n=true:=by rfl)(h1:o.op= .pick c x y:=by rfl)(h2:eO (lk l j) c= .bool b:=by kernel_rfl)(h3:eO (lk l j) x=v:=by kernel_rfl):wpList P ops Q (o::rest) a w:=
 qp hr v (G8 h1 h2 hb h3) k ho
theorem qF{b:Bool}{c x y:Operand}(hb:b=false)(hr:cR Df n (lk l j) a)(v:Value)(k:∀a,cR Df n (lk ((dn o,v)::l) j) a->wpList P ops Q rest a w)(ho:EL o n=true:=by rfl)(h1:o.op= .pick c x y:=by rfl)(h2:eO (lk l j) c= .bool b:=by kernel_rfl)(h3:eO (lk l j) y=v:=by kernel_rfl):wpList P ops Q (o::rest) a w:=
 qp hr v (It h1 h2 hb h3) k ho
theorem getD_some{cs:Array Value}{i:Nat}(h:Nat.blt i cs.size=true):cs[i]? = some (cs.getD i undef):=by
 have h':i<cs.size:=qx h;simp[w5,h']
theorem qL{b:Nat}{cs:Array Value}{T':TypeId}{q:Nat×Nat}{x:Operand}(hr:cR Df n (lk l j) a)(hF:Fit w0 (aD (pts b (.cells cs T' q)::L)) w)(i:Nat)(k:∀a,cR Df n (lk ((dn o,cs.getD i undef)::l) j) a->wpList P ops Q rest a w)
 (h1:EL o n=true:=by rfl) (hi:Nat.blt i cs.size=true:=by rfl) (ho:o.op= .load T x:=by rfl) (hx:eO (lk l j) x= .pointer (some ⟨b,i,none⟩):=by kernel_rfl) (hu:yD (P.underlying T)=true:=by kernel_rfl):wpList P ops Q (o::rest) a w:=
 qp hr _ (rl ho hx hu (hF.cell i (getD_some hi))) k h1
theorem qLg{b:Nat}{cs:Array Value}{T':TypeId}{q:Nat×Nat}{x:Operand}(hw:vM o ops a)(hr:cR Df n (lk l j) a)(hF:Fit w0 (aD (pts b (.cells cs T' q)::L)) w)(i:Nat)(k:∀a,cR Df n (lk ((dn o,cs.getD i undef)::l) j) a->wpList P ops Q rest a w)
 (h1:okg o n=true:=by rfl) (hi:Nat.blt i cs.size=true:=by rfl) (ho:o.op= .load T x:=by rfl) (hx:eO (lk l j) x= .pointer (some ⟨b,i,none⟩):=by kernel_rfl) (hu:yD (P.underlying T)=true:=by kernel_rfl):wpList P ops Q (o::rest) a w:=
 qpg hw hr _ (rl ho hx hu (hF.cell i (getD_some hi))) k h1
theorem Ny{cs:Array Value}:(cs.toList.drop 0).take cs.toList.length=cs.toList:=by rw[nS];exact List.take_length
theorem qM{b:Nat}{cs:Array Value}{T':TypeId}{q:Nat×Nat}{x:Operand}(hr:cR Df n (lk l j) a)(hF:Fit w0 (aD (pts b (.cells cs T' q)::L)) w)(k:∀a,cR Df n (lk ((dn o,.agg cs)::l) j) a->wpList P ops Q rest a w)
 (h1:EL o n=true:=by rfl) (ho:o.op= .load T x:=by rfl) (hx:eO (lk l j) x= .pointer (some ⟨b,0,none⟩):=by kernel_rfl) (hu:vo (P.underlying T)=true:=by kernel_rfl) (hs:(P.info? T).map (·.size)=some cs.size:=by kernel_rfl):wpList P ops Q (o::rest) a w:=
 qp hr _ (by have:=rlm (P:=P) (o:=o) (e:=lk l j) ho hx hu (by rw[vP];exact hs) (hF.held 0 Ny);simpa using this) k h1
theorem qN(hr:cR Df n (lk l j) a)(hF:Fit w0 (aD L) w)(cs:Array Value)(T:TypeId)
 (k:∀b w1 a,Fit w0 (aD (pts b (.cells cs T)::L)) w1->cR Df n (lk ((dn o,pA b 0)::l) j) a->wpList P ops Q rest a w1) (h1:EL o n=true:=by rfl) (hrun:(execOp (eO (lk l j)) o).run P w= .ok (.value (pA w.heap.size 0)) (w.alloc (.cells cs T)):=by kernel_rfl):wpList P ops Q (o::rest) a w:=
 OZ (vf:=λb=>pA b 0) (wn (jS h1).2) (jS h1).1.1 (jS h1).1.2 hr hF hrun k
theorem qV(hr:cR Df n (lk l j) a)(hF:Fit w0 (aD L) w)(cs:Array Value)(T:TypeId)
 (k:∀b w1 a,Fit w0 (aD (pts b (.cells cs T)::L)) w1->cR Df n (lk ((dn o,.slice (some ⟨b,0,none⟩) 1 1)::l) j) a->wpList P ops Q rest a w1) (h1:EL o n=true:=by rfl) (hrun:(execOp (eO (lk l j)) o).run P w= .ok (.value (.slice (some ⟨w.heap.size,0,none⟩) 1 1)) (w.alloc (.cells cs T)):=by kernel_rfl):wpList P ops Q (o::rest) a w:=
 OZ (vf:=λb=>.slice (some ⟨b,0,none⟩) 1 1) (wn (jS h1).2) (jS h1).1.1 (jS h1).1.2 hr hF hrun k
theorem qS{x y:Operand}{b:Nat}{cs:Array Value}{T':TypeId}(hr:cR Df n (lk l j) a)(hF:Fit w0 (aD (pts b (.cells cs T')::L)) w)(i:Nat)(A:bl)
 (k:∀w1,Fit w0 (aD (A::L)) w1->wpList P ops Q rest a w1) (hg:o.guard=none:=by rfl) (hd:o.dst=none:=by rfl) (ho:o.op= .store T x y:=by rfl) (hx:eO (lk l j) x= .pointer (some ⟨b,i,none⟩):=by kernel_rfl)
 (hv:(eO (lk l j) y).cells=#[eO (lk l j) y]:=by kernel_rfl) (h1:(eO (lk l j) y).oneCell'=true:=by kernel_rfl) (hs:(P.info? T).map (·.size)=some 1:=by kernel_rfl) (hc:(cs[i]?).isSome=true:=by kernel_rfl) (hA:pts b (.cells (cs.setIfInBounds i (eO (lk l j) y)) T')=A:=by kernel_rfl):wpList P ops Q (o::rest) a w:=
 st1 (wn hg) hr hF i _ A k hd ho hx rfl hv h1 hs hc hA
theorem qA{x y:Operand}{b:Nat}{cs cs':Array Value}{T':TypeId}(hr:cR Df n (lk l j) a)(hF:Fit w0 (aD (pts b (.cells cs T')::L)) w)(A:bl)
 (k:∀w1,Fit w0 (aD (A::L)) w1->wpList P ops Q rest a w1) (hA:pts b (.cells cs' T')=A:=by rfl) (hg:o.guard=none:=by rfl) (hd:o.dst=none:=by rfl) (ho:o.op= .store T x y:=by rfl) (hx:eO (lk l j) x= .pointer (some ⟨b,0,none⟩):=by kernel_rfl) (hy:eO (lk l j) y= .agg cs':=by kernel_rfl)
 (h1:cs'.toList.all (·.oneCell')=true:=by rfl) (h2:cs'.size=cs.size:=by rfl) (hs:(P.info? T).map (·.size)=some cs'.size:=by kernel_rfl):wpList P ops Q (o::rest) a w:=by
 refine Xo (wn hg) hr hF 0 cs'.toList A k hd ho hx (by simpa using hy) h1 (by simp[h2]) (by simpa using hs) ?_;subst hA;have:cs.toList.drop (0+cs'.toList.length)=[]:=by simp[h2]
 rw[this];simp
theorem qi{x y:Operand}{i:Int}{α:Type}{E:TypeId}{sz m cc:Nat}{enc:α->List Value}{xs:List α}{ca:fB}(hr:cR Df n (lk l j) a)(hF:Fit w0 (aD (rowOf E sz enc (.slice ca m cc) xs::L)) w)(hi:bJ i xs.length)
 (k:∀a,cR Df n (lk ((dn o,pA (dJ ca) (i.toNat*sz))::l) j) a->wpList P ops Q rest a w) (h1:EL o n=true:=by rfl) (ho:o.op= .indexAddr t x y:=by rfl) (hx:eO (lk l j) x= .slice ca m cc:=by kernel_rfl) (hy:eO (lk l j) y= .int .i64 i:=by kernel_rfl)
 (ht:P.underlying t=some (.slice E):=by kernel_rfl) (hs:(P.info? E).map (·.size)=some sz:=by kernel_rfl):wpList P ops Q (o::rest) a w:=qp hr _ (Bs ho hx hy ht hs hF hi) k h1
theorem qj{x y:Operand}{i:Int}{α:Type}[Inhabited α]{sz:Nat}{enc:α->List Value}{xs:List α}{va:fB}{L:List bl}(E:TypeId)(cc:Nat)(hr:cR Df n (lk l j) a)(hF:bI L sz enc va xs)(hi:bJ i xs.length)
 (k:∀a,cR Df n (lk ((dn o,pA (dJ va) (jf va+i.toNat*sz))::l) j) a->wpList P ops Q rest a w) (h1:EL o n=true:=by rfl) (ho:o.op= .indexAddr t x y:=by rfl) (hx:eO (lk l j) x= .slice va xs.length cc:=by kernel_rfl) (hy:eO (lk l j) y= .int .i64 i:=by kernel_rfl)
 (ht:P.underlying t=some (.slice E):=by kernel_rfl) (hs:(P.info? E).map (·.size)=some sz:=by kernel_rfl):wpList P ops Q (o::rest) a w:=qp hr _ (Zb ho hx hy rfl ht hs hF hi) k h1
section
variable {fn:Func}{R:Ending->World->Prop}
theorem qC{t T b:Nat}{cs:Array Value}{T':TypeId}{q:Nat×Nat}(hr:jY n e a)(hF:Fit w0 (aD (pts b (.cells cs T' q)::L)) w)(h:R (.returned (.agg cs)) w)(hres:fn.results=#[.cell t T]:=by rfl)(hv:e t= .pointer (some ⟨b,0,none⟩):=by kernel_rfl)(hu:vo (P.underlying T)=true:=by kernel_rfl)
 (hs:(P.info? T).map (·.size)=some cs.size:=by kernel_rfl):bodyPost P fn R .ret a w:=
 T8 (cs:=cs.toList) hres hr hv hu (by simpa using hs) (hF.held 0 Ny) (by simpa using h)
theorem qn(hr:jY n e a)(h:R (.returned (.tuple #[])) w)(hres:fn.results=#[]:=by rfl):bodyPost P fn R .normal a w:=qO hres hr h
end
end
theorem nT{b:Bool}(h:b=true):(!b)=false:=by rw[h];rfl
theorem nF{b:Bool}(h:¬b=true):(!b)=true:=by cases b<;>first | rfl | exact absurd rfl h
theorem dT{p:Prop}[Decidable p](h:p):decide p=true:=uT h
theorem dF{p:Prop}[Decidable p](h:¬p):decide p=false:=Il h
theorem bN{α:Type}[DecidableEq α]{a b:α}(h:¬a=b):(a==b)=false:=beq_eq_false_iff_ne.mpr h
section
variable {agc:Prop}
theorem qh{A:Prop}(x:A)(k:A->agc):agc:=k x
theorem qg{γ:Type}{p:Prop}[Decidable p]{x:Option γ}{r:γ}(h:(if p then x else none)=some r)(k:p->x=some r->agc):agc:=k (gd h).1 (gd h).2
theorem qI{γ:Type}{p:Prop}[Decidable p]{x y:Option γ}{r:γ}(h:(if p then x else y)=some r)(k1:p->x=some r->agc)(k2:¬p->y=some r->agc):agc:=by
 by_cases c:p
 ·exact k1 c (ifT c h)
 ·exact k2 c (ifF c h)
theorem qb0{γ:Type}{o:Option (Unit)}{f:Option γ}{r:γ}(h:Qr o f=some r)(k:o=some ()->f=some r->agc):agc:=by
 obtain⟨e,h⟩:=bd0 h;exact k e h
theorem qd0{γ:Type}{o:Option (Unit)}{f:Option γ}{r:γ}(h:Qr o f=some r)(k:∀o',o=some o'->kc0 o' f r->agc):agc:=by
 obtain⟨_,e,h⟩:=kd0 h;exact k _ e h
theorem fP{k8:Type}{γ:Type}{o:Option (k8)}{f:k8->Option γ}{r:γ}(h:dX o f=some r)(k:∀x0,o=some x0->f x0=some r->agc):agc:=by
 obtain⟨x0,e,h⟩:=bd1 h;exact k _ e h
theorem EM{k8:Type}{γ:Type}{o:Option (k8)}{f:k8->Option γ}{r:γ}(h:dX o f=some r)(k:∀o',o=some o'->kc1 o' f r->agc):agc:=by
 obtain⟨_,e,h⟩:=kd1 h;exact k _ e h
theorem xT{k8 qw:Type}{γ:Type}{o:Option (k8×qw)}{f:k8->qw->Option γ}{r:γ}(h:uE o f=some r)(k:∀x0 x1,o=some (x0,x1)->f x0 x1=some r->agc):agc:=by
 obtain⟨x0,x1,e,h⟩:=bd2 h;exact k _ _ e h
theorem qd2{k8 qw:Type}{γ:Type}{o:Option (k8×qw)}{f:k8->qw->Option γ}{r:γ}(h:uE o f=some r)(k:∀o',o=some o'->kc2 o' f r->agc):agc:=by
 obtain⟨_,e,h⟩:=kd2 h;exact k _ e h
theorem vg{k8 qw yd:Type}{γ:Type}{o:Option (k8×qw×yd)}{f:k8->qw->yd->Option γ}{r:γ}(h:rN o f=some r)(k:∀x0 x1 x2,o=some (x0,x1,x2)->f x0 x1 x2=some r->agc):agc:=by
 obtain⟨x0,x1,x2,e,h⟩:=bd3 h;exact k _ _ _ e h
theorem qd3{k8 qw yd:Type}{γ:Type}{o:Option (k8×qw×yd)}{f:k8->qw->yd->Option γ}{r:γ}(h:rN o f=some r)(k:∀o',o=some o'->kc3 o' f r->agc):agc:=by
 obtain⟨_,e,h⟩:=kd3 h;exact k _ e h
theorem O8{k8 qw yd G9:Type}{γ:Type}{o:Option (k8×qw×yd×G9)}{f:k8->qw->yd->G9->Option γ}{r:γ}(h:Lp o f=some r)(k:∀x0 x1 x2 x3,o=some (x0,x1,x2,x3)->f x0 x1 x2 x3=some r->agc):agc:=by
 obtain⟨x0,x1,x2,x3,e,h⟩:=bd4 h;exact k _ _ _ _ e h
theorem qb5{k8 qw yd G9 R6:Type}{γ:Type}{o:Option (k8×qw×yd×G9×R6)}{f:k8->qw->yd->G9->R6->Option γ}{r:γ}(h:ob5 o f=some r)(k:∀x0 x1 x2 x3 x4,o=some (x0,x1,x2,x3,x4)->f x0 x1 x2 x3 x4=some r->agc):agc:=by
 obtain⟨x0,x1,x2,x3,x4,e,h⟩:=bd5 h;exact k _ _ _ _ _ e h
end
abbrev KK(D:List Deferred)(n:Nat)(l:List (Nat×Value))(j:Nat->Value)(X:Act->World->Prop)(w:World):Prop:=∀a,cR D n (lk l j) a->X a w
abbrev U:Value:=.complex .f32 0 0
def sel(v x:Value):Value:=match v with | .complex _ _ _=>x | v=>v
def av(P:Program)(o:Oper)(e:Nat->Value):Value:=match (execOp (eO e) o).run P default with | .ok (.value v) _=>v | _=>U
def adA(P:Program)(j:Nat->Value):List Oper->List Value->List (Nat×Value)->List (Nat×Value)
 | o::os,v::vs,l=>adA P j os vs ((dn o,sel v (av P o (lk l j)))::l)
 | _,_,l=>l
def chA(P:Program)(n:Nat)(j:Nat->Value)(w:World):List Oper->List Value->List (Nat×Value)->List (Bool×Result Next)
 | o::os,v::vs,l=>(EL o n,(execOp (eO (lk l j)) o).run P w)::chA P n j w os vs ((dn o,sel v (av P o (lk l j)))::l)
 | [],_::_,_=>[(false,.ok .skip w)]
 | _,[],_=>[]
def wnA(P:Program)(j:Nat->Value)(w:World):List Oper->List Value->List (Nat×Value)->List (Bool×Result Next)
 | o::os,v::vs,l=>(true,.ok (.value (sel v (av P o (lk l j)))) w)::wnA P j w os vs ((dn o,sel v (av P o (lk l j)))::l)
 | [],_::_,_=>[(true,.ok .skip w)]
 | _,[],_=>[]
def gx(ops:Array Oper)(n:Nat)(e:Nat->Value)(o:Oper):Option (Bool×Option (Bool×Value)):=o.guard.map (λg=>(g.2,((ops[g.1]?).bind (·.dst)).map λt=>(Nat.blt t n,e t)))
section
variable {P:Program}{ops:Array Oper}{Q:Exit->Act->World->Prop}{a:Act}{w w0 w1:World}{rest:List Oper}{o:Oper}{n d t T:Nat}{v u:Value}{l:List (Nat×Value)}{j e:Nat->Value}{L:List bl}{Df:List Deferred}{X:Act->World->Prop}
theorem qq(hr:cR Df n (lk l j) a)(k:KK Df n l j X w):X a w:=k a hr
theorem kwg{x c:Bool}(hr:cR Df n (lk l j) a)(pf:x=c)(hg:gx ops n (lk l j) o=some (c,some (true,.bool x))):Region.wanted o (yielded ops a.tmps)=true:=by
 rw[wgx (i:=0) hr pf hg];cases c<;>rfl
theorem ke{f:FuncId}{fn:Func}{c:Code}{args:Array Value}{R:Ending->World->Prop}(hf:P.funcs[f]? = some fn)(n:Nat)(hb:fn.body=some c)
 (k:∀j,KK [] n (XA 0 args.toList) j (c.wp P (bodyPost P fn R)) w) (hn:fn.ntmps=n:=by rfl) (hs:Nat.ble args.size n=true:=by rfl):Calls P f args w R:=qe hf n hb (λj a r=>k j a r) hn hs
theorem ks{Uh:Nat}{y:Code}{os:List Oper}(h:KK Df n l j (wpList P os.toArray (Exit.then (y.wp P Q) Q) os) w):KK Df n l j ((Code.seq (.region Uh os.toArray false) y).wp P Q) w:=λa r=>sr (h a r)
theorem G{K:Act->World->Prop}(h:KK Df n l j K w):KK Df n l j (wpList P ops (Exit.then K Q) []) w:=λa r=>ln (h a r)
theorem wq{x y:Code}(h:KK Df n l j (x.wp P (Exit.then (y.wp P Q) Q)) w):KK Df n l j ((Code.seq x y).wp P Q) w:=λa r=>wp_seq (h a r)
theorem wl{Uh:Nat}{os:List Oper}(h:KK Df n l j (wpList P os.toArray Q os) w):KK Df n l j ((Code.region Uh os.toArray false).wp P Q) w:=λa r=>wp_region_lit (h a r)
theorem wk(h:KK Df n l j (Q .normal) w):KK Df n l j (Code.skip.wp P Q) w:=λa r=>wp_skip (h a r)
theorem wr(h:KK Df n l j (Q .ret) w):KK Df n l j (Code.ret.wp P Q) w:=λa r=>wp_ret (h a r)
theorem wx{i:Nat}(h:KK Df n l j (Q (.exit i)) w):KK Df n l j ((Code.exit i).wp P Q) w:=λa r=>wp_exit (h a r)
theorem wb{i:Nat}{c:Code}(h:KK Df n l j (c.wp P (Exit.inBlock i Q)) w):KK Df n l j ((Code.block i c).wp P Q) w:=λa r=>wp_block (h a r)
theorem tn{K:Act->World->Prop}(h:KK Df n l j K w):KK Df n l j (Exit.then K Q .normal) w:=h
theorem tr{K:Act->World->Prop}(h:KK Df n l j (Q .ret) w):KK Df n l j (Exit.then K Q .ret) w:=h
theorem te{K:Act->World->Prop}{i:Nat}(h:KK Df n l j (Q (.exit i)) w):KK Df n l j (Exit.then K Q (.exit i)) w:=h
theorem bn{i:Nat}(h:KK Df n l j (Q .normal) w):KK Df n l j (Exit.inBlock i Q .normal) w:=h
theorem br{i:Nat}(h:KK Df n l j (Q .ret) w):KK Df n l j (Exit.inBlock i Q .ret) w:=h
theorem bh{i:Nat}(h:KK Df n l j (Q .normal) w):KK Df n l j (Exit.inBlock i Q (.exit i)) w:=λa r=>T7 (h a r)
theorem kl(h:KK Df n l j (Q .normal) w):KK Df n l j (wpList P ops Q []) w:=λa r=>wpList_nil (h a r)
theorem ko:∀(vs:List Value) {os:List Oper} {l:List (Nat×Value)} (k:KK Df n (adA P j os vs l) j (wpList P ops Q (os.drop vs.length)) w) (hrun:chA P n j w os vs l=wnA P j w os vs l:=by kernel_rfl),KK Df n l j (wpList P ops Q os) w
 | [],os,l,k,_=>by cases os<;>exact k
 | v::vs,[],l,k,hrun=>by simp[chA,wnA]at hrun
 | v::vs,o::os,l,k,hrun=>by
  simp only[chA,wnA,List.cons.injEq,Prod.mk.injEq]at hrun;obtain⟨⟨h1,h2⟩,h3⟩:=hrun;exact λa hr=>qo hr _ (λa hr=>ko vs k h3 a hr) h1 h2
theorem kp(v:Value)(hrun:(execOp (eO (lk l j)) o).run P w= .ok (.value v) w)(k:KK Df n ((dn o,v)::l) j (wpList P ops Q rest) w)(ho:EL o n=true:=by rfl):KK Df n l j (wpList P ops Q (o::rest)) w:=λa hr=>qp hr v hrun k ho
theorem oJ{b:Bool}(hb:b=true)(v:Value)(k:KK Df n ((dn o,v)::l) j (wpList P ops Q rest) w){c x y:Operand}(ho:EL o n=true:=by rfl)(h1:o.op= .pick c x y:=by rfl)(h2:eO (lk l j) c= .bool b:=by kernel_rfl)(h3:eO (lk l j) x=v:=by kernel_rfl):KK Df n l j (wpList P ops Q (o::rest)) w:=λa hr=>qT hb hr v k ho h1 h2 h3
theorem oz{b:Bool}(hb:b=false)(v:Value)(k:KK Df n ((dn o,v)::l) j (wpList P ops Q rest) w){c x y:Operand}(ho:EL o n=true:=by rfl)(h1:o.op= .pick c x y:=by rfl)(h2:eO (lk l j) c= .bool b:=by kernel_rfl)(h3:eO (lk l j) y=v:=by kernel_rfl):KK Df n l j (wpList P ops Q (o::rest)) w:=λa hr=>qF hb hr v k ho h1 h2 h3
theorem kL{b:Nat}{cs:Array Value}{T':TypeId}{q:Nat×Nat}{x:Operand}(hF:Fit w0 (aD (pts b (.cells cs T' q)::L)) w)(i:Nat)(k:KK Df n ((dn o,cs.getD i undef)::l) j (wpList P ops Q rest) w)
 (h1:EL o n=true:=by rfl) (hi:Nat.blt i cs.size=true:=by rfl) (ho:o.op= .load T x:=by rfl) (hx:eO (lk l j) x= .pointer (some ⟨b,i,none⟩):=by kernel_rfl) (hu:yD (P.underlying T)=true:=by kernel_rfl):KK Df n l j (wpList P ops Q (o::rest)) w:=λa hr=>qL hr hF i k h1 hi ho hx hu
theorem vz{c' x':Bool}{b:Nat}{cs:Array Value}{T':TypeId}{q:Nat×Nat}{x:Operand}(pf:x'=c')(hF:Fit w0 (aD (pts b (.cells cs T' q)::L)) w)(i:Nat)(k:KK Df n ((dn o,cs.getD i undef)::l) j (wpList P ops Q rest) w)
 (hg:gx ops n (lk l j) o=some (c',some (true,.bool x')):=by kernel_rfl) (h1:okg o n=true:=by rfl) (hi:Nat.blt i cs.size=true:=by rfl) (ho:o.op= .load T x:=by rfl) (hx:eO (lk l j) x= .pointer (some ⟨b,i,none⟩):=by kernel_rfl) (hu:yD (P.underlying T)=true:=by kernel_rfl):KK Df n l j (wpList P ops Q (o::rest)) w:=λa hr=>qLg (kwg hr pf hg) hr hF i k h1 hi ho hx hu
theorem kM{b:Nat}{cs:Array Value}{T':TypeId}{q:Nat×Nat}{x:Operand}(hF:Fit w0 (aD (pts b (.cells cs T' q)::L)) w)(k:KK Df n ((dn o,.agg cs)::l) j (wpList P ops Q rest) w)
 (h1:EL o n=true:=by rfl) (ho:o.op= .load T x:=by rfl) (hx:eO (lk l j) x= .pointer (some ⟨b,0,none⟩):=by kernel_rfl) (hu:vo (P.underlying T)=true:=by kernel_rfl) (hs:(P.info? T).map (·.size)=some cs.size:=by kernel_rfl):KK Df n l j (wpList P ops Q (o::rest)) w:=λa hr=>qM hr hF k h1 ho hx hu hs
theorem kN(hF:Fit w0 (aD L) w)(cs:Array Value)(T:TypeId)
 (k:∀b w1,Fit w0 (aD (pts b (.cells cs T)::L)) w1->KK Df n ((dn o,pA b 0)::l) j (wpList P ops Q rest) w1) (h1:EL o n=true:=by rfl) (hrun:(execOp (eO (lk l j)) o).run P w= .ok (.value (pA w.heap.size 0)) (w.alloc (.cells cs T)):=by kernel_rfl):KK Df n l j (wpList P ops Q (o::rest)) w:=λa hr=>qN hr hF cs T (λb w a h r=>k b w h a r) h1 hrun
theorem kV(hF:Fit w0 (aD L) w)(cs:Array Value)(T:TypeId)
 (k:∀b w1,Fit w0 (aD (pts b (.cells cs T)::L)) w1->KK Df n ((dn o,.slice (some ⟨b,0,none⟩) 1 1)::l) j (wpList P ops Q rest) w1) (h1:EL o n=true:=by rfl) (hrun:(execOp (eO (lk l j)) o).run P w= .ok (.value (.slice (some ⟨w.heap.size,0,none⟩) 1 1)) (w.alloc (.cells cs T)):=by kernel_rfl):KK Df n l j (wpList P ops Q (o::rest)) w:=λa hr=>qV hr hF cs T (λb w a h r=>k b w h a r) h1 hrun
theorem kS{x y:Operand}{b:Nat}{cs:Array Value}{T':TypeId}(hF:Fit w0 (aD (pts b (.cells cs T')::L)) w)(i:Nat)(A:bl)
 (k:∀w1,Fit w0 (aD (A::L)) w1->KK Df n l j (wpList P ops Q rest) w1) (hg:o.guard=none:=by rfl) (hd:o.dst=none:=by rfl) (ho:o.op= .store T x y:=by rfl) (hx:eO (lk l j) x= .pointer (some ⟨b,i,none⟩):=by kernel_rfl)
 (hv:(eO (lk l j) y).cells=#[eO (lk l j) y]:=by kernel_rfl) (h1:(eO (lk l j) y).oneCell'=true:=by kernel_rfl) (hs:(P.info? T).map (·.size)=some 1:=by kernel_rfl) (hc:(cs[i]?).isSome=true:=by kernel_rfl) (hA:pts b (.cells (cs.setIfInBounds i (eO (lk l j) y)) T')=A:=by kernel_rfl):KK Df n l j (wpList P ops Q (o::rest)) w:=λa hr=>qS hr hF i A (λw h=>k w h a hr) hg hd ho hx hv h1 hs hc hA
theorem kA{x y:Operand}{b:Nat}{cs cs':Array Value}{T':TypeId}(hF:Fit w0 (aD (pts b (.cells cs T')::L)) w)(A:bl)
 (k:∀w1,Fit w0 (aD (A::L)) w1->KK Df n l j (wpList P ops Q rest) w1) (hA:pts b (.cells cs' T')=A:=by rfl) (hg:o.guard=none:=by rfl) (hd:o.dst=none:=by rfl) (ho:o.op= .store T x y:=by rfl) (hx:eO (lk l j) x= .pointer (some ⟨b,0,none⟩):=by kernel_rfl) (hy:eO (lk l j) y= .agg cs':=by kernel_rfl)
 (h1:cs'.toList.all (·.oneCell')=true:=by rfl) (h2:cs'.size=cs.size:=by rfl) (hs:(P.info? T).map (·.size)=some cs'.size:=by kernel_rfl):KK Df n l j (wpList P ops Q (o::rest)) w:=λa hr=>qA hr hF A (λw h=>k w h a hr) hA hg hd ho hx hy h1 h2 hs
theorem ki{x y:Operand}{i:Int}{α:Type}{E:TypeId}{sz m cc:Nat}{enc:α->List Value}{xs:List α}{ca:fB}(hF:Fit w0 (aD (rowOf E sz enc (.slice ca m cc) xs::L)) w)(hi:bJ i xs.length)
 (k:KK Df n ((dn o,pA (dJ ca) (i.toNat*sz))::l) j (wpList P ops Q rest) w) (h1:EL o n=true:=by rfl) (ho:o.op= .indexAddr t x y:=by rfl) (hx:eO (lk l j) x= .slice ca m cc:=by kernel_rfl) (hy:eO (lk l j) y= .int .i64 i:=by kernel_rfl)
 (ht:P.underlying t=some (.slice E):=by kernel_rfl) (hs:(P.info? E).map (·.size)=some sz:=by kernel_rfl):KK Df n l j (wpList P ops Q (o::rest)) w:=λa hr=>qi hr hF hi k h1 ho hx hy ht hs
theorem kj{x y:Operand}{i:Int}{α:Type}[Inhabited α]{sz:Nat}{enc:α->List Value}{xs:List α}{va:fB}{L:List bl}(E:TypeId)(cc:Nat)(hF:bI L sz enc va xs)(hi:bJ i xs.length)
 (k:KK Df n ((dn o,pA (dJ va) (jf va+i.toNat*sz))::l) j (wpList P ops Q rest) w) (h1:EL o n=true:=by rfl) (ho:o.op= .indexAddr t x y:=by rfl) (hx:eO (lk l j) x= .slice va xs.length cc:=by kernel_rfl) (hy:eO (lk l j) y= .int .i64 i:=by kernel_rfl)
 (ht:P.underlying t=some (.slice E):=by kernel_rfl) (hs:(P.info? E).map (·.size)=some sz:=by kernel_rfl):KK Df n l j (wpList P ops Q (o::rest)) w:=λa hr=>qj E cc hr hF hi k h1 ho hx hy ht hs
theorem cT{x c:Bool}(pf:x=c)(ds:List Nat)(vs:List Value){os:List Oper}(k:KK Df n (Ue ds vs l) j (wpList P ops Q (os.drop ds.length)) w)
 (hl:ds.length=vs.length/\ds.all (λd=>Nat.blt d n)=true:=by exact⟨rfl,rfl⟩) (hrun:Ul P ops n (os.take ds.length) vs l j w=Nm x c ds vs w:=by kernel_rfl):KK Df n l j (wpList P ops Q os) w:=λa hr=>onl pf ds vs hr k hl hrun
theorem cg{x c:Bool}(pf:x=c)(ds:List Nat){os:List Oper}(k:KK Df n (Um ds l) j (wpList P ops Q (os.drop ds.length)) w)
 (hl:ds.all (λd=>Nat.blt d n)=true:=by rfl) (hrun:Lv ops n (os.take ds.length) l j=E6 (!c) (.bool x) ds:=by kernel_rfl):KK Df n l j (wpList P ops Q os) w:=λa hr=>abQ pf ds hr k hl hrun
theorem Nz(b:Bool)(ds:List Nat){os:List Oper}(k:KK Df n (Um ds l) j (wpList P ops Q (os.drop ds.length)) w)
 (hl:ds.all (λd=>Nat.blt d n)=true:=by rfl) (hrun:Lv ops n (os.take ds.length) l j=E6 b undef ds:=by kernel_rfl):KK Df n l j (wpList P ops Q os) w:=λa hr=>abR b ds hr k hl hrun
section
variable {β:Type}{p:Prop}[Decidable p]{X aga r:Option β}{c:Operand}{x y:Code}
theorem dK(H:(if p then X else aga)=r)(k1:p->X=r->KK Df n l j (x.wp P Q) w)(k2:¬p->aga=r->KK Df n l j (y.wp P Q) w)(hc:eO (lk l j) c= .bool (decide p):=by kernel_rfl):KK Df n l j ((Code.cond c x y).wp P Q) w:=λa hr=>cD hr H (λc h=>k1 c h a hr) (λc h=>k2 c h a hr) hc
theorem rV(H:(if p then X else aga)=r)(k1:p->X=r->KK Df n l j (y.wp P Q) w)(k2:¬p->aga=r->KK Df n l j (x.wp P Q) w)(hc:eO (lk l j) c= .bool (!decide p):=by kernel_rfl):KK Df n l j ((Code.cond c x y).wp P Q) w:=λa hr=>cN hr H (λc h=>k1 c h a hr) (λc h=>k2 c h a hr) hc
theorem EN{b:Bool}(H:(if b=true then X else aga)=r)(k1:b=true->X=r->KK Df n l j (x.wp P Q) w)(k2:¬b=true->aga=r->KK Df n l j (y.wp P Q) w)(hc:eO (lk l j) c= .bool b:=by kernel_rfl):KK Df n l j ((Code.cond c x y).wp P Q) w:=λa hr=>cV hr H (λc h=>k1 c h a hr) (λc h=>k2 c h a hr) hc
theorem FZ{b:Bool}(H:(if b=true then X else aga)=r)(k1:b=true->X=r->KK Df n l j (y.wp P Q) w)(k2:¬b=true->aga=r->KK Df n l j (x.wp P Q) w)(hc:eO (lk l j) c= .bool (!b):=by kernel_rfl):KK Df n l j ((Code.cond c x y).wp P Q) w:=λa hr=>cM hr H (λc h=>k1 c h a hr) (λc h=>k2 c h a hr) hc
end
section
variable {f:FuncId}{args:Array Value}{fn:Func}
theorem eW{V:Value}{agc:World->Prop}(hc:Calls P f args w λe w=>e= .returned V/\agc w)(k:∀w,agc w->KK Df n ((dn o,V)::l) j (wpList P ops Q rest) w)(h1:EL o n=true:=by rfl)(hrun:(execOp (eO (lk l j)) o).run P w= .ok (.enter f args) w:=by kernel_rfl):KK Df n l j (wpList P ops Q (o::rest)) w:=λa hr =>
 vQ (wn (jS h1).2) (jS h1).1.1 (jS h1).1.2 hr hrun hc λe w h=>by obtain⟨rfl,h⟩:=h;exact⟨_,rfl,k w h⟩
theorem xg0{V:Value}{agc:World->Prop}{x c:Bool}(pf:x=c)(hc:Calls P f args w λe w=>e= .returned V/\agc w)(k:∀w,agc w->KK Df n ((dn o,V)::l) j (wpList P ops Q rest) w)(h1:okg o n=true:=by rfl)(hg:gx ops n (lk l j) o=some (c,some (true,.bool x)):=by kernel_rfl)(hrun:(execOp (eO (lk l j)) o).run P w= .ok (.enter f args) w:=by kernel_rfl):KK Df n l j (wpList P ops Q (o::rest)) w:=λa hr =>
 vQ (kwg hr pf hg) (Qz h1).1 (Qz h1).2 hr hrun hc λe w h=>by obtain⟨rfl,h⟩:=h;exact⟨_,rfl,k w h⟩
theorem IX{V:Value}{agc:World->Prop}(h:agc w)(hres:fn.results=#[]:=by rfl)(hv: .tuple #[]=V:=by kernel_rfl):KK [] n l j (bodyPost P fn (λe w=>e= .returned V/\agc w) .normal) w:=λa hr =>
 qO hres hr ⟨by rw[hv],h⟩
theorem fU{V:Value}{agc:World->Prop}{t0:Nat}(h:agc w)(hres:fn.results=#[.tmp t0]:=by rfl)(hv:lk l j t0=V:=by kernel_rfl):KK [] n l j (bodyPost P fn (λe w=>e= .returned V/\agc w) .ret) w:=λa hr =>
 Au hres hr rfl ⟨by rw[hv],h⟩
theorem ML{V:Value}{agc:World->Prop}{t0 t1:Nat}(h:agc w)(hres:fn.results=#[.tmp t0,.tmp t1]:=by rfl)(hv: .tuple #[lk l j t0,lk l j t1]=V:=by kernel_rfl):KK [] n l j (bodyPost P fn (λe w=>e= .returned V/\agc w) .ret) w:=λa hr =>
 EY hres hr rfl rfl ⟨by rw[hv],h⟩
theorem xc1{wC:Type}{V:wC->Value}{agc:wC->World->Prop}(hc:Calls P f args w λe w =>∃x0,e= .returned (V x0)/\agc x0 w)(k:∀x0 w,agc x0 w->KK Df n ((dn o,(V x0))::l) j (wpList P ops Q rest) w)(h1:EL o n=true:=by rfl)(hrun:(execOp (eO (lk l j)) o).run P w= .ok (.enter f args) w:=by kernel_rfl):KK Df n l j (wpList P ops Q (o::rest)) w:=λa hr =>
 vQ (wn (jS h1).2) (jS h1).1.1 (jS h1).1.2 hr hrun hc λe w h=>by obtain⟨x0,rfl,h⟩:=h;exact⟨_,rfl,k _ w h⟩
theorem xy1{wC:Type}{V:wC->Value}{agc:wC->World->Prop}{t0:Nat}(x0:wC)(h:agc x0 w)(hres:fn.results=#[.tmp t0]:=by rfl)(hv:lk l j t0=V x0:=by kernel_rfl):KK [] n l j (bodyPost P fn (λe w =>∃x0,e= .returned (V x0)/\agc x0 w) .ret) w:=λa hr =>
 Au hres hr rfl ⟨x0,by rw[hv],h⟩
theorem UE{wC yg:Type}{V:wC->yg->Value}{agc:wC->yg->World->Prop}(hc:Calls P f args w λe w =>∃x0,∃x1,e= .returned (V x0 x1)/\agc x0 x1 w)(k:∀x0 x1 w,agc x0 x1 w->KK Df n ((dn o,(V x0 x1))::l) j (wpList P ops Q rest) w)(h1:EL o n=true:=by rfl)(hrun:(execOp (eO (lk l j)) o).run P w= .ok (.enter f args) w:=by kernel_rfl):KK Df n l j (wpList P ops Q (o::rest)) w:=λa hr =>
 vQ (wn (jS h1).2) (jS h1).1.1 (jS h1).1.2 hr hrun hc λe w h=>by obtain⟨x0,x1,rfl,h⟩:=h;exact⟨_,rfl,k _ _ w h⟩
theorem xy2{wC yg:Type}{V:wC->yg->Value}{agc:wC->yg->World->Prop}{t0:Nat}(x0:wC)(x1:yg)(h:agc x0 x1 w)(hres:fn.results=#[.tmp t0]:=by rfl)(hv:lk l j t0=V x0 x1:=by kernel_rfl):KK [] n l j (bodyPost P fn (λe w =>∃x0,∃x1,e= .returned (V x0 x1)/\agc x0 x1 w) .ret) w:=λa hr =>
 Au hres hr rfl ⟨x0,x1,by rw[hv],h⟩
theorem xz2{wC yg:Type}{V:wC->yg->Value}{agc:wC->yg->World->Prop}{t0 t1:Nat}(x0:wC)(x1:yg)(h:agc x0 x1 w)(hres:fn.results=#[.tmp t0,.tmp t1]:=by rfl)(hv: .tuple #[lk l j t0,lk l j t1]=V x0 x1:=by kernel_rfl):KK [] n l j (bodyPost P fn (λe w =>∃x0,∃x1,e= .returned (V x0 x1)/\agc x0 x1 w) .ret) w:=λa hr =>
 EY hres hr rfl rfl ⟨x0,x1,by rw[hv],h⟩
theorem xw2{wC yg:Type}{V:wC->yg->Value}{agc:wC->yg->World->Prop}{t0 t1 t2:Nat}(x0:wC)(x1:yg)(h:agc x0 x1 w)(hres:fn.results=#[.tmp t0,.tmp t1,.tmp t2]:=by rfl)(hv: .tuple #[lk l j t0,lk l j t1,lk l j t2]=V x0 x1:=by kernel_rfl):KK [] n l j (bodyPost P fn (λe w =>∃x0,∃x1,e= .returned (V x0 x1)/\agc x0 x1 w) .ret) w:=λa hr =>
 ID hres hr rfl rfl rfl ⟨x0,x1,by rw[hv],h⟩
theorem xc3{wC yg Dr:Type}{V:wC->yg->Dr->Value}{agc:wC->yg->Dr->World->Prop}(hc:Calls P f args w λe w =>∃x0,∃x1,∃x2,e= .returned (V x0 x1 x2)/\agc x0 x1 x2 w)(k:∀x0 x1 x2 w,agc x0 x1 x2 w->KK Df n ((dn o,(V x0 x1 x2))::l) j (wpList P ops Q rest) w)(h1:EL o n=true:=by rfl)(hrun:(execOp (eO (lk l j)) o).run P w= .ok (.enter f args) w:=by kernel_rfl):KK Df n l j (wpList P ops Q (o::rest)) w:=λa hr =>
 vQ (wn (jS h1).2) (jS h1).1.1 (jS h1).1.2 hr hrun hc λe w h=>by obtain⟨x0,x1,x2,rfl,h⟩:=h;exact⟨_,rfl,k _ _ _ w h⟩
theorem xw3{wC yg Dr:Type}{V:wC->yg->Dr->Value}{agc:wC->yg->Dr->World->Prop}{t0 t1 t2:Nat}(x0:wC)(x1:yg)(x2:Dr)(h:agc x0 x1 x2 w)(hres:fn.results=#[.tmp t0,.tmp t1,.tmp t2]:=by rfl)(hv: .tuple #[lk l j t0,lk l j t1,lk l j t2]=V x0 x1 x2:=by kernel_rfl):KK [] n l j (bodyPost P fn (λe w =>∃x0,∃x1,∃x2,e= .returned (V x0 x1 x2)/\agc x0 x1 x2 w) .ret) w:=λa hr =>
 ID hres hr rfl rfl rfl ⟨x0,x1,x2,by rw[hv],h⟩
theorem lH{wC yg Dr F1:Type}{V:wC->yg->Dr->F1->Value}{agc:wC->yg->Dr->F1->World->Prop}(hc:Calls P f args w λe w =>∃x0,∃x1,∃x2,∃x3,e= .returned (V x0 x1 x2 x3)/\agc x0 x1 x2 x3 w)(k:∀x0 x1 x2 x3 w,agc x0 x1 x2 x3 w->KK Df n ((dn o,(V x0 x1 x2 x3))::l) j (wpList P ops Q rest) w)(h1:EL o n=true:=by rfl)(hrun:(execOp (eO (lk l j)) o).run P w= .ok (.enter f args) w:=by kernel_rfl):KK Df n l j (wpList P ops Q (o::rest)) w:=λa hr =>
 vQ (wn (jS h1).2) (jS h1).1.1 (jS h1).1.2 hr hrun hc λe w h=>by obtain⟨x0,x1,x2,x3,rfl,h⟩:=h;exact⟨_,rfl,k _ _ _ _ w h⟩
theorem xv4{wC yg Dr F1:Type}{V:wC->yg->Dr->F1->Value}{agc:wC->yg->Dr->F1->World->Prop}(x0:wC)(x1:yg)(x2:Dr)(x3:F1)(h:agc x0 x1 x2 x3 w)(hres:fn.results=#[]:=by rfl)(hv: .tuple #[]=V x0 x1 x2 x3:=by kernel_rfl):KK [] n l j (bodyPost P fn (λe w =>∃x0,∃x1,∃x2,∃x3,e= .returned (V x0 x1 x2 x3)/\agc x0 x1 x2 x3 w) .normal) w:=λa hr =>
 qO hres hr ⟨x0,x1,x2,x3,by rw[hv],h⟩
theorem JL{wC yg Dr F1:Type}{V:wC->yg->Dr->F1->Value}{agc:wC->yg->Dr->F1->World->Prop}{t0:Nat}(x0:wC)(x1:yg)(x2:Dr)(x3:F1)(h:agc x0 x1 x2 x3 w)(hres:fn.results=#[.tmp t0]:=by rfl)(hv:lk l j t0=V x0 x1 x2 x3:=by kernel_rfl):KK [] n l j (bodyPost P fn (λe w =>∃x0,∃x1,∃x2,∃x3,e= .returned (V x0 x1 x2 x3)/\agc x0 x1 x2 x3 w) .ret) w:=λa hr =>
 Au hres hr rfl ⟨x0,x1,x2,x3,by rw[hv],h⟩
theorem Cv{wC yg Dr F1:Type}{V:wC->yg->Dr->F1->Value}{agc:wC->yg->Dr->F1->World->Prop}{t0 t1:Nat}(x0:wC)(x1:yg)(x2:Dr)(x3:F1)(h:agc x0 x1 x2 x3 w)(hres:fn.results=#[.tmp t0,.tmp t1]:=by rfl)(hv: .tuple #[lk l j t0,lk l j t1]=V x0 x1 x2 x3:=by kernel_rfl):KK [] n l j (bodyPost P fn (λe w =>∃x0,∃x1,∃x2,∃x3,e= .returned (V x0 x1 x2 x3)/\agc x0 x1 x2 x3 w) .ret) w:=λa hr =>
 EY hres hr rfl rfl ⟨x0,x1,x2,x3,by rw[hv],h⟩
theorem xc5{wC yg Dr F1 TH:Type}{V:wC->yg->Dr->F1->TH->Value}{agc:wC->yg->Dr->F1->TH->World->Prop}(hc:Calls P f args w λe w =>∃x0,∃x1,∃x2,∃x3,∃x4,e= .returned (V x0 x1 x2 x3 x4)/\agc x0 x1 x2 x3 x4 w)(k:∀x0 x1 x2 x3 x4 w,agc x0 x1 x2 x3 x4 w->KK Df n ((dn o,(V x0 x1 x2 x3 x4))::l) j (wpList P ops Q rest) w)(h1:EL o n=true:=by rfl)(hrun:(execOp (eO (lk l j)) o).run P w= .ok (.enter f args) w:=by kernel_rfl):KK Df n l j (wpList P ops Q (o::rest)) w:=λa hr =>
 vQ (wn (jS h1).2) (jS h1).1.1 (jS h1).1.2 hr hrun hc λe w h=>by obtain⟨x0,x1,x2,x3,x4,rfl,h⟩:=h;exact⟨_,rfl,k _ _ _ _ _ w h⟩
theorem xc6{wC yg Dr F1 TH XB:Type}{V:wC->yg->Dr->F1->TH->XB->Value}{agc:wC->yg->Dr->F1->TH->XB->World->Prop}(hc:Calls P f args w λe w =>∃x0,∃x1,∃x2,∃x3,∃x4,∃x5,e= .returned (V x0 x1 x2 x3 x4 x5)/\agc x0 x1 x2 x3 x4 x5 w)(k:∀x0 x1 x2 x3 x4 x5 w,agc x0 x1 x2 x3 x4 x5 w->KK Df n ((dn o,(V x0 x1 x2 x3 x4 x5))::l) j (wpList P ops Q rest) w)(h1:EL o n=true:=by rfl)(hrun:(execOp (eO (lk l j)) o).run P w= .ok (.enter f args) w:=by kernel_rfl):KK Df n l j (wpList P ops Q (o::rest)) w:=λa hr =>
 vQ (wn (jS h1).2) (jS h1).1.1 (jS h1).1.2 hr hrun hc λe w h=>by obtain⟨x0,x1,x2,x3,x4,x5,rfl,h⟩:=h;exact⟨_,rfl,k _ _ _ _ _ _ w h⟩
theorem xy6{wC yg Dr F1 TH XB:Type}{V:wC->yg->Dr->F1->TH->XB->Value}{agc:wC->yg->Dr->F1->TH->XB->World->Prop}{t0:Nat}(x0:wC)(x1:yg)(x2:Dr)(x3:F1)(x4:TH)(x5:XB)(h:agc x0 x1 x2 x3 x4 x5 w)(hres:fn.results=#[.tmp t0]:=by rfl)(hv:lk l j t0=V x0 x1 x2 x3 x4 x5:=by kernel_rfl):KK [] n l j (bodyPost P fn (λe w =>∃x0,∃x1,∃x2,∃x3,∃x4,∃x5,e= .returned (V x0 x1 x2 x3 x4 x5)/\agc x0 x1 x2 x3 x4 x5 w) .ret) w:=λa hr =>
 Au hres hr rfl ⟨x0,x1,x2,x3,x4,x5,by rw[hv],h⟩
theorem xc8{wC yg Dr F1 TH XB β6 β7:Type}{V:wC->yg->Dr->F1->TH->XB->β6->β7->Value}{agc:wC->yg->Dr->F1->TH->XB->β6->β7->World->Prop}(hc:Calls P f args w λe w =>∃x0,∃x1,∃x2,∃x3,∃x4,∃x5,∃x6,∃x7,e= .returned (V x0 x1 x2 x3 x4 x5 x6 x7)/\agc x0 x1 x2 x3 x4 x5 x6 x7 w)(k:∀x0 x1 x2 x3 x4 x5 x6 x7 w,agc x0 x1 x2 x3 x4 x5 x6 x7 w->KK Df n ((dn o,(V x0 x1 x2 x3 x4 x5 x6 x7))::l) j (wpList P ops Q rest) w)(h1:EL o n=true:=by rfl)(hrun:(execOp (eO (lk l j)) o).run P w= .ok (.enter f args) w:=by kernel_rfl):KK Df n l j (wpList P ops Q (o::rest)) w:=λa hr =>
 vQ (wn (jS h1).2) (jS h1).1.1 (jS h1).1.2 hr hrun hc λe w h=>by obtain⟨x0,x1,x2,x3,x4,x5,x6,x7,rfl,h⟩:=h;exact⟨_,rfl,k _ _ _ _ _ _ _ _ w h⟩
theorem kC{t T b:Nat}{R:Ending->World->Prop}{cs:Array Value}{T':TypeId}{q:Nat×Nat}(hF:Fit w0 (aD (pts b (.cells cs T' q)::L)) w)(h:R (.returned (.agg cs)) w)(hres:fn.results=#[.cell t T]:=by rfl)(hv:lk l j t= .pointer (some ⟨b,0,none⟩):=by kernel_rfl)(hu:vo (P.underlying T)=true:=by kernel_rfl)
 (hs:(P.info? T).map (·.size)=some cs.size:=by kernel_rfl):KK [] n l j (bodyPost P fn R .ret) w:=λa hr=>qC hr hF h hres hv hu hs
end
section
variable {E:List Nat}{D:List (Nat×Nat×List Value)}{N:Nat}{aQ:Array Bool}
theorem mg[hp:PI Q](hd:HL D w)(f:Nat)(is:List (Nat×Nat×Value))(k:KK Df n (Uk is l) j (eK P .any ops Q (HL D) E f (Uj is aQ)) w)
 (hN:f+is.length=N:=by rfl) (hB:okE ops E n is aQ=true:=by kernel_rfl) (hrun:∀w,Lu P ops is l j w=E5 is w:=by intro w;kernel_rfl):KK Df n l j (eK P .any ops Q (HL D) E N aQ) w:=λa hr=>adN hd f is hr k hN hB hrun
theorem kx[hp:PI Q](hd:HL D w)(q f i:Nat){b off:Nat}{x:Operand}(hi:ops[i]? = some o)(hq:D[q]? = some (b,off,[v]))
 (k:KK Df n ((dn o,v)::l) j (eK P .any ops Q (HL D) E f (aQ.setIfInBounds i true)) w) (hg:o.guard=none:=by rfl) (hB:(okB ops E aQ i&&D5 .any ops E aQ i)=true:=by kernel_rfl)
 (ho:o.op= .load T x:=by rfl) (hx:eO (lk l j) x= .pointer (some ⟨b,off,none⟩):=by kernel_rfl) (hu:yD (P.underlying T)=true:=by kernel_rfl) (h1:o.dst=some (dn o):=by rfl) (hn:Nat.blt (dn o) n=true:=by rfl):KK Df n l j (eK P .any ops Q (HL D) E (f+1) aQ) w:=λa hr =>
 elx hd q f i hr (wn hg) hi hq k hB ho hx hu h1 hn
theorem yh[hp:PI Q](hd:HL D w)(q f i:Nat){b off:Nat}{cs:List Value}{x:Operand}(hi:ops[i]? = some o)(hq:D[q]? = some (b,off,cs))
 (k:KK Df n ((dn o,.agg cs.toArray)::l) j (eK P .any ops Q (HL D) E f (aQ.setIfInBounds i true)) w) (hg:o.guard=none:=by rfl) (hB:(okB ops E aQ i&&D5 .any ops E aQ i)=true:=by kernel_rfl)
 (ho:o.op= .load T x:=by rfl) (hx:eO (lk l j) x= .pointer (some ⟨b,off,none⟩):=by kernel_rfl) (hu:vo (P.underlying T)=true:=by kernel_rfl) (hs:(P.info? T).map (·.size)=some cs.length:=by kernel_rfl) (h1:o.dst=some (dn o):=by rfl) (hn:Nat.blt (dn o) n=true:=by rfl):KK Df n l j (eK P .any ops Q (HL D) E (f+1) aQ) w:=λa hr =>
 elm hd q f i hr (wn hg) hi hq k hB ho hx hu hs h1 hn
end
end
end GX
end
section
namespace SL
open Go Go.RowKit
def En{α:Type}(e:TypeId)(sz:Nat)(enc:α->List Value)(v:Value)(l:List α):bl:=λh =>
 (v= .slice none 0 0/\l=[]/\h=Hp.none)∨
 ∃g off cap k cur,v= .slice (some ⟨g,off,none⟩) l.length cap/\l.length<=cap/\(0<cap->off=k*sz)/\k+cap<=maxLen/\cur.size=(k+cap)*sz/\(cur.toList.drop (k*sz)).take (l.length*sz)=l.flatMap enc/\pts g (.cells cur e) h
section
variable {w0 w:World}{L:List bl}{α:Type}{e:TypeId}{sz:Nat}{enc:α->List Value}{v:Value}{l:List α}{ca:fB}{n cc:Nat}
theorem Fit.NA(h:Fit w0 (aD (En e sz enc v l::L)) w):(v= .slice none 0 0/\l=[]/\Fit w0 (aD L) w)∨
 ∃g off cap k cur,v= .slice (some ⟨g,off,none⟩) l.length cap/\l.length<=cap/\(0<cap->off=k*sz)/\k+cap<=maxLen/\cur.size=(k+cap)*sz/\(cur.toList.drop (k*sz)).take (l.length*sz)=l.flatMap enc/\Fit w0 (aD (pts g (.cells cur e)::L)) w:=by
 obtain⟨x,hx,a,c,hd,ee,hp,q⟩:=h.sat;rcases hp with ⟨h1,h2,h3⟩ | ⟨g,off,cap,k,cur,h1,h2,h3,h4,h5,h6,h7⟩
 ·left
  exact⟨h1,h2,h.drop⟩
 ·right
  exact⟨g,off,cap,k,cur,h1,h2,h3,h4,h5,h6,⟨x,hx,a,c,hd,ee,h7,q⟩,h.os,h.tape,h.output,h.size⟩
theorem Fit.QB(h:Fit w0 (aD (rowOf e sz enc v l::L)) w):Fit w0 (aD (En e sz enc v l::L)) w:=
 h.head λ_ hx=>by
  rcases hx with h | ⟨g,cap,cur,h1,h2,h3,h4,h5,h6⟩
  ·exact .inl h
  ·exact .inr ⟨g,0,cap,0,cur,h1,h2,λ_=>by simp,I,by simpa using h4,by simpa using h5,h6⟩
theorem Fit.UF(h:Fit w0 (aD (En e sz enc (.slice ca n cc) l::L)) w):n=l.length:=by
 rcases h.NA with ⟨h1,h2,_⟩ | ⟨g,off,cap,k,cur,h1,_⟩
 ·simp only[Value.slice.injEq]at h1;rw[h2];exact h1.2.1
 ·simp only[Value.slice.injEq]at h1;exact h1.2.1
theorem Fit.Sc(h:Fit w0 (aD (En e sz enc (.slice ca n cc) l::L)) w)(hl:0<l.length):ca=some ⟨GX.dJ ca,GX.jf ca,none⟩:=by
 rcases h.NA with ⟨h1,h2,_⟩ | ⟨g,off,cap,k,cur,h1,_⟩
 ·rw[h2]at hl;simp at hl
 ·simp only[Value.slice.injEq]at h1;rw[h1.1];rfl
theorem Fit.NB(he:uD enc sz)(h:Fit w0 (aD (En e sz enc (.slice ca n cc) l::L)) w){i:Nat}{f:Nat}{x:α}{u:Value}(hi:l[i]? = some x)(hf:(enc x)[f]? = some u):w.cell? ⟨GX.dJ ca,GX.jf ca+i*sz+f,none⟩=some u:=by
 have G6:i<l.length:=(List.getElem?_eq_some_iff.1 hi).1;rcases h.NA with ⟨h1,h2,_⟩ | ⟨g,off,cap,k,cur,h1,h2,h3,h4,h5,h6,h7⟩
 ·rw[h2]at G6;simp at G6
 ·simp only[Value.slice.injEq]at h1;obtain⟨rfl,_,rfl⟩:=h1;have hfs:f<sz:=by rw[<-he.len x];exact(List.getElem?_eq_some_iff.1 hf).1
  have h8:=he.get l i f x hi hfs;rw[<-h6,List.getElem?_take]at h8;have hlt:i*sz+f<l.length*sz:=by
   have:(i+1)*sz<=l.length*sz:=s9 _ G6;rw[vn]at this;omega
  rw[bg hlt,hf,List.getElem?_drop]at h8;have ho:=h3 I;show w.cell? ⟨g,off+i*sz+f,none⟩=some u;rw[ho,show k*sz+i*sz+f=k*sz+(i*sz+f) by omega];refine h7.cell _ ?_
  simpa using h8
theorem Lz(vs:List Value):∀(o:Nat) (cs:Array Value),o+vs.length<=cs.size->∃cs':Array Value,cs'.toList=cs.toList.take o++vs++cs.toList.drop (o+vs.length)/\∀{w0 w:World} {L:List bl} {b:Nat} {t:TypeId},Fit w0 (aD (pts b (.cells cs t)::L)) w->Fit w0 (aD (pts b (.cells cs' t)::L)) (w.setCells b o vs):=by
 induction vs with
 | nil=>intro o cs h;exact⟨cs,by simp,λh=>h⟩
 | cons v vs ih =>
  intro o cs h;simp only[Bm]at h;obtain⟨cs',h1,h2⟩:=ih (o+1) (cs.setIfInBounds o v) (by simp;omega);refine⟨cs',?_,λhF=>h2 (hF.set o v)⟩;rw[h1];have ho:o<cs.toList.length:=by simp;omega
  simp only[Array.toList_setIfInBounds,Bm];rw[List.take_succ_eq_append_getElem (by simpa using ho),List.getElem_set_self,List.take_set_of_le (gQ o),List.drop_set,rD];rw[show o+1+vs.length=o+(vs.length+1) by omega];simp
end
end SL
namespace GX
open Go Go.RowKit SL
section
variable {P:Program}{w w0 w1 z:World}{ops:Array Oper}{Q:Exit->Act->World->Prop}{a:Act}{rest:List Oper}{o:Oper}{n d:Nat}{l:List (Nat×Value)}{j e:Nat->Value}{Df:List Deferred}{L:List bl}{t E:TypeId}
variable {α:Type}{sz n0 cc:Nat}{enc:α->List Value}{xs:List α}{ca:fB}
theorem adV{x y:Operand}{k:IntKind}{i:Int}{w':World}(ho:o.op= .indexAddr t x y)(hx:eO e x= .slice ca n0 cc)(hy:eO e y= .int k i)
 (ht:P.underlying t=some (.slice E)) (hs:(P.info? E).map (·.size)=some sz) (hF:Fit w0 (aD (En E sz enc (.slice ca n0 cc) xs::L)) w) (hi:bJ i xs.length):(execOp (eO e) o).run P w'= .ok (.value (.pointer (some ⟨dJ ca,jf ca+i.toNat*sz,none⟩))) w':=by
 have hn:=hF.UF;have h0:=hi.1;have h1:=hi.2;exact rie (hF.Sc I) ho hx hy ht hs h0 I
theorem XC{x y:Operand}{k:IntKind}{i:Int}(hw:vM o ops a)(hd:o.dst=some d)(hn:Nat.blt d n=true)(hr:cR Df n (lk l j) a)(ho:o.op= .slice t x (some y) none none)(hx:eO (lk l j) x= .slice ca n0 cc)(hy:eO (lk l j) y= .int k i)
 (ht:P.underlying t=some (.slice E)) (hs:(P.info? E).map (·.size)=some sz) (he:uD enc sz) (hF:Fit z (aD (En E sz enc (.slice ca n0 cc) xs::L)) w) (hi:0<=i/\i<=((xs.length:Nat):Int)) (hne:0<xs.length)
 (k:∀ca cc a,Fit z (aD (En E sz enc (.slice ca (xs.drop i.toNat).length cc) (xs.drop i.toNat)::L)) w->cR Df n (lk ((d,.slice ca (xs.drop i.toNat).length cc)::l) j) a->wpList P ops Q rest a w):wpList P ops Q (o::rest) a w:=by
 obtain⟨h0,h1⟩:=hi;rcases hF.NA with ⟨h2,h3,_⟩ | ⟨g,off,cap,q,cur,e1,e2,e3,e4,e5,e6,e7⟩
 ·rw[h3]at hne;simp at hne
 ·simp only[Value.slice.injEq]at e1;obtain⟨rfl,rfl,rfl⟩:=e1;obtain⟨m,rfl⟩ :∃m:Nat,i=m:=⟨i.toNat,I⟩;simp only[di]at k⊢;have hm:m<=xs.length:=by omega
  have hlen:(xs.drop m).length=xs.length-m:=by simp
  have hrun:(execOp (eO (lk l j)) o).run P w= .ok (.value (.slice (some (if cc=m then⟨g,off,none⟩else(⟨g,off,none⟩:Addr).add (m*sz))) (xs.length-m) (cc-m))) w:=by
   unfold execOp;cases hq:P.info? E with
   | none=>simp[hq]at hs
   | some q =>
    simp[hq]at hs;have c:cc=m∨¬cc=m:=Classical.em _;rcases c with c | c<;>simp[ho,hx,hy,Instr.sliceAt,Instr.slice,Instr.sliceBounds,Instr.sliceBound,run_underlying ht,asIntOf,sizeOf,typeInfo,hq,hs,h1,hm,c]
  refine sV hw hd hn hr (w1:=w) hrun λa G7 => ?_;rw[<-hlen]at G7;refine k _ _ a ?_ G7;refine e7.head λy hy=>.inr ⟨g,if cc=m then off else off+m*sz,cc-m,q+m,cur,?_,by rw[hlen];omega,?_,I,by rw[e5];congr 1;omega,?_,hy⟩
  ·congr 1
   by_cases c:cc=m
   ·simp[bg c]
   ·simp[cQ c,w4]
  ·intro hc;rw[ez,e3 I];simp[vn]
  ·rw[hlen];have h8:((cur.toList.drop (q*sz)).take (xs.length*sz)).drop (m*sz)=(xs.drop m).flatMap enc:=by
    rw[e6];have h9:(xs.take m).flatMap enc++(xs.drop m).flatMap enc=xs.flatMap enc:=by rw[<-EU,Im]
    rw[<-h9,KE (by rw[he.flat,vO,zo hm];exact gQ _)];rw[Qk (by rw[he.flat,vO,zo hm];exact gQ _)]
    rfl
   rw[<-h8,KH,List.drop_drop,vn,<-Nat.sub_mul]
theorem NC{bytes:Nat}{s x:Operand}{ad:Addr}{m c:Nat}(hw:vM o ops a)(hd:o.dst=some d)(hn:Nat.blt d n=true)(hr:cR Df n (lk l j) a)
 (ho:o.op= .call {callee:=.builtin .append,args:=#[s,x],argTypes:=#[t,t]}) (hs:eO (lk l j) s= .slice ca n0 cc) (hx:eO (lk l j) x= .slice (some ad) m c)
 (he:uD enc sz) (hty:P.underlying t=some (.slice E)) (sO:(P.info? E).map (λi=>(i.size,i.bytes,i.zero.map (·.cells.size)))=some (sz,bytes,some sz))
 (hF:Fit w0 (aD (En E sz enc (.slice ca n0 cc) xs::L)) w) {news:List α} (hm:news.length=m) (hnews:∀j u,(news.flatMap enc)[j]? = some u->w.cell? (ad.add j)=some u)
 (hb:(xs.length+m)*bytes<=140737488355328) (OO:Nat.blt 0 bytes=true)
 (k:∀ca cc w1 a,Fit w0 (aD (En E sz enc (.slice ca (xs++news).length cc) (xs++news)::L)) w1->cR Df n (lk ((d,.slice ca (xs++news).length cc)::l) j) a->wpList P ops Q rest a w1):wpList P ops Q (o::rest) a w:=by
 rcases hF.NA with ⟨h2,h3,h4⟩ | ⟨g,off,cap,q,cur,e1,e2,e3,e4,e5,e6,e7⟩
 ·simp only[Value.slice.injEq]at h2;obtain⟨rfl,rfl,rfl⟩:=h2;subst h3;exact jU hw hd hn hr ho hs hx he hty sO (h4.fC (e:=E) (sz:=sz) (enc:=enc)) hm hnews hb OO λca cc w1 a h G7=>k ca cc w1 a h.QB G7
 ·simp only[Value.slice.injEq]at e1;obtain⟨rfl,rfl,rfl⟩:=e1;cases hi:P.info? E with
  | none=>simp[hi]at sO
  | some i =>
   simp only[hi,wA,Option.some.injEq,Prod.mk.injEq]at sO;obtain⟨i1,i2,i3⟩:=sO;cases hz:i.zero with
   | none=>simp[hz]at i3
   | some zv =>
    simp only[hz,wA,Option.some.injEq]at i3;subst i1;subst i2;have Na:0<i.bytes:=qx OO;have h63:xs.length+m<=maxLen:=by
     have:xs.length+m<=(xs.length+m)*i.bytes:=MU _ Na;simp only[maxLen];omega
    have Xg:((xs.length+m:Nat):Int)<=9223372036854775807:=by simp only[maxLen]at h63;omega
    have hlen:(news.flatMap enc).length=m*i.size:=by rw[he.flat,hm]
    have fin:∀v' w',(Builtin.append_ #[t,t] o.type #[.slice (some ⟨g,off,none⟩) xs.length cc,.slice (some ad) m c]).run P w= .ok v' w'->(∃ca cc,v'= .slice ca (xs++news).length cc/\Fit w0 (aD (En E i.size enc v' (xs++news)::L)) w')->wpList P ops Q (o::rest) a w:=by
     rintro v' w' hrun ⟨ca,cc,rfl,D2⟩
     refine sV hw hd hn hr ?_ (λa hr=>k ca cc w' a D2 hr);unfold execOp;simp only[ho,resolve,invoke,builtin,n9,uR,oa,GN,BX,Cy,hs,hx,hrun]
    by_cases hroom:xs.length+m<=cc
    ·by_cases T5:m=0
     ·subst T5;have Zd:news=[]:=GM hm;subst Zd;have hr2:=run_append_room_cells (P:=P) (w:=w) t o.type E i hty hi g off xs.length cc ad 0 c [] (by simp) (by simp) (by simp) hroom (by simp) (by simp);refine fin _ _ hr2 ⟨some ⟨g,off,none⟩,cc,by simp,?_⟩
      simpa [World.setCells]using hF
     ·have adW:=e3 I;subst adW;have hfit:(q+xs.length)*i.size+(news.flatMap enc).length<=cur.size:=by rw[hlen,e5,<-vn];exact s9 _ I
      have hpos:q*i.size+xs.length*i.size=(q+xs.length)*i.size:=(vn _ _ _).symm;have hr2:=run_append_room_cells (P:=P) (w:=w) t o.type E i hty hi g (q*i.size) xs.length cc ad m c (news.flatMap enc) hlen hnews (he.As news) hroom
       (λk hk=>by rw[hpos];rw[e7.cell ((q+xs.length)*i.size+k) (v:=cur[(q+xs.length)*i.size+k]' I) (by rw[Array.getElem?_eq_getElem])];rfl) (λk hk=>e7.free _)
      rw[hpos]at hr2;obtain⟨cs',c1,c2⟩:=Lz (news.flatMap enc) ((q+xs.length)*i.size) cur hfit;have hsz:cs'.size=cur.size:=by
       have:=nR List.length c1;simp only[jM,vO,Cx,vP]at this;omega
      refine fin _ _ hr2 ⟨_,_,by rw[jM,hm],(c2 e7).head λy hy=>.inr ⟨g,_,cc,q,cs',by rw[jM,hm],by rw[jM,hm];exact hroom,λ_=>rfl,e4,by rw[hsz];exact e5,?_,hy⟩⟩;rw[c1,EU,<-e6,jM,hm];have hA:(cur.toList.take ((q+xs.length)*i.size)).length=(q+xs.length)*i.size:=by rw[vO,vP];exact zo (ET (Nat.le_add_right _ _) hfit)
      rw[rK,KE (by rw[hA,vn];omega)];have hB:(cur.toList.take ((q+xs.length)*i.size)).drop (q*i.size)=(cur.toList.drop (q*i.size)).take (xs.length*i.size):=by
       rw[KH,vn,Nat.add_sub_cancel_left]
      rw[hB,<-rK];have hC:(((cur.toList.drop (q*i.size)).take (xs.length*i.size))++news.flatMap enc).length=(xs.length+m)*i.size:=by
       rw[e6,jM,he.flat,hlen,vn]
      rw[<-hC];exact GL
    ·have holds:∀j u,(xs.flatMap enc)[j]? = some u->w.cell? ((⟨g,off,none⟩:Addr).add j)=some u:=by
      intro jj u hu;have hj:jj<xs.length*i.size:=by rw[<-he.flat];exact(List.getElem?_eq_some_iff.1 hu).1
      have hx0:0<xs.length:=by
       rcases Nat.eq_zero_or_pos xs.length with h0 | h0
       ·rw[h0]at hj;simp at hj
       ·exact h0
      rw[w4,e3 I];refine e7.cell _ ?_;rw[<-e6,List.getElem?_take,bg hj,List.getElem?_drop]at hu
      simpa using hu
     have hr2:=run_append_grow (P:=P) w t o.type E i zv hty hi hz ⟨g,off,none⟩ xs.length cc (xs.flatMap enc) (he.flat xs) holds ad m c (news.flatMap enc) hlen hnews I Xg (growslice_fits I hb);have hge:=grownCap_ge w (xs.length+m) cc E;have hcm:grownCap w (xs.length+m) cc E<=maxLen:=grownCap_le_maxLen w (xs.length+m) cc E h63;refine fin _ _ hr2 ⟨_,_,by rw[jM,hm],?_⟩;refine(e7.drop.drew.alloc _).head λx hx=>.inr ⟨w.heap.size,0,grownCap w (xs.length+m) cc E,0,_,by rw[jM,hm],by rw[jM,hm];exact hge,λ_=>by simp,I,?_,?_,hx⟩
     ·simp only[Array.size_append,DY,size_zeroCells,i3,he.flat,hm,<-vn]
      congr 1
      omega
     ·rw[EU,jM,hm];simp only[Array.toList_append,Nat.zero_mul,nS];rw[show(xs.length+m)*i.size=((xs.flatMap enc)++(news.flatMap enc)).length by rw[jM,hlen,he.flat,vn]];exact GL
end
end GX
end
section
namespace GX
open Go Go.RowKit SL
def IY:Value->Value->Bool
 | .int k _,.int k' _=>k==k'
 | .bool _,.bool _=>true
 | _,_=>false
def CM:List Value->List Value->Bool
 | [],[]=>true
 | u::us,v::vs=>IY u v&&CM us vs
 | _,_=>false
def UG:List Value->List Value->Bool
 | .int a _::_,.int b _::_=>a==b
 | _,_=>false
def UH:List Value->List Value->Bool
 | .bool _::_,.bool _::_=>true
 | _,_=>false
theorem ND{us vs:List Value}(h:UG us vs=true) :∃k x y us' vs',us= .int k x::us'/\vs= .int k y::vs':=by
 unfold UG at h;split at h
 ·simp only[Cz]at h;subst h;exact⟨_,_,_,_,_,rfl,rfl⟩
 ·cases h
theorem NF{us vs:List Value}(h:UH us vs=true) :∃x y us' vs',us= .bool x::us'/\vs= .bool y::vs':=by
 unfold UH at h;split at h
 ·exact⟨_,_,_,_,rfl,rfl⟩
 ·cases h
theorem Sd{u v:Value}(h:IY u v=true):(∃k x y,u= .int k x/\v= .int k y)∨∃x y,u= .bool x/\v= .bool y:=by
 unfold IY at h;split at h
 ·simp only[Cz]at h;subst h;exact .inl ⟨_,_,_,rfl,rfl⟩
 ·exact .inr ⟨_,_,rfl,rfl⟩
 ·cases h
def AD(P:Program):Nat->Nat->List Field->List Value->List Value->Bool
 | 0,_,_,_,_=>false
 | k+1,i,fs,us,vs=>match fs with
  | []=>us.isEmpty&&vs.isEmpty
  | f::fs=>(f.name != "_")&&f.offset==i&&(match P.underlying f.type with
   | some (.int _)=>UG us vs&&AD P k (i+1) fs us.tail vs.tail
   | some .bool=>UH us vs&&AD P k (i+1) fs us.tail vs.tail
   | some (.struct _)=>(P.info? f.type).isSome && !(P.stoodInHeld f.type)&&Nat.ble (P.cellsOf f.type) us.length&&Nat.ble (P.cellsOf f.type) vs.length
    && AD P k 0 (P.fieldsOf f.type).toList (us.take (P.cellsOf f.type)) (vs.take (P.cellsOf f.type))&&AD P k (i+P.cellsOf f.type) fs (us.drop (P.cellsOf f.type)) (vs.drop (P.cellsOf f.type))
   | _=>false)
theorem KW:∀{a c b d:List Value},CM a c=true->CM b d=true->CM (a++b) (c++d)=true
 | [],[],_,_,_,h=>h
 | u::a,v::c,_,_,h1,h=>by
  simp only[CM,mI]at h1;simp only[uS,CM,mI];exact⟨h1.1,KW h1.2 h⟩
theorem NG:∀{a c b d:List Value},CM a c=true->vR (a++b) (c++d)=(vR a c&&vR b d)
 | [],[],_,_,_=>by simp[vR]
 | u::a,v::c,b,d,h=>by
  simp only[CM,mI]at h;have ih:=NG (b:=b) (d:=d) h.2;rcases Sd h.1 with ⟨k,x,y,rfl,rfl⟩ | ⟨x,y,rfl,rfl⟩
  ·simp[vR,ih,Bool.and_assoc]
  ·simp[vR,ih,Bool.and_assoc]
section
variable {P:Program}{w:World}{o:Oper}{e:Nat->Value}
theorem yH:∀(k i:Nat) (fs:List Field) (us vs:List Value),AD P k i fs us vs=true->CM us vs=true
 | 0,_,_,_,_,h=>by simp[AD]at h
 | k+1,_,[],us,vs,h=>by
  simp only[AD,mI,List.isEmpty_iff]at h;obtain⟨rfl,rfl⟩:=h
  rfl
 | k+1,i,f::fs,us,vs,h=>by
  simp only[AD,mI]at h;obtain⟨_,h⟩:=h;split at h
  ·simp only[mI]at h;obtain⟨kk,x,y,us',vs',rfl,rfl⟩:=ND h.1;simp only[CM,IY,beq_self_eq_true,Bool.true_and];exact yH k _ _ _ _ h.2
  ·simp only[mI]at h;obtain⟨x,y,us',vs',rfl,rfl⟩:=NF h.1;simp only[CM,IY,Bool.true_and];exact yH k _ _ _ _ h.2
  ·simp only[mI]at h;have a:=yH k _ _ _ _ h.1.2;have b:=yH k _ _ _ _ h.2;have:=KW a b
   rwa [Im,Im]at this
  ·cases h
theorem NH{t:TypeId}{gs:Array Field}(h:P.underlying t=some (.struct gs)):P.fieldsOf t=gs:=by
 unfold Program.fieldsOf;rw[h]
theorem KX{t:TypeId}{gs:Array Field}{cs:Array Value}{i:Nat}(h:P.underlying t=some (.struct gs))(hi:(P.info? t).isSome=true):(part t cs i).run P w= .ok (.agg (cs.extract i (i+P.cellsOf t))) w:=by
 obtain⟨q,hq⟩:=Option.isSome_iff_exists.1 hi;unfold part isAgg;simp only[n9,run_underlying h,oa,uR,if_true,run_sizeOf w hq]
theorem Fb:∀(k D i:Nat) (fs:List Field) (us vs:List Value) (xs ys:Array Value),AD P k i fs us vs=true->k<=D->(∀j,us[j]? = xs[i+j]?∨us.length<=j)->(∀j,vs[j]? = ys[i+j]?∨vs.length<=j)->
 (Op.eqFields (D+1) xs ys fs).run P w= .ok (vR us vs) w
 | 0,_,_,_,_,_,_,_,h,_,_,_=>by simp[AD]at h
 | k+1,_,_,[],us,vs,_,_,h,_,_,_=>by
  simp only[AD,mI,List.isEmpty_iff]at h;obtain⟨rfl,rfl⟩:=h;simp[Op.eqFields,vR]
 | k+1,D,i,f::fs,us,vs,xs,ys,h,hD,hx,hy=>by
  simp only[AD,mI,bne_iff_ne,ne_eq,Cz]at h;obtain⟨⟨hn,ho⟩,h⟩:=h;have aH:∀(n:Nat) (zs:List Value) (cs:Array Value),(∀j,zs[j]? = cs[i+j]?∨zs.length<=j)->∀j,(zs.drop n)[j]? = cs[i+n+j]?∨(zs.drop n).length<=j:=λn zs cs hz j=>by
   rcases hz (n+j)with h | h
   ·left;rw[List.getElem?_drop,h,Nat.add_assoc]
   ·right;rw[Cx];omega
  split at h
  ·rename_i kk hty;simp only[mI]at h;obtain⟨a,x,y,us',vs',rfl,rfl⟩:=ND h.1;have hx0:xs[i]? = some (.int a x):=by rcases hx 0 with h | h;simpa using h.symm;simp at h
   have hy0:ys[i]? = some (.int a y):=by rcases hy 0 with h | h;simpa using h.symm;simp at h
   have ih:=Fb k D (i+1) fs us' vs' xs ys h.2 I (by simpa using aH 1 _ xs hx) (by simpa using aH 1 _ ys hy);have pa:=tE (P:=P) (w:=w) (t:=f.type) (cs:=xs) (i:=f.offset) (v:=.int a x) (by rw[hty]) (by rw[ho];exact hx0);have pb:=tE (P:=P) (w:=w) (t:=f.type) (cs:=ys) (i:=f.offset) (v:=.int a y) (by rw[hty]) (by rw[ho];exact hy0);rw[Op.eqFields];simp only[bg hn,n9,pa,pb,run_equalIn_int w D f.type a kk x y hty,oa];cases hab:(x==y)
   ·simp[vR,hab]
   ·simp[vR,hab,ih]
  ·rename_i hty;simp only[mI]at h;obtain⟨x,y,us',vs',rfl,rfl⟩:=NF h.1;have hx0:xs[i]? = some (.bool x):=by rcases hx 0 with h | h;simpa using h.symm;simp at h
   have hy0:ys[i]? = some (.bool y):=by rcases hy 0 with h | h;simpa using h.symm;simp at h
   have ih:=Fb k D (i+1) fs us' vs' xs ys h.2 I (by simpa using aH 1 _ xs hx) (by simpa using aH 1 _ ys hy);have pa:=tE (P:=P) (w:=w) (t:=f.type) (cs:=xs) (i:=f.offset) (v:=.bool x) (by rw[hty]) (by rw[ho];exact hx0);have pb:=tE (P:=P) (w:=w) (t:=f.type) (cs:=ys) (i:=f.offset) (v:=.bool y) (by rw[hty]) (by rw[ho];exact hy0);rw[Op.eqFields];simp only[bg hn,n9,pa,pb,run_equalIn_bool' w D f.type x y hty,oa];cases hab:(x==y)
   ·simp[vR,hab]
   ·simp[vR,hab,ih]
  ·rename_i gs hty;simp only[mI,Bool.not_eq_true',Nat.ble_eq]at h;obtain⟨⟨⟨⟨⟨hi,hp⟩,hu⟩,hv⟩,h1⟩,h2⟩:=h;obtain⟨D,rfl⟩ :∃m,D=m+1:=⟨D-1,I⟩;have cut:∀(zs:List Value) (cs:Array Value),P.cellsOf f.type<=zs.length->(∀j,zs[j]? = cs[i+j]?∨zs.length<=j)->∀j,(zs.take (P.cellsOf f.type))[j]? = (cs.extract i (i+P.cellsOf f.type))[0+j]?∨(zs.take (P.cellsOf f.type)).length<=j:=λzs cs hl hz j=>by
    by_cases hj:j<P.cellsOf f.type
    ·left
     rcases hz j with h | h
     ·rw[List.getElem?_take,bg hj,h,Bn,Array.getElem?_extract];split
      ·rfl
      ·rename_i hc;refine Array.getElem?_eq_none ?_;omega
     ·omega
    ·right;rw[vO];omega
   have UI:=Fb k D 0 _ _ _ _ _ h1 I (cut us xs hu hx) (cut vs ys hv hy);have ih2:=Fb k (D+1) (i+P.cellsOf f.type) fs _ _ xs ys h2 I (aH _ _ xs hx) (aH _ _ ys hy);have pa:=KX (P:=P) (w:=w) (cs:=xs) (i:=f.offset) hty hi;have pb:=KX (P:=P) (w:=w) (cs:=ys) (i:=f.offset) hty hi;have heq:=run_equalIn_struct (P:=P) w (D+1) f.type (xs.extract i (i+P.cellsOf f.type)) (ys.extract i (i+P.cellsOf f.type)) (by rw[NH hty];exact hty) hp;rw[UI]at heq;have hs:=NG (b:=us.drop (P.cellsOf f.type)) (d:=vs.drop (P.cellsOf f.type)) (yH _ _ _ _ _ h1);rw[Im,Im]at hs;rw[Op.eqFields,hs];rw[ho]at pa pb;simp only[bg hn,n9,ho,pa,pb,heq,oa];cases hab:vR (us.take (P.cellsOf f.type)) (vs.take (P.cellsOf f.type))
   ·simp
   ·simp[ih2]
  ·cases h
theorem aar{x y:Operand}{us vs:List Value}{T T':TypeId}(ho:o.op= .binOp .eql T x y T')(hx:eO e x= .agg us.toArray)(hy:eO e y= .agg vs.toArray)(hm:P.eqGuardType P.depth T=false)(hp:P.stoodInHeld T=false)
 (hu:P.underlying T=some (.struct (P.fieldsOf T))) (hf:AD P 64 0 (P.fieldsOf T).toList us vs=true):(execOp (eO e) o).run P w= .ok (.value (.bool (vR us vs))) w:=by
 unfold execOp;have h1:=run_equalIn_struct (P:=P) w 9999 T us.toArray vs.toArray hu hp;rw[Fb (P:=P) (w:=w) 64 9998 0 (P.fieldsOf T).toList us vs us.toArray vs.toArray hf gB (λj=>by left;simp) (λj=>by left;simp)]at h1;simp[ho,hx,hy,run_eqGuard_agg (P:=P) w .eql T x y us.toArray vs.toArray hm,run_eql_struct,h1]
end
end GX
end
section
namespace Md
open Go Go.RowKit SL GX
noncomputable section
variable {z w:World}{L:List bl}
abbrev zu(a:fB)(c:Nat)(l:List Int):bl:=rowOf 3 1 aK (.slice a l.length c) l
end
noncomputable section
variable {z w:World}{L:List bl}
def vU(O:Int)(Y:List Int)(p2:Bool):Option (Int×Int):=
 dX ((if O=((Y.length:Nat):Int)then(if p2=true then some 0 else some O)else some O)) (λg3=>(if g3=((Y.length:Nat):Int)then some (0,g3)else if bJ (wi ((wi (g3+1))-1)) Y.length then some ((J Y (wi ((wi (g3+1))-1)).toNat),wi (g3+1))else none))
theorem Fc{O r0 q0:Int}{Y:List Int}{p2:Bool}{B0 B1 jy B2:Nat}{ju:fB}(H:vU O Y p2=some (r0,q0))(h:Fit z (aD (pts B0 (.cells #[Z O] 3)::pts B1 (.cells #[.slice ju Y.length jy] 28)::zu ju jy Y::pts B2 (.cells #[vB p2] 4)::L)) w) :
 Calls Tryz.prog 65 #[pA B0 0,pA B1 0,pA B2 0] w λe w=>e=.returned (Z r0)/\Fit z (aD (pts B0 (.cells #[Z q0] 3)::pts B1 (.cells #[.slice ju Y.length jy] 28)::zu ju jy Y::pts B2 (.cells #[vB p2] 4)::L)) w:=by
 unfold vU at H;refine ke func65 22 rfl λj=>ks<|ko [U]<|G<|EM H λo5 H hK4=>λ_ r=>cW (β:=Unit) (λ_ a w=>∃g3:Int,g3=o5/\∃j,jY 22 (lk [(0,pA B0 0),(1,pA B1 0)] j) a/\Fit z (aD (pts B0 (.cells #[Z g3] 3)::pts B1 (.cells #[.slice ju Y.length jy] 28)::zu ju jy Y::pts B2 (.cells #[vB p2] 4)::L)) w) ?_ ?_
 ·refine qq r<|ks<|kL h 0<|kL (h.pick 1) 0<|ko [Z ((Y.length:Nat):Int),vB (O==((Y.length:Nat):Int)),vB (O==((Y.length:Nat):Int))]<|qI H (λc6 H=>?_) λc6 H=>?_
  ·refine λ_ r=>ld (nL r (beq_iff_eq.mpr c6)) r (vB p2) ((h.pick 3).cell 0 rfl)<|?_;refine oJ (beq_iff_eq.mpr c6) (vB p2)<|G<|EN H (λc7 H=>?_) λc7 H=>?_
   ·refine wl<|kS h 0 (pts B0 (.cells #[Z 0] 3)) λw h=>G<|?_;exact λ_ r=>⟨(),0,fV H,r.fj h⟩
   refine wk<|tn<|?_;exact λ_ r=>⟨(),O,fV H,r.fj h⟩
  refine cg (bN c6) [9]<|oz (bN c6) (vB false)<|G<|λ_ r=>jw r (b:=false) rfl<|qq r<|wk<|tn<|?_;exact λ_ r=>⟨(),O,fV H,r.fj h⟩
 clear h r;rintro _ a w ⟨g3,rfl,j,r,h⟩;replace H:=EK hK4;refine qq r<|wq<|ks<|kL h 0<|kL (h.pick 1) 0<|ko [Z ((Y.length:Nat):Int),vB (g3==((Y.length:Nat):Int))]<|G<|dK H (λc8 H=>?_) λc8 H=>?_
 ·refine ks<|ko [U]<|G<|wr<|tr<|?_;cases H;exact fU h
 refine wk<|tn<|ks<|kL h 0<|ko [Z (wi (g3+1))]<|kS h 0 (pts B0 (.cells #[Z (wi (g3+1))] 3)) λw h=>G<|ks<|kL (h.pick 1) 0<|kL h 0<|qg H λc9 H=>ko [Z (wi ((wi (g3+1))-1))]<|ki (h.pick 2) c9<|λ_ r=>ld (wn rfl) r (Z (J Y (wi ((wi (g3+1))-1)).toNat)) ((h.pick 2).cy aJ (f:=0) (bj c9) rfl)<|?_;refine ko [Z (J Y (wi ((wi (g3+1))-1)).toNat)]<|G<|wr<|?_;cases H;exact fU h
end
end Md
end
section
namespace Mo
open Go Go.RowKit SL GX
structure aY where
 rest:List Int
deriving Inhabited,DecidableEq
def IZ(x:aY):Int:=x.rest.headD 0
def Se(x:aY):aY:=⟨x.rest.tail⟩
def xD(b:Nat)(x:aY):bl:=exs λk:Nat=>exs λpa:Nat=>exs λpl:Nat=>exs λpg:Nat=>exs λca:fB=>exs λcc:Nat=>exs λl:List Int =>
 aD [RX (k<=l.length/\l.length*8<=140737488355328/\x.rest=l.drop k),pts b (.cells #[.func (.func 65) #[] #[pA pa 0,pA pl 0,pA pg 0]] 158),pts pa (.cells #[Z k] 3),pts pl (.cells #[.slice ca l.length cc] 28),rowOf 3 1 aK (.slice ca l.length cc) l,pts pg (.cells #[vB false] 4)]
theorem UJ{l:List Int}{k:Nat}(hk:k<=l.length)(hb:l.length*8<=140737488355328):Md.vU (k:Int) l false=some (if k=l.length then(0,(k:Int))else(J l k,((k+1:Nat):Int))):=by
 have e1:wi ((k:Int)+1)=((k+1:Nat):Int):=by rw[fh I];omega
 have e2:wi (((k+1:Nat):Int)-1)=(k:Int):=by rw[fh I];omega
 unfold Md.vU;by_cases c:k=l.length
 ·subst c;simp[dX]
 ·have c':¬(k:Int)=((l.length:Nat):Int):=by omega
  have hi:bJ (k:Int) l.length:=by unfold bJ;omega
  simp only[cQ c',cQ c,dX,e1,e2,bg hi,di]
theorem UK{l:List Int}{k:Nat}{x:aY}(hk:k<=l.length)(hx:x.rest=l.drop k):(if k=l.length then(0,(k:Int))else(J l k,((k+1:Nat):Int)))=(IZ x,(((if k=l.length then k else k+1):Nat):Int))/\(if k=l.length then k else k+1)<=l.length/\(Se x).rest=l.drop (if k=l.length then k else k+1):=by
 unfold IZ Se;rw[hx];by_cases c:k=l.length
 ·subst c;simp
 ·have hlt:k<l.length:=by omega
  simp only[cQ c];refine⟨?_,I,by rw[List.tail_drop]⟩;rw[Uo hlt,Qm hlt];rfl
theorem Sf{z w:World}{L:List bl}{α:Type}{b:Nat}{E:TypeId}{sz:Nat}{enc:α->List Value}(h:Fit z (aD (pts b (.cells #[] E)::L)) w):Fit z (aD (rowOf E sz enc (.slice (some ⟨b,0,none⟩) 0 0) ([]:List α)::L)) w:=
 h.head λy hy=>.inr ⟨b,0,#[],rfl,gQ _,by simp[maxLen],by simp,by simp,hy⟩
theorem UL{z w:World}{L:List bl}{va:fB}{vc:Nat}{l:List Int}(hv:bI L 1 aK va l)(h:Fit z (aD L) w)(hb:l.length*8<=140737488355328) :
 Calls Tryz.prog 64 #[.slice va l.length vc] w λe w =>∃ca cc,e= .returned (.slice ca l.length cc)/\Fit z (aD (rowOf 3 1 aK (.slice ca l.length cc) l::L)) w:=by
 refine ke func64 8 rfl λj=>ks<|ko [U]<|G<|wq <| ?_
 cases va with
 | none =>
  have hl:l=[]:=by
   cases l with
   | nil=>rfl
   | cons x xs=>exact absurd (hv.ne (by simp)) (by simp)
  subst hl;refine ks<|ko [U,vB true]<|G<|λ_ r=>fW r (b:=true) rfl<|qq r<|ks<|ko [U]<|G<|wr<|tr <| ?_
  exact xy2 none 0 h.fC
 | some ad =>
  refine ks<|ko [U,vB false]<|G<|λ_ r=>jw r (b:=false) rfl<|qq r<|wk<|tn<|ks<|λ_ r=>aan (wn rfl) r h (λb=>.slice (some ⟨b,0,none⟩) 0 0) #[] 3 λb w _ h r => ?_;refine qq r<|ko [U]<|λ_ r=>Bt (m0:=0) (n0:=0) (ca:=some ⟨b,0,none⟩) (cc:=0) (c:=vc) (va:=some ad) (bytes:=8) (wn rfl) rfl rfl r rfl aZ (news:=l) aZ aJ (E:=3) (xs:=([]:List Int)) aZ aZ (Sf h) hv (by simpa using hb) rfl λca cc w _ h r => ?_;rw[Bo]at h r;refine qq r<|ko [U]<|G<|wr <| ?_
  exact xy2 ca cc h
theorem I0{z w:World}{L:List bl}{b:Nat}{x:aY}(h:Fit z (aD (xD b x::L)) w) :
 Calls Tryz.prog 214 #[pA b 0] w λe w=>e= .returned (Z (IZ x))/\Fit z (aD (xD b (Se x)::L)) w:=by
 obtain⟨k,h⟩:=h.rR;obtain⟨pa,h⟩:=h.rR;obtain⟨pl,h⟩:=h.rR;obtain⟨pg,h⟩:=h.rR;obtain⟨ca,h⟩:=h.rR;obtain⟨cc,h⟩:=h.rR;obtain⟨l,h⟩:=h.rR;have h:=h.vw;obtain⟨⟨hk,hb,hx⟩,h⟩:=h.Aq;obtain⟨e1,e2,e3⟩:=UK hk hx;have H:=UJ hk hb;rw[e1]at H;generalize hm:(if k=l.length then k else k+1)=m at *;refine ke func214 17 rfl λj=>ks<|ko [U]<|G<|wq<|ks<|ko [U,vB false,vB false]<|cT (rfl:false=false) [6,7,8] [pA b 0,pA b 0,pA b 0]<|vz (rfl:false=false) h 0<|cT (rfl:false=false) [10] [vB false]<|oz (rfl:false=false) (vB false)<|G<|λ_ r=>jw r (b:=false) rfl<|qq r<|wk<|tn<|ks<|ko [U,U,U]<|kL h 0<|qh h.m4.m4.m4.m4 λh=>eW (Md.Fc (H:=H) (h:=h) :) λw h=>ko [U]<|G<|wr <| ?_;exact fU (Fit.mw m<|Fit.mw pa<|Fit.mw pl<|Fit.mw pg<|Fit.mw ca<|Fit.mw cc<|Fit.mw l<|Fit.uh _ L<|Fit.yC ⟨e2,hb,e3⟩ h.m4)
theorem UM{z w:World}{L:List bl}{va:fB}{vc:Nat}{l:List Int}(hv:bI L 1 aK va l)(h:Fit z (aD L) w)(hb:l.length*8<=140737488355328) :
 Calls Tryz.prog 39 #[.slice va l.length vc,vB false] w λe w =>∃b,e= .returned (pA b 0)/\Fit z (aD (xD b ⟨l⟩::L)) w:=by
 refine ke func39 12 rfl λj=>ks<|kN h #[vB false] 4 λpg w h=>ko [U]<|G<|ks<|ko [U]<|UE (UL (va:=va) (vc:=vc) (bI.up (L':=pts pg (.cells #[vB false] 4)::L) 1 hv) h hb :) λca cc w h=>kN h #[.slice none 0 0] 28 λpl w h=>kS h 0 (pts pl (.cells #[.slice ca l.length cc] 28)) λw h=>G<|ks<|kN h #[Z 0] 3 λpa w h=>kS h 0 (pts pa (.cells #[Z 0] 3)) λw h=>G<|ks<|ko [U,U]<|kN h #[.func (.func 65) #[] #[pA pa 0,pA pl 0,pA pg 0]] 158 λb w h=>ko [U]<|G<|wr <| ?_
 exact xy1 b (Fit.mw 0<|Fit.mw pa<|Fit.mw pl<|Fit.mw pg<|Fit.mw ca<|Fit.mw cc<|Fit.mw l<|Fit.uh _ L<|Fit.yC ⟨w7 _,hb,rfl⟩ h)
theorem CN{z w:World}{L:List bl}{va:fB}{c:Nat}{l:List Int}(h:Fit z (aD L) w)(hv:bI L 1 aK va l)(hb:l.length*8<=140737488355328) :
 Calls Tryz.prog 16 #[.slice va l.length c] w λe w =>∃b,e= .returned (pA b 0)/\Fit z (aD (xD b ⟨l⟩::L)) w:=by
 refine ke func16 5 rfl λj=>ks<|ko [U]<|G<|ks<|ko [U]<|xc1 (UM (vc:=c) hv h hb :) λb w h=>ko [U]<|G<|wr <| ?_
 exact xy1 b h
end Mo
end
section
namespace GX
open Go Go.RowKit SL
def AE{α:Type}[Inhabited α](l:List α)(lo m:Nat):List α:=(List.range m).map λj=>J l (lo+j)
theorem Fe{α:Type}[Inhabited α](l:List α)(lo m:Nat):(AE l lo m).length=m:=by simp[AE]
theorem Zk{α:Type}{enc:α->List Value}(he:uD enc 1):∀(m:List α) (k:Nat),(m.drop k).flatMap enc=(m.flatMap enc).drop k
 | [],k=>by simp
 | x::m,0=>by simp
 | x::m,k+1=>by
  obtain⟨u,hu⟩:=List.length_eq_one_iff.1 (he.len x);rw[sN,Zk he m k,OW,hu];rfl
theorem UN{α:Type}{enc:α->List Value}(he:uD enc 1):∀(m:List α) (k:Nat),(m.take k).flatMap enc=(m.flatMap enc).take k
 | [],k=>by simp
 | x::m,0=>by simp
 | x::m,k+1=>by
  obtain⟨u,hu⟩:=List.length_eq_one_iff.1 (he.len x);rw[qy,OW,UN he m k,OW,hu];rfl
theorem aas{α:Type}[Inhabited α]{A:List Value}{N f lo m:Nat}{enc:α->List Value}{l:List α}(he:uD enc 1)(hA:A.length=f)(hm:lo+m<=N):((A++eA N enc l).drop (f+lo)).take m=(AE l lo m).flatMap enc:=by
 subst hA;rw[List.drop_append,Qk I,Bo,Nat.add_sub_cancel_left,Dp,<-Zk he,<-UN he]
 congr 1
 apply List.ext_getElem
 ·simp[AE];omega
 ·intro i h1 h2;simp[AE]
section
variable {P:Program}{ops:Array Oper}{Q:Exit->Act->World->Prop}{a:Act}{w w0 w1:World}{rest:List Oper}{o:Oper}{n d t T T2:Nat}{v:Value}{l:List (Nat×Value)}{j e:Nat->Value}{L:List bl}{Df:List Deferred}
theorem abV{x y y':Operand}{k k':IntKind}{lo hi:Int}{B off N:Nat}{E:TypeId}{w':World}(ho:o.op= .slice t x (some y) (some y') none)(hx:eO e x= .pointer (some ⟨B,off,none⟩))(hy:eO e y= .int k lo)(hy':eO e y'= .int k' hi)
 (ht:P.underlying t=some (.array N E)) (hs:(P.info? E).map (·.size)=some 1) (hg:0<=lo/\lo<=hi/\hi<=N/\lo<N):(execOp (eO e) o).run P w'= .ok (.value (.slice (some ⟨B,off+lo.toNat,none⟩) (hi.toNat-lo.toNat) (N-lo.toNat))) w':=by
 obtain⟨h0,h1,h2,h3⟩:=hg;obtain⟨p,rfl⟩:=Int.eq_ofNat_of_zero_le h0;obtain⟨q,rfl⟩:=Int.eq_ofNat_of_zero_le (Int.le_trans h0 h1);have g1:p<=q:=by omega
 have g2:q<=N:=by omega
 have g6:¬N=p:=by omega
 unfold execOp;cases hq:P.info? E with
 | none=>simp[hq]at hs
 | some z =>
  simp[hq]at hs;simp[ho,hx,hy,hy',Instr.sliceAt,Instr.slice,Instr.sliceBounds,Instr.sliceBound,run_underlying ht,asIntOf,asAddr,g1,g2,g6,sizeOf,typeInfo,hq,hs,w4,Instr.sureAddr]
theorem O9{s x:Operand}{α β:Type}{sz n0 cc i f N cv i2 f2 lo m:Nat}{enc:α->List Value}{jz:β->List Value}{xs:List α}{ca:fB}{ys:List β}{E agd:TypeId}{p q p2:α}(hw:vM o ops a)(hd:o.dst=some d)(hn:Nat.blt d n=true)(hr:cR Df n (lk l j) a)
 (ho:o.op= .call {callee:=.builtin .copy,args:=#[s,x],argTypes:=#[t,t]}) (hs:eO (lk l j) s= .slice (some ⟨dJ ca,i*sz+f,none⟩) N N) (hx:eO (lk l j) x= .slice (some ⟨dJ ca,i2*sz+f2+lo,none⟩) m cv)
 (he:uD enc sz) (hi:uD jz 1) (hty:P.underlying t=some (.slice agd)) (hsz:(P.info? agd).map (·.size)=some 1) (hm:ys.length=m) (hlen:m<=N)
 (hF:Fit w0 (aD (rowOf E sz enc (.slice ca n0 cc) xs::L)) w) (hp2:xs[i2]? = some p2) (hcs:((enc p2).drop (f2+lo)).take m=ys.flatMap jz) (hp:xs[i]? = some p) (hfit:f+m<=sz) (hq:enc q=(enc p).take f++ys.flatMap jz++(enc p).drop (f+m))
 (k:∀w1 a,Fit w0 (aD (rowOf E sz enc (.slice ca n0 cc) (xs.set i q)::L)) w1->cR Df n (lk ((d,.int .i64 ((m:Nat):Int))::l) j) a->wpList P ops Q rest a w1):wpList P ops Q (o::rest) a w:=by
 subst hm;have Zl:=hF.IM he (f:=f2+lo) (xs:=ys.flatMap jz) hp2 (by rw[show(ys.flatMap jz).length=ys.length by rw[hi.flat ys,Nat.mul_one]];exact hcs);rw[<-Nat.add_assoc]at Zl;have G6:i<xs.length:=(List.getElem?_eq_some_iff.1 hp).1;have hn':=hF.rS;obtain⟨hca,D2⟩:=hF.tW I;obtain⟨GS,FQ⟩:=D2.zq;obtain⟨cur,Xh,M9,hP⟩:=D2.qK;have hle:i*sz+sz<=xs.length*sz:=by
  have:(i+1)*sz<=xs.length*sz:=s9 _ G6;rw[vn]at this;omega
 have aah:xs.length*sz<=cc*sz:=s9 _ GS;have hfl:(ys.flatMap jz).length=ys.length:=by rw[hi.flat ys,Nat.mul_one]
 have hmin:Nat.min ys.length N=ys.length:=zo hlen;have hcells:(Builtin.firstCells 1 ys.length (.slice (some ⟨dJ ca,i2*sz+f2+lo,none⟩) ys.length cv)).run P w= .ok (ys.flatMap jz).toArray w:=
  run_firstCells_some (P:=P) w 1 ys.length _ _ _ (ys.flatMap jz) (by rw[hfl,Nat.mul_one]) (wK Zl)
 have hst:=run_storeCells_at P (dJ ca) (i*sz+f) E (ys.flatMap jz) 0 cur w hP.block (by rw[hfl];omega) (hi.As ys);simp only[w6]at hst;refine sV (w1:=w.setRow (dJ ca) (cur.toList.take (i*sz+f)++ys.flatMap jz++cur.toList.drop (i*sz+f+(ys.flatMap jz).length)).toArray) (v:=.int .i64 ((ys.length:Nat):Int)) hw hd hn hr ?_ (λa hr=>k _ a (Fit.Ay ?_ hca (by rw[gU];exact hn')) hr)
 ·unfold execOp;cases yE:P.info? agd with
  | none=>simp[yE]at hsz
  | some q =>
   simp[yE]at hsz;simp only[ho,resolve,invoke,builtin,n9,uR,oa,GN,BX,Cy,hs,hx];simp[Builtin.copy_,run_underlying hty,Builtin.lenOf,sizeOf,typeInfo,yE,hsz,hmin,hcells,hst,goInt]
 ·refine(hP.turn (w':=w.setRow (dJ ca) (cur.toList.take (i*sz+f)++ys.flatMap jz++cur.toList.drop (i*sz+f+(ys.flatMap jz).length)).toArray) (setRow_heap w (dJ ca) cur _ E (0,0) hP.block) (λk hk _=>setRow_other w (dJ ca) k _ hk) rfl rfl rfl (by simp)).head λz hz=>⟨by simpa using GS,FQ,_,?_,?_,hz⟩
  ·simp only[DY,jM,vO,Cx,vP];omega
  ·have Zh:((xs.flatMap enc).drop (i*sz)).take sz=enc p:=by
    apply Ap
    intro k;rw[List.getElem?_take];by_cases hk:k<sz
    ·rw[bg hk,List.getElem?_drop];exact he.get xs i k p hp hk
    ·rw[cQ hk,List.getElem?_eq_none (by rw[he.len];omega)]
   rw[<-hfl]at hq hfit;generalize ys.flatMap jz=vs at hq hfit hst⊢;rw[gU,he.set xs i q G6,hq,<-Zh,Em _ _ _ _ _ hfit (by rw[he.flat];exact hle),<-M9];have hA:(cur.toList.take (i*sz+f)).length=i*sz+f:=by rw[vO,vP];omega
   have e1:(cur.toList.take (i*sz+f)++vs++cur.toList.drop (i*sz+f+vs.length)).take (xs.length*sz)=cur.toList.take (i*sz+f)++vs++(cur.toList.drop (i*sz+f+vs.length)).take (xs.length*sz-(i*sz+f+vs.length)):=by
    rw[KF,GK (by rw[jM,hA];omega),jM,hA]
   rw[KG,e1,List.take_take,zo I,KH]
end
end GX
end
end Go.Proofs.YtaiffafelihaaaaGreatDoor

/- plunderlaw11.WorkerJoins answers true for every input of the bulk that the statement names, and leaves its input alone. Conditions: none. -/
import Derived.Below
import Derived.OwnWalk
import Derived.Deep.Draws
import Derived.Laws.AppendOwn
import Derived.Laws.OwnMore
import Derived.Laws.MakeOwn
import Derived.Laws.CopyRow
import Derived.StillTail
import Derived.Deep.Quiet
import Derived.KernelRfl
import Derived.IntWalk
import Derived.Laws.StructEq
import Derived.Test.YtpikpffbcjpmcaaGreatDoorProg
import Derived.Carry
import Derived.ChangeSlices
import Derived.ChangeOld
import Derived.Deep.Fields
import Derived.Deep.Slices
import Derived.DataReads
import Derived.OpenShut
import Derived.Test.YtpikpffbcjpmcaaGreatDoorRows
import Derived.FnData
import Derived.Scope
import Derived.Laws.IdiomRangeMap
import Derived.Defers
import Derived.Laws.LoneSync
import Derived.Conc.MuLone
import Derived.Recover
import Derived.ArgAppend
import Derived.ChangeKeysEq
import Derived.Test.YtpikpffbcjpmcaaGreatDoorCards
import Derived.Test.YtpikpffbcjpmcaaGreatDoorTie
import Derived.WalkKit
import Derived.ProofKit
import Derived.SizedLaws
import Derived.JoinedCond
import Derived.Deep.DeepHandedRow
import Derived.Lib.LaidTab
import Derived.LaidMore
import Derived.SevenTiedAt
set_option linter.unusedVariables false
set_option linter.unusedSimpArgs false
set_option linter.unusedSectionVars false
set_option maxRecDepth 100000
set_option maxHeartbeats 4000000
set_option autoImplicit true
set_option relaxedAutoImplicit true
namespace Go.Proofs.YtpikpffbcjpmcaaGreatDoor
open Proofs.Tryz
theorem bp{p:Prop}(h:p:=by kernel_rfl):p:=h
theorem I{p:Prop}(h:p:=by omega):p:=h
theorem eF{p:Prop}(h:p:=by decide):p:=h
theorem pX{p:Prop}(h:p:=by intro e;cases e):p:=h
abbrev fO:=Option Addr
abbrev tL(o:Oper)(ops:Array Oper)(a:Act):Prop:=Region.wanted o (yielded ops a.tmps)=true
abbrev dx(p:Prop)[Decidable p]:Value:=.bool (decide p)
theorem ct{c:Prop}{h:Decidable c}(hn:¬c){α:Sort _}{t e:α}:ite c t e=e:=if_neg hn
theorem aP{c:Prop}{h:Decidable c}(hn:c){α:Sort _}{t e:α}:ite c t e=t:=if_pos hn
theorem cz:True:=trivial
theorem ez{c:Prop}{h:Decidable c}{α:Sort _}{t e:α}(hn:¬c:=by omega):ite c t e=e:=if_neg hn
theorem pR{c:Prop}{h:Decidable c}{α:Sort _}{t e:α}(hn:c:=by omega):ite c t e=t:=if_pos hn
theorem dJ{β:Type}{x k c:β}(h:x=c){d:Decidable (x=k)}{α:Sort _}{t e:α}(hn:¬c=k:=by decide):ite (x=k) t e=e:=if_neg (h▸hn)
abbrev G5:=@Nat.le_trans
abbrev j5:=@Nat.le_refl
abbrev MJ:=@List.flatMap_cons
abbrev jM:=@List.length_append
abbrev zS:=@List.length_cons
abbrev tM:=@Nat.add_mul
abbrev MK:=@Nat.add_comm
abbrev Ag:=@Nat.zero_add
abbrev uB:=@List.take_zero
abbrev yQ:=@List.nil_append
abbrev Ia:=@List.drop_append_of_le_length
abbrev yg:=@List.drop_of_length_le
abbrev Et:=@List.take_of_length_le
abbrev Ib:=@List.take_append
abbrev pS:=@List.append_assoc
abbrev rm:=@Nat.mul_le_mul_right
abbrev yh:=@List.ext_getElem?
abbrev tN:=@List.length_take
abbrev zE:=@Nat.min_eq_left
abbrev gY:=@List.length_set
abbrev BR:=@List.size_toArray
abbrev CG:=@List.flatMap_append
abbrev Eu:=@List.take_left
abbrev Ew:=@List.eq_nil_of_length_eq_zero
abbrev yj:=@List.length_nil
abbrev Ah:=@List.length_drop
abbrev tO:=@Array.length_toList
abbrev u3:=@Go.Addr.add_lit
abbrev oH:=@Nat.le_of_ble_eq_true
abbrev w8:=@Array.getD_eq_getD_getElem?
abbrev N6:=@Nat.eq_of_beq_eq_true
abbrev mV:=@Go.Sem.run_bind
abbrev mW:=@Go.Result.andThen_ok
abbrev sO:=@Go.Sem.run_pure
abbrev Ex:=@Nat.add_zero
abbrev Ic:=@List.toList_toArray
abbrev Ie:=@List.drop_take
abbrev uw:=@Option.map_some
abbrev Kn:=@Nat.le_mul_of_pos_right
abbrev Ey:=@List.map_toArray
abbrev zF:=@List.map_cons
abbrev Ai:=@List.map_nil
abbrev mo:=@List.length_replicate
abbrev cO:=@Int.toNat_natCast
abbrev lP:=@Bool.and_eq_true
abbrev vJ:=@beq_iff_eq
abbrev Ig:=@Nat.add_left_comm
abbrev mX:=@congrArg
abbrev sC:=@List.mem_cons
abbrev sD:=@List.not_mem_nil
abbrev sE:=@or_false
abbrev FF:=@List.map_append
abbrev xb:=@Bool.or_eq_true
abbrev Ih:=@Bool.false_eq_true
abbrev zG:=@Nat.lt_or_ge
abbrev Ko:=@Go.Region.noSelect_spec
abbrev oI:=@List.take_succ_cons
abbrev wm:=@List.perm_middle
abbrev sP:=@List.cons_append
abbrev zH:=@List.append_nil
abbrev Ii:=@Nat.add_assoc
abbrev Aj:=@decide_eq_true_eq
abbrev tP:=@decide_eq_true
abbrev Ij:=@decide_eq_false
abbrev FG:=@List.take_append_drop
abbrev Kp:=@List.ext_getElem
abbrev N7:=@List.drop_eq_nil_of_le
abbrev BS:=@List.length_map
abbrev oJ:=@Option.getD_some
abbrev Ez:=@Nat.succ_mul
abbrev N8:=@Go.MapKept.run_getObj_map
abbrev mY:=@List.drop_zero
abbrev N9:=@List.drop_eq_getElem_cons
abbrev BT:=@Nat.zero_le
abbrev qH:=@List.drop_succ_cons
abbrev gU:=@Nat.lt_succ_self
abbrev Ik:=@List.mem_cons_of_mem
abbrev Il:=@List.singleton_append
abbrev pT:=@Int.ofNat_zero
abbrev FH:=@List.length_singleton
abbrev Ak:=@Prod.ext
abbrev iB:=@List.set_set
abbrev EA:=@Int.emod_nonneg
abbrev EB:=@Int.emod_lt_of_pos
abbrev xd:=@Int.le_refl
abbrev Oa:=@List.getLastD_eq_getLast?
abbrev FJ:=@Nat.mod_eq_of_lt
abbrev Kq:=@Nat.le_succ_of_le
abbrev rq:=@List.getElem_toArray
abbrev ru:=@List.getElem_cons_zero
abbrev ry:=@List.getElem_cons_succ
abbrev rz:=@Array.getInternal_eq_getElem
abbrev zI:=@and_true
section
namespace SL
open Go Go.RowKit
abbrev Hp:=Nat->Option Obj
abbrev aZ:=Hp->Prop
def Hp.none:Hp:=λ_=>Option.none
def Hp.add(a b:Hp):Hp:=λk=>match a k with | some o=>some o | Option.none=>b k
def Hp.EK(a b:Hp):Prop:=∀k,a k=Option.none∨b k=Option.none
def Mv:aZ:=λh=>h=Hp.none
def sep(P Q:aZ):aZ:=λh =>∃a b,a.EK b/\h=a.add b/\P a/\Q b
def pts(b:Nat)(o:Obj):aZ:=λh=>h=λk=>if k=b then some o else Option.none
def PG(p:Prop):aZ:=λh=>p/\h=Hp.none
def exs{α:Type}(P:α->aZ):aZ:=λh =>∃x,P x h
def aB:List aZ->aZ
 | []=>Mv
 | P::L=>sep P (aB L)
theorem Hp.uC{a b:Hp}(h:a.EK b):b.EK a:=λk=>(h k).symm
theorem Hp.add_comm{a b:Hp}(h:a.EK b):a.add b=b.add a:=by
 funext k
 unfold Hp.add;rcases h k with h | h<;>rw[h]<;>cases a k<;>cases b k<;>simp_all
theorem Hp.add_assoc(a b c:Hp):(a.add b).add c=a.add (b.add c):=by
 funext k;unfold Hp.add;cases a k<;>rfl
theorem Hp.Al{a b c:Hp}(h1:a.EK b)(h2:a.EK c):a.EK (b.add c):=λk=>by
 rcases h1 k with h | h
 ·exact .inl h
 ·rcases h2 k with h' | h'
  ·exact .inl h'
  ·exact .inr (by unfold Hp.add;rw[h,h'])
theorem Hp.EC{a b c:Hp}(h:a.EK (b.add c)):a.EK b/\a.EK c:=by
 constructor
 ·intro k;rcases h k with h | h
  ·exact .inl h
  ·refine .inr ?_;unfold Hp.add at h;cases hb:b k with
   | none=>rfl
   | some o=>rw[hb]at h;exact absurd h (by simp)
 ·intro k;rcases h k with h | h
  ·exact .inl h
  ·refine .inr ?_;unfold Hp.add at h;cases hb:b k with
   | none=>rw[hb]at h;exact h
   | some o=>rw[hb]at h;exact absurd h (by simp)
theorem Hp.Kr(a:Hp):a.add Hp.none=a:=by funext k;unfold Hp.add Hp.none;cases a k<;>rfl
theorem Hp.Ks(a:Hp):Hp.none.add a=a:=rfl
theorem Hp.PJ(a:Hp):a.EK Hp.none:=λ_=>.inr rfl
theorem Hp.Im(a:Hp):Hp.none.EK a:=λ_=>.inl rfl
theorem Kt(P Q:aZ):sep P Q=sep Q P:=by
 funext h
 apply propext
 constructor <;>
 ·rintro ⟨a,b,hd,rfl,hp,hq⟩
  exact⟨b,a,Hp.uC hd,Hp.add_comm hd,hq,hp⟩
theorem DF(P Q R:aZ):sep (sep P Q) R=sep P (sep Q R):=by
 funext h
 apply propext
 constructor
 ·rintro ⟨ab,c,hd,rfl,⟨a,b,hd',rfl,hp,hq⟩,hr⟩
  obtain⟨h1,h2⟩:=Hp.EC (Hp.uC hd);exact⟨a,b.add c,Hp.Al hd' (Hp.uC h1),Hp.add_assoc _ _ _,hp,b,c,Hp.uC h2,rfl,hq,hr⟩
 ·rintro ⟨a,bc,hd,rfl,hp,b,c,hd',rfl,hq,hr⟩
  obtain⟨h1,h2⟩:=Hp.EC hd;exact⟨a.add b,c,Hp.uC (Hp.Al (Hp.uC h2) (Hp.uC hd')),(Hp.add_assoc _ _ _).symm,⟨a,b,h1,rfl,hp,hq⟩,hr⟩
theorem BU(P Q R:aZ):sep P (sep Q R)=sep Q (sep P R):=by
 rw[<-DF,Kt P Q,DF]
theorem Fk(P:aZ):sep P Mv=P:=by
 funext h
 apply propext
 constructor
 ·rintro ⟨a,b,_,rfl,hp,rfl⟩;rw[Hp.Kr];exact hp
 ·intro hp;exact⟨h,Hp.none,Hp.PJ h,(Hp.Kr h).symm,hp,rfl⟩
theorem An(L M:List aZ):aB (L++M)=sep (aB L) (aB M):=by
 induction L with
 | nil=>show aB M=sep Mv (aB M);rw[Kt,Fk]
 | cons P L ih=>show sep P (aB (L++M))=sep (sep P (aB L)) (aB M);rw[ih,DF]
theorem PK{L M:List aZ}(h:L.Perm M):aB L=aB M:=by
 induction h with
 | nil=>rfl
 | cons P _ ih=>show sep P _=sep P _;rw[ih]
 | swap P Q L=>exact BU _ _ _
 | trans _ _ h1 h2=>exact h1.trans h2
def pick(i:Nat)(L:List aZ):List aZ:=match L[i]? with | some P=>P::L.eraseIdx i | Option.none=>L
theorem DG(i:Nat)(L:List aZ):aB (pick i L)=aB L:=by
 unfold pick
 induction L generalizing i with
 | nil=>rfl
 | cons P L ih =>
  cases i with
  | zero=>rfl
  | succ i =>
   have hi:=ih i;simp only[List.getElem?_cons_succ,List.eraseIdx_cons_succ];cases hg:L[i]? with
   | none=>rfl
   | some Q =>
    rw[hg]at hi;show sep Q (sep P (aB (L.eraseIdx i)))=sep P (aB L);rw[<-hi];exact BU _ _ _
structure Fit(w0:World)(P:aZ)(w:World):Prop where
 sat :∃h:Hp,(∀k o,h k=some o->w.heap[k]? = some o)/\P h
 os:w.os=w0.os
 tape:w.tape=w0.tape
 output:w.output=w0.output
 size:w0.heap.size<=w.heap.size
section
variable {w0 w:World}{L M:List aZ}{P Q:aZ}
theorem Fit.imp(h:Fit w0 P w)(i:∀x,P x->Q x):Fit w0 Q w:=
 let ⟨x,hx,hp⟩:=h.sat
 ⟨⟨x,hx,i x hp⟩,h.os,h.tape,h.output,h.size⟩
theorem Fit.eq(h:Fit w0 P w)(e:P=Q):Fit w0 Q w:=e▸ h
theorem Fit.perm(h:Fit w0 (aB L) w)(p:L.Perm M):Fit w0 (aB M) w:=h.eq (PK p)
theorem Fit.pick(h:Fit w0 (aB L) w)(i:Nat):Fit w0 (aB (pick i L)) w:=h.eq (DG i L).symm
theorem Fit.trans{w1:World}{R:aZ}(h:Fit w0 R w1)(k:Fit w1 P w):Fit w0 P w:=
 ⟨k.sat,k.os.trans h.os,k.tape.trans h.tape,k.output.trans h.output,G5 h.size k.size⟩
theorem Fit.self(h:Fit w0 P w):Fit w P w:=⟨h.sat,rfl,rfl,rfl,j5 _⟩
theorem Rr{P P' Q Q':aZ}(hp:∀x,P x->P' x)(hq:∀x,Q x->Q' x)(x:Hp)(h:sep P Q x):sep P' Q' x:=
 let ⟨a,b,hd,e,p,q⟩:=h
 ⟨a,b,hd,e,hp a p,hq b q⟩
theorem Fit.head(h:Fit w0 (aB (P::L)) w)(i:∀x,P x->Q x):Fit w0 (aB (Q::L)) w:=h.imp (Rr i λ_ q=>q)
theorem Fit.drop(h:Fit w0 (aB (P::L)) w):Fit w0 (aB L) w:=
 let ⟨x,hx,a,b,hd,e,p,q⟩:=h.sat
 ⟨⟨b,λk o hk=>hx k o (by
  rw[e];unfold Hp.add;rcases hd k with h1 | h1
  ·rw[h1];exact hk
  ·rw[h1]at hk;cases hk),q⟩,h.os,h.tape,h.output,h.size⟩
theorem Fit.mZ{α:Type}{F:α->aZ}(h:Fit w0 (aB (exs F::L)) w) :∃x,Fit w0 (aB (F x::L)) w:=
 let ⟨x,hx,a,b,hd,e,⟨y,p⟩,q⟩:=h.sat
 ⟨y,⟨⟨x,hx,a,b,hd,e,p,q⟩,h.os,h.tape,h.output,h.size⟩⟩
theorem Fit.jD{α:Type}{F:α->aZ}(x:α)(h:Fit w0 (aB (F x::L)) w):Fit w0 (aB (exs F::L)) w:=h.head λ_ p=>⟨x,p⟩
theorem Fit.yl{p:Prop}(h:Fit w0 (aB (PG p::L)) w):p/\Fit w0 (aB L) w:=
 let ⟨_,_,_,_,_,_,⟨hp,_⟩,_⟩:=h.sat
 ⟨hp,h.drop⟩
theorem Fit.wo{p:Prop}(hp:p)(h:Fit w0 (aB L) w):Fit w0 (aB (PG p::L)) w:=
 h.imp λx hx=>⟨Hp.none,x,Hp.Im x,(Hp.Ks x).symm,⟨hp,rfl⟩,hx⟩
theorem Fit.sn(h:Fit w0 (aB (aB M::L)) w):Fit w0 (aB (M++L)) w:=h.eq (An M L).symm
theorem Fit.rI(M L:List aZ)(h:Fit w0 (aB (M++L)) w):Fit w0 (aB (aB M::L)) w:=h.eq (An M L)
theorem Fit.block{b:Nat}{o:Obj}(h:Fit w0 (aB (pts b o::L)) w):w.heap[b]? = some o:=by
 obtain⟨x,hx,a,c,hd,e,p,q⟩:=h.sat;refine hx b o ?_;rw[e,p];unfold Hp.add;simp
theorem Fit.lt{b:Nat}{o:Obj}(h:Fit w0 (aB (pts b o::L)) w):b<w.heap.size:=(Array.getElem?_eq_some_iff.1 h.block).1
theorem Fit.cell{b:Nat}{cs:Array Value}{t:TypeId}{z:Nat×Nat}(h:Fit w0 (aB (pts b (.cells cs t z)::L)) w)(i:Nat){v:Value}(hv:cs[i]? = some v):w.cell? ⟨b,i,none⟩=some v:=by
 simp only[World.cell?,h.block]
 simpa using hv
theorem Fit.news{b:Nat}{cs:Array Value}{t:TypeId}{z:Nat×Nat}(h:Fit w0 (aB (pts b (.cells cs t z)::L)) w){xs:List Value}(hx:cs.toList=xs):∀j u,xs[j]? = some u->w.cell? ((⟨b,0,none⟩:Addr).add j)=some u:=by
 subst hx;intro j u hu;have e:(⟨b,0,none⟩:Addr).add j=⟨b,j,none⟩:=by unfold Addr.add;split<;>simp_all
 rw[e];exact h.cell j (by simpa using hu)
theorem Fit.free{b:Nat}{cs:Array Value}{t:TypeId}(h:Fit w0 (aB (pts b (.cells cs t)::L)) w)(i:Nat):w.frozen? ⟨b,i,none⟩=false:=by
 simp[World.frozen?,h.block]
theorem Fit.alloc(h:Fit w0 (aB L) w)(o:Obj):Fit w0 (aB (pts w.heap.size o::L)) (w.alloc o):=by
 obtain⟨x,hx,hp⟩:=h.sat;have hlt:∀k o',x k=some o'->k<w.heap.size:=λk o' hk=>(Array.getElem?_eq_some_iff.1 (hx k o' hk)).1;refine⟨⟨_,?_,(λk=>if k=w.heap.size then some o else Option.none),x,?_,rfl,rfl,hp⟩,h.os,h.tape,h.output,?_⟩
 ·intro k o' hk;unfold Hp.add at hk;by_cases e:k=w.heap.size
  ·subst e;simp at hk;subst hk;exact heap_alloc_new w o
  ·simp only[e,if_false]at hk;rw[Below.heap_alloc w o k (hlt k o' hk)];exact hx k o' hk
 ·intro k;by_cases e:k=w.heap.size
  ·right
   cases hk:x k with
   | none=>rfl
   | some o'=>have:=hlt k o' hk;omega
  ·left;simp[e]
 ·have:=h.size;simp;omega
theorem Fit.drew(h:Fit w0 P w):Fit w0 P w.drew:=⟨h.sat,h.os,h.tape,h.output,h.size⟩
theorem Fit.turn{b:Nat}{o o':Obj}{w':World}(h:Fit w0 (aB (pts b o::L)) w)(hb:w'.heap[b]? = some o')(hr:∀k,k≠b->k<w.heap.size->w'.heap[k]? = w.heap[k]?)
 (hos:w'.os=w.os) (ht:w'.tape=w.tape) (ho:w'.output=w.output) (hs:w.heap.size<=w'.heap.size):Fit w0 (aB (pts b o'::L)) w':=by
 obtain⟨x,hx,a,c,hd,e,p,q⟩:=h.sat;refine⟨⟨_,?_,(λk=>if k=b then some o' else Option.none),c,?_,rfl,rfl,q⟩,hos.trans h.os,ht.trans h.tape,ho.trans h.output,G5 h.size hs⟩
 ·intro k o'' hk;unfold Hp.add at hk;by_cases ek:k=b
  ·subst ek;simp at hk;subst hk;exact hb
  ·simp only[ek,if_false]at hk;have hk':x k=some o'':=by rw[e,p];unfold Hp.add;simp[ek,hk]
   have hw:=hx k o'' hk';rw[hr k ek (Array.getElem?_eq_some_iff.1 hw).1];exact hw
 ·intro k;by_cases ek:k=b
  ·right
   rcases hd k with h1 | h1
   ·rw[p]at h1;simp[ek]at h1
   ·exact h1
  ·left;simp[ek]
theorem Fit.set{b:Nat}{cs:Array Value}{t:TypeId}(h:Fit w0 (aB (pts b (.cells cs t)::L)) w)(i:Nat)(v:Value) :
 Fit w0 (aB (pts b (.cells (cs.setIfInBounds i v) t)::L)) (w.setCell ⟨b,i,none⟩ v):=by
 refine h.turn (w':=w.setCell ⟨b,i,none⟩ v) ?_ ?_ rfl rfl rfl (by simp)
 ·simp[World.setCell,Array.getElem?_modify,h.block]
 ·intro k hk _;exact Below.heap_setCell _ _ _ _ hk
end
def old(afs:World):aZ:=λh=>h=λk=>afs.heap[k]?
theorem Fit.begin(afs:World):Fit afs (aB [old afs]) afs:=
 ⟨⟨λk=>afs.heap[k]?,λ_ _ h=>h,by show sep (old afs) Mv _;rw[Fk];exact rfl⟩,rfl,rfl,rfl,j5 _⟩
theorem Fit.below{afs w:World}{L:List aZ}(h:Fit afs (aB (old afs::L)) w):Below afs.heap.size afs w:=by
 obtain⟨x,hx,a,c,hd,e,p,q⟩:=h.sat;refine⟨h.os,h.tape,h.output,h.size,λk hk => ?_⟩;have hk':afs.heap[k]? = some afs.heap[k]:=Array.getElem?_eq_getElem hk;rw[hk'];refine hx k _ ?_;rw[e,p];unfold Hp.add;simp[hk']
theorem Fit.PL{z afs w:World}{L:List aZ}(h:Fit z (aB (old afs::L)) w){k:Nat}{o:Obj}(hk:afs.heap[k]? = some o):w.heap[k]? = some o:=by
 obtain⟨x,hx,a,c,hd,e,p,q⟩:=h.sat;refine hx k _ ?_;rw[e,p];unfold Hp.add;simp[hk]
theorem Fit.Ku{z afs w:World}{L:List aZ}{ad:Addr}{u:Value}(h:Fit z (aB (old afs::L)) w)(hc:afs.cell? ad=some u):w.cell? ad=some u:=by
 have hlt:=World.block_lt_of_cell? afs ad hc;have hk:afs.heap[ad.block]? = some afs.heap[ad.block]:=Array.getElem?_eq_getElem hlt;have:=h.PL hk;simp only[World.cell?]at hc⊢;rw[this];rw[hk]at hc;exact hc
structure sF{α:Type}(enc:α->List Value)(sz:Nat):Prop where
 len:∀x,(enc x).length=sz
 one:∀x,∀u∈enc x,u.oneCell'=true
 pos:0<sz
theorem sF.flat{α:Type}{enc:α->List Value}{sz:Nat}(he:sF enc sz)(l:List α):(l.flatMap enc).length=l.length*sz:=by
 induction l with
 | nil=>simp
 | cons x l ih=>rw[MJ,jM,he.len,ih,zS,tM,Nat.one_mul,MK]
theorem sF.ym{α:Type}{enc:α->List Value}{sz:Nat}(he:sF enc sz)(l:List α):∀u∈l.flatMap enc,u.oneCell'=true:=by
 intro u hu;obtain⟨x,_,hx⟩:=List.mem_flatMap.1 hu;exact he.one x u hx
theorem sF.get{α:Type}{enc:α->List Value}{sz:Nat}(he:sF enc sz)(l:List α)(i f:Nat)(x:α)(hi:l[i]? = some x)(hf:f<sz):(l.flatMap enc)[i*sz+f]? = (enc x)[f]?:=by
 induction l generalizing i with
 | nil=>simp at hi
 | cons y l ih =>
  rw[MJ];cases i with
  | zero =>
   simp at hi;subst hi;rw[Nat.zero_mul,Ag,List.getElem?_append_left (by rw[he.len];exact hf)]
  | succ i =>
   rw[List.getElem?_append_right (by rw[he.len,tM];omega),he.len,show(i+1)*sz+f-sz=i*sz+f by rw[tM];omega];exact ih i (by simpa using hi)
theorem sF.set{α:Type}{enc:α->List Value}{sz:Nat}(he:sF enc sz)(l:List α)(i:Nat)(x:α)(hi:i<l.length) :
 (l.set i x).flatMap enc=(l.flatMap enc).take (i*sz)++enc x++(l.flatMap enc).drop (i*sz+sz):=by
 induction l generalizing i with
 | nil=>simp at hi
 | cons y l ih =>
  cases i with
  | zero =>
   simp only[List.set_cons_zero,MJ,Nat.zero_mul,uB,yQ,Ag]
   congr 1
   rw[Ia (by rw[he.len];exact j5 _),yg (by rw[he.len];exact j5 _),yQ]
  | succ i =>
   simp only[List.set_cons_succ,MJ];rw[ih i (by simpa using hi)];have h1:(i+1)*sz=sz+i*sz:=by rw[tM];omega
   have t1:(enc y).take (sz+i*sz)=enc y:=Et (by rw[he.len];omega);have d1:(enc y).drop (sz+i*sz+sz)=[]:=yg (by rw[he.len];omega);rw[h1,Ib,t1,he.len,show sz+i*sz-sz=i*sz by omega,List.drop_append,d1,he.len,show sz+i*sz+sz-sz=i*sz+sz by omega];simp only[yQ,pS]
def rowOf{α:Type}(e:TypeId)(sz:Nat)(enc:α->List Value)(v:Value)(l:List α):aZ:=λh =>
 (v= .slice none 0 0/\l=[]/\h=Hp.none)∨
 ∃g cap cur,v= .slice (some ⟨g,0,none⟩) l.length cap/\l.length<=cap/\cap<=maxLen/\cur.size=cap*sz/\cur.toList.take (l.length*sz)=l.flatMap enc/\pts g (.cells cur e) h
def slc{α:Type}(e:TypeId)(sz:Nat)(enc:α->List Value)(g cap:Nat)(l:List α):aZ:=λh =>
 l.length<=cap/\cap<=maxLen/\∃cur:Array Value,cur.size=cap*sz/\cur.toList.take (l.length*sz)=l.flatMap enc/\pts g (.cells cur e) h
section
variable {w0 w:World}{L:List aZ}{α:Type}{e:TypeId}{sz:Nat}{enc:α->List Value}{v:Value}{l:List α}{g cap:Nat}
theorem Fit.rows(h:Fit w0 (aB (rowOf e sz enc v l::L)) w):(v= .slice none 0 0/\l=[]/\Fit w0 (aB L) w)∨∃g cap,v= .slice (some ⟨g,0,none⟩) l.length cap/\l.length<=cap/\Fit w0 (aB (slc e sz enc g cap l::L)) w:=by
 obtain⟨x,hx,a,c,hd,ee,hp,q⟩:=h.sat;rcases hp with ⟨h1,h2,h3⟩ | ⟨g,cap,cur,h1,h2,h3,h4,h5,h6⟩
 ·left
  exact⟨h1,h2,h.drop⟩
 ·right
  exact⟨g,cap,h1,h2,⟨x,hx,a,c,hd,ee,⟨h2,h3,cur,h4,h5,h6⟩,q⟩,h.os,h.tape,h.output,h.size⟩
theorem Fit.Rs(h:Fit w0 (aB (rowOf e sz enc v l::L)) w)(hl:0<l.length) :∃g cap,v= .slice (some ⟨g,0,none⟩) l.length cap/\l.length<=cap/\Fit w0 (aB (slc e sz enc g cap l::L)) w:=by
 rcases h.rows with ⟨_,h2,_⟩ | h
 ·rw[h2]at hl;simp at hl
 ·exact h
theorem Fit.Um{ca:fO}{m cc:Nat}(h:Fit w0 (aB (rowOf e sz enc (.slice ca m cc) l::L)) w)(hl:0<l.length) :
 ∃g,ca=some ⟨g,0,none⟩/\Fit w0 (aB (slc e sz enc g cc l::L)) w:=by
 obtain⟨g,cap,e,_,h⟩:=h.Rs hl;simp only[Value.slice.injEq]at e;obtain⟨rfl,_,rfl⟩:=e;exact⟨g,rfl,h⟩
theorem Fit.Wb(h:Fit w0 (aB (slc e sz enc g cap l::L)) w):Fit w0 (aB (rowOf e sz enc (.slice (some ⟨g,0,none⟩) l.length cap) l::L)) w:=
 h.head λ_ ⟨h1,h2,cur,h3,h4,h5⟩=>.inr ⟨g,cap,cur,rfl,h1,h2,h3,h4,h5⟩
theorem Fit.Ob{m:Nat}(hm:m=l.length)(h:Fit w0 (aB (slc e sz enc g cap l::L)) w):Fit w0 (aB (rowOf e sz enc (.slice (some ⟨g,0,none⟩) m cap) l::L)) w:=hm▸ h.Wb
theorem Fit.Un{ca:fO}{m:Nat}(hca:ca=some ⟨g,0,none⟩)(hm:m=l.length)(h:Fit w0 (aB (slc e sz enc g cap l::L)) w):Fit w0 (aB (rowOf e sz enc (.slice ca m cap) l::L)) w:=by
 subst hca;subst hm;exact h.Wb
theorem Fit.fU(h:Fit w0 (aB L) w):Fit w0 (aB (rowOf e sz enc (.slice none 0 0) ([]:List α)::L)) w:=
 h.imp λx hx=>⟨Hp.none,x,Hp.Im x,(Hp.Ks x).symm,.inl ⟨rfl,rfl,rfl⟩,hx⟩
theorem Fit.Fl(h:Fit w0 (aB (rowOf e sz enc v l::L)) w) :∃a cap,v= .slice a l.length cap/\(a=none->l=[]/\cap=0)/\l.length<=cap:=by
 rcases h.rows with ⟨rfl,rfl,_⟩ | ⟨g,cap,rfl,hc,_⟩
 ·exact⟨none,0,rfl,λ_=>⟨rfl,rfl⟩,j5 _⟩
 ·exact⟨_,cap,rfl,(λh=>by cases h),hc⟩
theorem Fit.p7{ca:fO}{m cc:Nat}(h:Fit w0 (aB (rowOf e sz enc (.slice ca m cc) l::L)) w):m=l.length:=by
 obtain⟨a,cap,e,_,_⟩:=h.Fl;simp only[Value.slice.injEq]at e;exact e.2.1
theorem Fit.xe(h:Fit w0 (aB (slc e sz enc g cap l::L)) w):l.length<=cap/\cap<=maxLen:=by
 obtain⟨x,hx,a,c,hd,ee,⟨h1,h2,_⟩,q⟩:=h.sat;exact⟨h1,h2⟩
theorem Fit.oO(h:Fit w0 (aB (slc e sz enc g cap l::L)) w) :∃cur:Array Value,cur.size=cap*sz/\cur.toList.take (l.length*sz)=l.flatMap enc/\Fit w0 (aB (pts g (.cells cur e)::L)) w:=by
 obtain⟨x,hx,a,c,hd,ee,⟨h1,h2,cur,h3,h4,h5⟩,q⟩:=h.sat;exact⟨cur,h3,h4,⟨x,hx,a,c,hd,ee,h5,q⟩,h.os,h.tape,h.output,h.size⟩
theorem Fit.Oc(he:sF enc sz)(h:Fit w0 (aB (slc e sz enc g cap l::L)) w)(i f:Nat)(x:α)(u:Value)(hi:l[i]? = some x)(hf:(enc x)[f]? = some u):w.cell? ⟨g,i*sz+f,none⟩=some u:=by
 obtain⟨cur,h1,h2,h3⟩:=h.oO;have hfs:f<sz:=by rw[<-he.len x];exact(List.getElem?_eq_some_iff.1 hf).1
 have EL:i<l.length:=(List.getElem?_eq_some_iff.1 hi).1;refine h3.cell _ ?_;have h4:=he.get l i f x hi hfs;rw[<-h2,List.getElem?_take]at h4;have:i*sz+f<l.length*sz:=by
  have:(i+1)*sz<=l.length*sz:=rm _ EL;rw[tM]at this;omega
 rw[aP this,hf]at h4
 simpa using h4
theorem Fit.Rt(h:Fit w0 (aB (slc e sz enc g cap l::L)) w)(j:Nat):w.frozen? ⟨g,j,none⟩=false:=by
 obtain⟨cur,h1,h2,h3⟩:=h.oO;exact h3.free j
theorem G6{β:Type}(cur xs:List β)(n i:Nat)(v:β)(h:cur.take n=xs)(_hi:i<n):(cur.set i v).take n=xs.set i v:=by
 subst h;rw[List.take_set]
theorem Uo{β:Type}(A B C:List β)(k f:Nat)(u:β)(hk:k=A.length)(hf:f<B.length):(A++B++C).set (k+f) u=A++B.set f u++C:=by
 subst hk;rw[pS,List.set_append_right _ _ I,show A.length+f-A.length=f by omega,List.set_append_left _ _ hf,pS]
theorem Fit.Up(he:sF enc sz)(h:Fit w0 (aB (slc e sz enc g cap l::L)) w)(i f:Nat)(x y:α)(u:Value)(hi:l[i]? = some x)(hf:f<sz)(hy:enc y=(enc x).set f u) :
 Fit w0 (aB (slc e sz enc g cap (l.set i y)::L)) (w.setCell ⟨g,i*sz+f,none⟩ u):=by
 obtain⟨h1',ZR⟩:=h.xe;obtain⟨cur,h1,h2,h3⟩:=h.oO;have EL:i<l.length:=(List.getElem?_eq_some_iff.1 hi).1;refine(h3.set (i*sz+f) u).head λz hz=>⟨by simpa using h1',ZR,cur.setIfInBounds (i*sz+f) u,by simpa using h1,?_,hz⟩;have hlt:i*sz+f<l.length*sz:=by
  have:(i+1)*sz<=l.length*sz:=rm _ EL;rw[tM]at this;omega
 have FK:l.set i x=l:=by
  apply yh
  intro j;by_cases hj:i=j
  ·subst hj;rw[List.getElem?_set_self EL,hi]
  ·rw[List.getElem?_set_ne hj]
 have hA:((l.flatMap enc).take (i*sz)).length=i*sz:=by
  have hle:i*sz<=l.length*sz:=rm _ (Nat.le_of_lt EL);rw[tN,he.flat];exact zE hle
 have e1:=he.set l i x EL;rw[FK]at e1;rw[Array.toList_setIfInBounds,gY,G6 _ _ _ _ _ h2 hlt,he.set l i y EL,hy]
 conv=>lhs;rw[e1]
 exact Uo _ _ _ _ _ _ hA.symm (by rw[he.len];exact hf)
end
section
variable {P:Program}{w0 w:World}{L:List aZ}{α:Type}{e:TypeId}{sz:Nat}{enc:α->List Value}{v:Value}{l:List α}
theorem FL(he:sF enc sz)(t ty:TypeId)(i:TypeInfo)(z:Value)(bytes:Nat)(ht:P.underlying t=some (.slice e))(hi:P.info? e=some i)(hz:i.zero=some z)
 (hsize:i.size=sz) (hby:i.bytes=bytes) (hzs:z.cells.size=sz) (h:Fit w0 (aB (rowOf e sz enc v l::L)) w)
 (ad:Addr) (m c:Nat) (news:List α) (hm:news.length=m) (hnews:∀j u,(news.flatMap enc)[j]? = some u->w.cell? (ad.add j)=some u)
 (h63:l.length+m<=maxLen) (hbytes:(l.length+m)*bytes<=140737488355328) :
 ∃v' w',(Builtin.append_ #[t,t] ty #[v,.slice (some ad) m c]).run P w= .ok v' w'/\Fit w0 (aB (rowOf e sz enc v' (l++news)::L)) w':=by
 subst hsize;subst hby;have hlen:(news.flatMap enc).length=m*i.size:=by rw[he.flat,hm]
 have Uq:((l.length+m:Nat):Int)<=9223372036854775807:=by simp only[maxLen]at h63;omega
 have grown:∀old,old<l.length+m->Fit w0 (aB L) w->
  Fit w0 (aB (rowOf e i.size enc (.slice (some ⟨w.heap.size,0,none⟩) (l.length+m) (grownCap w (l.length+m) old e)) (l++news)::L))
   (w.drew.alloc (.cells ((l.flatMap enc).toArray++(news.flatMap enc).toArray++Builtin.zeroCells z.cells (grownCap w (l.length+m) old e-(l.length+m))) e)):=by
  intro old ho hF;have hge:=grownCap_ge w (l.length+m) old e;have Zh:grownCap w (l.length+m) old e<=maxLen:=grownCap_le_maxLen w (l.length+m) old e h63;refine(hF.drew.alloc _).head λx hx=>.inr ⟨w.heap.size,_,_,by rw[jM,hm],by rw[jM,hm];exact hge,Zh,?_,?_,hx⟩
  ·simp only[Array.size_append,BR,size_zeroCells,hzs,he.flat,hm,<-tM]
   congr 1
   omega
  ·rw[CG,jM,hm];simp only[Array.toList_append];rw[show(l.length+m)*i.size=((l.flatMap enc)++(news.flatMap enc)).length by rw[jM,hlen,he.flat,tM]];exact Eu
 rcases h.rows with ⟨rfl,rfl,hF⟩ | ⟨g,cap,rfl,hc,hF⟩
 ·by_cases Ru:m=0
  ·subst Ru;have hn:news=[]:=Ew hm;subst hn;refine⟨.slice none 0 0,w,?_,hF.fU⟩;simp[Builtin.append_,run_underlying ht,sizeOf,typeInfo,hi,Builtin.lenOf,Builtin.firstCells,loadCells,loadCellsFrom]
  ·have hr:=run_append_nil (P:=P) w t ty e i z ht hi hz ad m c (news.flatMap enc) hlen hnews I (by simp at Uq;omega) (by have hb:=hbytes;simp only[yj,Ag]at hb;omega);have hg:=grown 0 I hF;simp only[yj,Ag,yQ,List.flatMap_nil,Array.empty_append]at hg;exact⟨_,_,hr,by simpa using hg⟩
 ·obtain⟨cur,hs,Zi,hP⟩:=hF.oO;obtain⟨_,Zh⟩:=hF.xe;by_cases hroom:l.length+m<=cap
  ·have hfit:l.length*i.size+(news.flatMap enc).length<=cur.size:=by rw[hlen,hs,<-tM];exact rm _ hroom
   have hr:=run_append_room (P:=P) w t ty e i ht hi g l.length cap cur hP.block ad m c (news.flatMap enc) hlen hnews (he.ym news) hroom hfit;refine⟨_,_,hr,?_⟩;refine(hP.turn (w':=w.setRow g (cur.toList.take (l.length*i.size)++news.flatMap enc++cur.toList.drop (l.length*i.size+(news.flatMap enc).length)).toArray) (setRow_heap w g cur _ e _ hP.block) (λk hk _=>setRow_other w g k _ hk) rfl rfl rfl (by simp)).head ?_;intro x hx;refine .inr ⟨g,cap,_,by rw[jM,hm],by rw[jM,hm];exact hroom,Zh,?_,?_,hx⟩
   ·simp only[BR,jM,tN,Ah,tO];omega
   ·rw[Zi,CG,jM,hm];rw[show(l.length+m)*i.size=((l.flatMap enc)++(news.flatMap enc)).length by rw[jM,hlen,he.flat,tM]];exact Eu
  ·have holds:∀j u,(l.flatMap enc)[j]? = some u->w.cell? ((⟨g,0,none⟩:Addr).add j)=some u:=by
    intro j u hu;rw[u3,Ag];refine hP.cell j ?_;rw[<-Zi,List.getElem?_take]at hu;split at hu
    ·simpa using hu
    ·cases hu
   have hr:=run_append_grow (P:=P) w t ty e i z ht hi hz ⟨g,0,none⟩ l.length cap (l.flatMap enc) (he.flat l) holds ad m c (news.flatMap enc) hlen hnews I Uq (growslice_fits I hbytes);exact⟨_,_,hr,grown cap I hP.drop⟩
end
end SL
end
section
namespace GX
open Go Go.RowKit SL
def lk:List (Nat×Value)->(Nat->Value)->Nat->Value
 | [],j,t=>j t
 | (k,v)::r,j,t=>bif Nat.beq t k then v else lk r j t
def eM(e:Nat->Value):Operand->Value
 | .tmp t=>e t
 | .const v=>v
 | .global g=>.pointer (some ⟨g,0,none⟩)
 | .func f=>.func (.func f) #[] #[]
structure cK(D:List Deferred)(n:Nat)(e:Nat->Value)(a:Act):Prop where
 size:a.tmps.size=n
 get:∀t,a.tmps.getD t undef=e t
 defers:a.defers=D
abbrev kI(n:Nat)(e:Nat->Value)(a:Act):Prop:=cK [] n e a
section
variable {P:Program}{ops:Array Oper}{Q:Exit->Act->World->Prop}{a:Act}{w w0 w1:World}{rest:List Oper}{o:Oper}{n d t:Nat}{v:Value}{l:List (Nat×Value)}{j e:Nat->Value}{L:List aZ}{H:aZ}{Df:List Deferred}
theorem cK.eval(h:cK Df n e a):a.eval=eM e:=by
 funext x
 cases x with
 | tmp t=>exact h.get t
 | _=>rfl
theorem cK.put(h:cK Df n (lk l j) a)(d:Nat)(v:Value)(hd:Nat.blt d n=true):cK Df n (lk ((d,v)::l) j) (a.put (some d) v):=by
 have hd':d<a.tmps.size:=by rw[h.size];exact oH hd
 refine⟨by simp[Act.put,h.size],λt => ?_,h.defers⟩;show(a.tmps.setIfInBounds d v).getD t undef=bif Nat.beq t d then v else lk l j t;rw[<-h.get t];by_cases e:t=d
 ·subst e;simp[w8,hd']
 ·have hb:Nat.beq t d=false:=by
   cases hb:Nat.beq t d with
   | false=>rfl
   | true=>exact absurd (N6 hb) e
  rw[hb];simp[w8,Array.getElem?_setIfInBounds_ne (Ne.symm e)]
def allEq(e:Nat->Value):List (Nat×Value)->Prop
 | []=>True
 | (t,v)::r=>e t=v/\allEq e r
theorem u4:∀{l:List (Nat×Value)},allEq e l->lk l e=e
 | [],_=>rfl
 | (k,v)::r,h=>by
  funext t
  show(bif Nat.beq t k then v else lk r e t)=e t;rw[u4 h.2];cases hb:Nat.beq t k with
  | false=>rfl
  | true=>have:=N6 hb;subst this;exact h.1.symm
theorem cK.fold(h:cK Df n e a)(l:List (Nat×Value))(hl:allEq e l) :∃j,cK Df n (lk l j) a:=⟨e,by rw[u4 hl];exact h⟩
theorem wn(h:o.guard=none):Region.wanted o (yielded ops a.tmps)=true:=by simp[Region.wanted,h]
theorem wg{i:Nat}{b b':Bool}(hr:cK Df n e a)(hg:o.guard=some (i,b))(hi:(ops[i]?).bind (·.dst)=some t)(ht:Nat.blt t n=true)(he:e t= .bool b') :
 Region.wanted o (yielded ops a.tmps)=(b'==b):=by
 have ht':t<a.tmps.size:=by rw[hr.size];exact oH ht
 have hg2:a.tmps[t]? = some (.bool b'):=by
  have:=hr.get t;rw[he,w8,Array.getElem?_eq_getElem ht']at this;rw[Array.getElem?_eq_getElem ht']
  simpa using this
 simp only[Region.wanted,hg,yielded,hi,Option.bind_some,hg2];cases b'<;>cases b<;>rfl
theorem vQ(hw:tL o ops a)(h:o.wp P a w (wpList P ops Q rest) Q):wpList P ops Q (o::rest) a w:=by
 unfold wpList;rw[aP hw];exact .inl h
theorem yR(hw:tL o ops a)(hd:o.dst=some d)(hn:Nat.blt d n=true)(hr:cK Df n (lk l j) a)
 (hrun:(execOp (eM (lk l j)) o).run P w= .ok (.value v) w) (k:∀a,cK Df n (lk ((d,v)::l) j) a->wpList P ops Q rest a w):wpList P ops Q (o::rest) a w:=by
 refine vQ hw ?_;unfold Oper.wp;rw[hr.eval,hrun,Oper.upon_value,hd];exact k _ (hr.put d v hn)
theorem qX(hw:tL o ops a)(hd:o.dst=some d)(hn:Nat.blt d n=true)(hr:cK Df n (lk l j) a)
 (hrun:(execOp (eM (lk l j)) o).run P w= .ok (.value v) w1) (k:∀a,cK Df n (lk ((d,v)::l) j) a->wpList P ops Q rest a w1):wpList P ops Q (o::rest) a w:=by
 refine vQ hw ?_;unfold Oper.wp;rw[hr.eval,hrun,Oper.upon_value,hd];exact k _ (hr.put d v hn)
theorem CH(hw:tL o ops a)(hd:o.dst=none)(hr:cK Df n (lk l j) a)
 (hrun:(execOp (eM (lk l j)) o).run P w= .ok .skip w1) (k:wpList P ops Q rest a w1):wpList P ops Q (o::rest) a w:=by
 refine vQ hw ?_;unfold Oper.wp;rw[hr.eval,hrun,Oper.upon_skip,hd];exact k
theorem ML(hw:Region.wanted o (yielded ops a.tmps)=false)(hd:o.dst=some d)(hn:Nat.blt d n=true)(hr:cK Df n (lk l j) a)
 (k:∀a,cK Df n (lk ((d,undef)::l) j) a->wpList P ops Q rest a w):wpList P ops Q (o::rest) a w:=by
 unfold wpList;rw[dJ hw,hd];exact k _ (hr.put d undef hn)
theorem MM{cs:Array Value}{T:TypeId}{vf:Nat->Value}(hw:tL o ops a)(hd:o.dst=some d)(hn:Nat.blt d n=true)(hr:cK Df n (lk l j) a)(hF:Fit w0 (aB L) w)
 (hrun:(execOp (eM (lk l j)) o).run P w= .ok (.value (vf w.heap.size)) (w.alloc (.cells cs T)))
 (k:∀b w1 a,Fit w0 (aB (pts b (.cells cs T)::L)) w1->cK Df n (lk ((d,vf b)::l) j) a->wpList P ops Q rest a w1):wpList P ops Q (o::rest) a w:=
 qX hw hd hn hr hrun λ_ Io=>k _ _ _ (hF.alloc _) Io
theorem s9{f:FuncId}{args:Array Value}{R:Ending->World->Prop}(hw:tL o ops a)(hd:o.dst=some d)(hn:Nat.blt d n=true)(hr:cK Df n (lk l j) a)
 (hrun:(execOp (eM (lk l j)) o).run P w= .ok (.enter f args) w) (hc:Calls P f args w R)
 (k:∀e w1,R e w1->∃v,e= .returned v/\∀a,cK Df n (lk ((d,v)::l) j) a->wpList P ops Q rest a w1):wpList P ops Q (o::rest) a w:=by
 refine vQ hw ?_;unfold Oper.wp;rw[hr.eval,hrun,Oper.upon_enter,hd];refine hc.mono λe w1 h => ?_;obtain⟨v,rfl,h2⟩:=k e w1 h;exact h2 _ (hr.put d v hn)
theorem rb{b c:Bool}{s:Sem Next}{w w':World}(h:s.run P w= .ok (.value (.bool b)) w')(hz:b=c):s.run P w= .ok (.value (.bool c)) w':=hz▸ h
theorem i64_in(x:Int)(h:-9223372036854775808<=x/\x<=9223372036854775807):IntKind.i64.wrap x=x:=IntWalk.i64_in _ h
def wu:Option TypeDesc->Bool
 | some (.struct _)=>false
 | some (.array _ _)=>false
 | some _=>true
 | none=>false
theorem I0{t:TypeId}(h:wu (P.underlying t)=true):(isAgg t).run P w= .ok false w:=by
 cases hu:P.underlying t with
 | none=>rw[hu]at h;cases h
 | some D =>
  rw[hu]at h;simp only[isAgg,mV,run_underlying hu,mW];cases D<;>first | rfl | cases h
theorem rl{x:Operand}{ad:Addr}(ho:o.op= .load t x)(hx:eM e x= .pointer (some ad))(hu:wu (P.underlying t)=true)(hc:w.cell? ad=some v) :
 (execOp (eM e) o).run P w= .ok (.value v) w:=by
 unfold execOp;simp only[ho,Instr.loadAt,hx,Instr.sureAddr,loadVar,mV,sO,mW,I0 hu];simp[go_sem,hc]
theorem rs{x y:Operand}{ad:Addr}{u:Value}(ho:o.op= .store t x y)(hx:eM e x= .pointer (some ad))(hy:eM e y=v)(hv:v.cells=#[v])(h1:v.oneCell'=true)(hs:(P.info? t).map (·.size)=some 1)(hc:w.cell? ad=some u)(hf:w.frozen? ad=false) :
 (execOp (eM e) o).run P w= .ok .skip (w.setCell ad v):=by
 have hst:(Instr.storeAt t (.pointer (some ad)) v).run P w= .ok () (w.setCell ad v):=by
  cases hi:P.info? t with
  | none=>simp[hi]at hs
  | some i =>
   simp[hi]at hs;have ha:ad.add 0=ad:=by unfold Addr.add;rw[aP rfl]
   simp only[Instr.storeAt,Instr.sureAddr,storeVar,mV,sO,mW,sizeOf,typeInfo,hv,run_program,hi];simp[storeCells,ha,hs,run_store P w ad v _ h1,hc,hf]
 unfold execOp;simp only[ho,hx,hy,mV,hst,mW,sO]
theorem G7{c x y:Operand}{b:Bool}(ho:o.op= .pick c x y)(hc:eM e c= .bool b)(hb:b=true)(hx:eM e x=v):(execOp (eM e) o).run P w= .ok (.value v) w:=by
 subst hb;subst hx;unfold execOp;simp[ho,hc,asBool]
theorem I1{c x y:Operand}{b:Bool}(ho:o.op= .pick c x y)(hc:eM e c= .bool b)(hb:b=false)(hx:eM e y=v):(execOp (eM e) o).run P w= .ok (.value v) w:=by
 subst hb;subst hx;unfold execOp;simp[ho,hc,asBool]
theorem ri{x y:Operand}{g off len cap:Nat}{k:IntKind}{i:Int}{E:TypeId}{sz:Nat}(ho:o.op= .indexAddr t x y)(hx:eM e x= .slice (some ⟨g,off,none⟩) len cap)(hy:eM e y= .int k i)
 (ht:P.underlying t=some (.slice E)) (hs:(P.info? E).map (·.size)=some sz) (h0:0<=i) (h1:i<len):(execOp (eM e) o).run P w= .ok (.value (.pointer (some ⟨g,off+i.toNat*sz,none⟩))) w:=by
 unfold execOp;simp only[ho,hx,hy];cases hi:P.info? E with
 | none=>simp[hi]at hs
 | some q =>
  simp[hi]at hs;simp[Instr.indexAt,run_underlying ht,asIntOf,h0,h1,sizeOf,typeInfo,hi,hs,u3]
theorem ri0{x y:Operand}{g len cap:Nat}{k:IntKind}{i:Int}{E:TypeId}{sz:Nat}(ho:o.op= .indexAddr t x y)(hx:eM e x= .slice (some ⟨g,0,none⟩) len cap)(hy:eM e y= .int k i)
 (ht:P.underlying t=some (.slice E)) (hs:(P.info? E).map (·.size)=some sz) (h0:0<=i) (h1:i<len):(execOp (eM e) o).run P w= .ok (.value (.pointer (some ⟨g,i.toNat*sz,none⟩))) w:=by
 have:=ri (w:=w) ho hx hy ht hs h0 h1
 rwa [Ag]at this
theorem Xe{x y:Operand}{g len cap:Nat}{ca:fO}{k:IntKind}{i:Int}{E:TypeId}{sz:Nat}(hca:ca=some ⟨g,0,none⟩)(ho:o.op= .indexAddr t x y)(hx:eM e x= .slice ca len cap)(hy:eM e y= .int k i)
 (ht:P.underlying t=some (.slice E)) (hs:(P.info? E).map (·.size)=some sz) (h0:0<=i) (h1:i<len):(execOp (eM e) o).run P w= .ok (.value (.pointer (some ⟨g,i.toNat*sz,none⟩))) w:=
 ri0 ho (hca▸ hx) hy ht hs h0 h1
theorem rie{x y:Operand}{g off len cap:Nat}{ca:fO}{k:IntKind}{i:Int}{E:TypeId}{sz:Nat}(hca:ca=some ⟨g,off,none⟩)(ho:o.op= .indexAddr t x y)(hx:eM e x= .slice ca len cap)(hy:eM e y= .int k i)
 (ht:P.underlying t=some (.slice E)) (hs:(P.info? E).map (·.size)=some sz) (h0:0<=i) (h1:i<len):(execOp (eM e) o).run P w= .ok (.value (.pointer (some ⟨g,off+i.toNat*sz,none⟩))) w:=
 ri ho (hca▸ hx) hy ht hs h0 h1
theorem Rv{x y:Operand}{k:IntKind}{p q:Int}{T T':TypeId}(ho:o.op= .binOp .rem T x y T')(hx:eM e x= .int k p)(hy:eM e y= .int k q)(hq:q≠0):(execOp (eM e) o).run P w= .ok (.value (.int k (p.tmod q))) w:=by
 unfold execOp;simp[ho,hx,hy,eqGuard,binOp,Op.intDiv,hq]
theorem acP{x y:Operand}{k:IntKind}{p q:Int}{T T':TypeId}(ho:o.op= .binOp .quo T x y T')(hx:eM e x= .int k p)(hy:eM e y= .int k q)(hq:q≠0):(execOp (eM e) o).run P w= .ok (.value (.int k (k.wrap (p.tdiv q)))) w:=by
 unfold execOp;simp[ho,hx,hy,eqGuard,binOp,Op.intDiv,hq]
theorem Kv{K:Act->World->Prop}(h:K a w):Exit.then K Q .normal a w:=h
theorem FM{i:Nat}(h:Q .normal a w):Exit.inBlock i Q .normal a w:=h
theorem Rw{i:Nat}(h:Q .normal a w):Exit.inBlock i Q (.exit i) a w:=by show(if i=i then _ else _);rw[aP rfl];exact h
theorem DH{i i':Nat}(hne:i'≠i)(h:Q (.exit i') a w):Exit.inBlock i Q (.exit i') a w:=by show(if i'=i then _ else _);rw[ct hne];exact h
theorem FN{c:Operand}{x y:Code}{b:Bool}(hr:cK Df n e a)(hc:eM e c= .bool b)(hb:b=true)(h:x.wp P Q a w):(Code.cond c x y).wp P Q a w:=
 wp_cond_true (by rw[hr.eval,hc,hb]) h
theorem FO{c:Operand}{x y:Code}{b:Bool}(hr:cK Df n e a)(hc:eM e c= .bool b)(hb:b=false)(h:y.wp P Q a w):(Code.cond c x y).wp P Q a w:=
 wp_cond_false (by rw[hr.eval,hc,hb]) h
theorem dO{β:Type}{c:Code}(μ:β->Nat)(afv:β->Act->World->Prop)(x0:β)(h0:afv x0 a w)
 (round:∀x a w,afv x a w->c.wp P (Exit.then (λa w =>∃x',afv x' a w/\μ x'<μ x) Q) a w):(Code.loop c).wp P Q a w:=by
 have key:∀m x a w,μ x=m->afv x a w->∀b k cs,∃e a' w',Q e a' w'/\Arrives P (lone (b.at a (.code c:: .inLoop c::k)) cs w) b k cs e a' w':=by
  intro m
  induction m using Nat.strongRecOn with
  | _ m ih =>
   intro x a w hm hI b k cs;obtain⟨e,a1,w1,hq,Kw⟩:=round x a w hI b (.inLoop c::k) cs;cases e with
   | normal =>
    obtain⟨x',hI',hlt⟩:=hq;obtain⟨e2,a2,w2,hq2,ZS⟩:=ih (μ x') (hm▸ hlt) x' a1 w1 rfl hI' b k cs;exact⟨e2,a2,w2,hq2,.of_steps (Steps.trans Kw (.one step_inLoop)) ZS⟩
   | exit id=>exact⟨_,a1,w1,hq,.pass (x:=.inLoop c) rfl (λ_ _=>.inl (by simp)) Kw⟩
   | goto l=>exact⟨_,a1,w1,hq,.pass (x:=.inLoop c) rfl (λ_ _=>.inl (by simp)) Kw⟩
   | ret=>exact⟨_,a1,w1,hq,.pass (x:=.inLoop c) rfl (λ_ _=>.inl (by simp)) Kw⟩
   | panic ch=>exact⟨_,a1,w1,hq,.pass (x:=.inLoop c) rfl (λ_ _=>.inl (by simp)) Kw⟩
   | outgrown=>exact⟨_,a1,w1,hq,.pass (x:=.inLoop c) rfl (λ_ _=>.inl (by simp)) Kw⟩
 intro b k cs;obtain⟨e,a',w',hq,Kw⟩:=key _ x0 a w rfl h0 b k cs;exact⟨e,a',w',hq,.of_steps (.one step_loop) Kw⟩
theorem cW{β:Type}{x y:Code}(afv:β->Act->World->Prop)(h:x.wp P (Exit.then (λa w =>∃g,afv g a w) Q) a w)(k:∀g a w,afv g a w->y.wp P Q a w):(Code.seq x y).wp P Q a w:=
 wp_seq (Code.wp_mono (λe a w q=>by
  cases e with
  | normal=>obtain⟨g,hg⟩:=q;exact k g a w hg
  | _=>exact q) h)
theorem FP(args:Array Value)(m t:Nat):(args++Array.replicate m undef).getD t undef=args.getD t undef:=by
 simp only[w8,Array.getElem?_append,Array.getElem?_replicate];by_cases h:t<args.size
 ·rw[aP h]
 ·rw[ct h,Array.getElem?_eq_none I];split<;>rfl
theorem enter{f:FuncId}{fn:Func}{c:Code}{args:Array Value}{R:Ending->World->Prop}(hf:P.funcs[f]? = some fn)(hb:fn.body=some c)(n:Nat)(hn:fn.ntmps=n)(hs:Nat.ble args.size n=true)
 (l:List (Nat×Value)) (hl:allEq (λt=>args.getD t undef) l) (k:∀j a,kI n (lk l j) a->c.wp P (bodyPost P fn R) a w):Calls P f args w R:=by
 refine calls_of_wp hf hb (k (λt=>args.getD t undef) _ ?_);rw[u4 hl];refine⟨?_,λt=>FP args _ t,rfl⟩;have:=oH hs;simp[hn];omega
theorem yn{fn:Func}{R:Ending->World->Prop}{t:Nat}(hres:fn.results=#[.tmp t])(hr:kI n e a)(hv:e t=v)(h:R (.returned v) w):bodyPost P fn R .ret a w:=
 bodyPost_ret (by rw[results_tmp hres,hr.get,hv]) hr.defers h
theorem FQ{fn:Func}{R:Ending->World->Prop}{t t':Nat}{v':Value}(hres:fn.results=#[.tmp t,.tmp t'])(hr:kI n e a)(hv:e t=v)(Xf:e t'=v')(h:R (.returned (.tuple #[v,v'])) w):bodyPost P fn R .ret a w:=
 bodyPost_ret (by rw[results_tmp2 hres,hr.get,hr.get,hv,Xf]) hr.defers h
theorem Kx{fn:Func}{R:Ending->World->Prop}(hres:fn.results=#[])(hr:kI n e a)(h:R (.returned (.tuple #[])) w):bodyPost P fn R .ret a w:=
 bodyPost_ret (results_none hres _ _ _) hr.defers h
theorem p9{fn:Func}{R:Ending->World->Prop}(hres:fn.results=#[])(hr:kI n e a)(h:R (.returned (.tuple #[])) w):bodyPost P fn R .normal a w:=
 bodyPost_end (results_none hres _ _ _) hr.defers h
end
def J{α:Type}[Inhabited α](l:List α)(i:Nat):α:=l.getD i default
theorem get_at{α:Type}[Inhabited α]{l:List α}{i:Nat}(h:i<l.length):l[i]? = some (J l i):=by
 unfold J;rw[List.getD_eq_getElem?_getD,List.getElem?_eq_getElem h];rfl
theorem tB{α:Type}[Inhabited α]{l:List α}{i:Nat}{x:α}(h:i<l.length):J (l.set i x) i=x:=by
 unfold J;rw[List.getD_eq_getElem?_getD,List.getElem?_set_self h];rfl
theorem yo{α:Type}[Inhabited α]{l:List α}{i k:Nat}{x:α}(h:i≠k):J (l.set i x) k=J l k:=by
 unfold J;rw[List.getD_eq_getElem?_getD,List.getElem?_set_ne h,List.getD_eq_getElem?_getD]
theorem rV{α:Type}[Inhabited α]{l m:List α}{i:Nat}(h:i<l.length):J (l++m) i=J l i:=by
 unfold J;rw[List.getD_eq_getElem?_getD,List.getElem?_append_left h,List.getD_eq_getElem?_getD]
theorem vw{α:Type}[Inhabited α]{l m:List α}{i:Nat}(h:l.length<=i):J (l++m) i=J m (i-l.length):=by
 unfold J;rw[List.getD_eq_getElem?_getD,List.getElem?_append_right h,List.getD_eq_getElem?_getD]
theorem dH{α:Type}{l:List α}{i:Nat}{x:α}(h:i<l.length):(l.set i x)[i]? = some x:=List.getElem?_set_self h
def qJ(w:World)(b:Nat):Nat->List Value->Prop
 | _,[]=>True
 | off,v::r=>w.cell? ⟨b,off,none⟩=some v/\qJ w b (off+1) r
theorem v5{w:World}{b:Nat}:∀{cs:List Value} {off:Nat},qJ w b off cs->∀j v,cs[j]? = some v->w.cell? ((⟨b,off,none⟩:Addr).add j)=some v
 | [],_,_,j,v,h=>by simp at h
 | u::r,off,hh,j,v,h=>by
  cases j with
  | zero=>simp at h;subst h;rw[u3];exact hh.1
  | succ j =>
   have:=v5 hh.2 j v (by simpa using h);rw[u3]at this⊢;rw[show off+(j+1)=off+1+j by omega];exact this
section
variable {P:Program}{ops:Array Oper}{Q:Exit->Act->World->Prop}{a:Act}{w w0 w1:World}{rest:List Oper}{o:Oper}{n d t:Nat}{v:Value}{l:List (Nat×Value)}{j e:Nat->Value}{L:List aZ}{H:aZ}{Df:List Deferred}
def tQ:Option TypeDesc->Bool
 | some (.struct _)=>true
 | some (.array _ _)=>true
 | _=>false
theorem uR{t:TypeId}(h:tQ (P.underlying t)=true):(isAgg t).run P w= .ok true w:=by
 cases hu:P.underlying t with
 | none=>rw[hu]at h;cases h
 | some D =>
  rw[hu]at h;simp only[isAgg,mV,run_underlying hu,mW];cases D<;>first | rfl | cases h
theorem rlm{x:Operand}{b off:Nat}{cs:List Value}(ho:o.op= .load t x)(hx:eM e x= .pointer (some ⟨b,off,none⟩))(hu:tQ (P.underlying t)=true)
 (hs:(P.info? t).map (·.size)=some cs.length) (hc:qJ w b off cs):(execOp (eM e) o).run P w= .ok (.value (.agg cs.toArray)) w:=by
 have hl:=run_loadCells_list (P:=P) w ⟨b,off,none⟩ cs (v5 hc);unfold execOp;cases hi:P.info? t with
 | none=>simp[hi]at hs
 | some q =>
  simp[hi]at hs;simp only[ho,Instr.loadAt,hx,Instr.sureAddr,loadVar,mV,sO,mW,uR hu,if_true,sizeOf,typeInfo,run_program,hi,hs,hl]
theorem Rx{fn:Func}{R:Ending->World->Prop}{t T b off:Nat}{cs:List Value}(hres:fn.results=#[.cell t T])(hr:kI n e a)(hv:e t= .pointer (some ⟨b,off,none⟩))(hu:tQ (P.underlying T)=true)
 (hs:(P.info? T).map (·.size)=some cs.length) (hc:qJ w b off cs) (h:R (.returned (.agg cs.toArray)) w):bodyPost P fn R .ret a w:=by
 have hl:=run_loadCells_list (P:=P) w ⟨b,off,none⟩ cs (v5 hc);refine bodyPost_ret ?_ hr.defers h;cases hi:P.info? T with
 | none=>simp[hi]at hs
 | some q =>
  simp[hi]at hs;have hg:=hr.get t;rw[hv,w8]at hg;simp[results,hres,hg,asAddr,loadVar,uR hu,sizeOf,typeInfo,hi,hs,hl]
theorem PM{fn:Func}{R:Ending->World->Prop}{t T b off u:Nat}{cs:List Value}(hres:fn.results=#[.cell t T,.tmp u])(hr:kI n e a)(hv:e t= .pointer (some ⟨b,off,none⟩))(Xf:e u=v)(hu:tQ (P.underlying T)=true)
 (hs:(P.info? T).map (·.size)=some cs.length) (hc:qJ w b off cs) (h:R (.returned (.tuple #[.agg cs.toArray,v])) w):bodyPost P fn R .ret a w:=by
 have hl:=run_loadCells_list (P:=P) w ⟨b,off,none⟩ cs (v5 hc);refine bodyPost_ret ?_ hr.defers h;cases hi:P.info? T with
 | none=>simp[hi]at hs
 | some q =>
  simp[hi]at hs;have hg:=hr.get t;rw[hv,w8]at hg;have Ky:=hr.get u;rw[Xf,w8]at Ky;simp[results,hres,hg,Ky,asAddr,loadVar,uR hu,sizeOf,typeInfo,hi,hs,hl]
theorem Ry{x y:Operand}{b i:Nat}{cs:Array Value}{T:TypeId}{u:Value}(hw:tL o ops a)(hd:o.dst=none)(hr:cK Df n (lk l j) a)(ho:o.op= .store t x y)
 (hx:eM (lk l j) x= .pointer (some ⟨b,i,none⟩)) (hy:eM (lk l j) y=v) (hv:v.cells=#[v]) (h1:v.oneCell'=true) (hs:(P.info? t).map (·.size)=some 1)
 (hF:Fit w0 (aB (pts b (.cells cs T)::L)) w) (hc:cs[i]? = some u) (k:∀w1,Fit w0 (aB (pts b (.cells (cs.setIfInBounds i v) T)::L)) w1->wpList P ops Q rest a w1):wpList P ops Q (o::rest) a w:=
 CH hw hd hr (rs ho hx hy hv h1 hs (hF.cell i hc) (hF.free i)) (k _ (hF.set i v))
theorem Ip{x y:Operand}{b:Nat}{cs cs':Array Value}{T:TypeId}{vs:List Value}(hw:tL o ops a)(hd:o.dst=none)(hr:cK Df n (lk l j) a)(ho:o.op= .store t x y)
 {i:Nat} (hx:eM (lk l j) x= .pointer (some ⟨b,i,none⟩)) (hy:eM (lk l j) y= .agg vs.toArray) (h1:vs.all (·.oneCell')=true) (hfit:Nat.ble (i+vs.length) cs.size=true) (hs:(P.info? t).map (·.size)=some vs.length)
 (hF:Fit w0 (aB (pts b (.cells cs T)::L)) w) (hcs:(cs.toList.take i++vs++cs.toList.drop (i+vs.length)).toArray=cs') (k:∀w1,Fit w0 (aB (pts b (.cells cs' T)::L)) w1->wpList P ops Q rest a w1):wpList P ops Q (o::rest) a w:=by
 have hst:=run_storeCells_at P b i T vs 0 cs w hF.block (by simpa using oH hfit) (by simpa using h1);simp only[Ex,hcs]at hst;refine CH (w1:=w.setRow b cs') hw hd hr ?_ (k _ ?_)
 ·unfold execOp;cases hi:P.info? t with
  | none=>simp[hi]at hs
  | some q =>
   simp[hi]at hs;simp only[ho,hx,hy,Instr.storeAt,Instr.sureAddr,storeVar,mV,sO,mW,sizeOf,typeInfo,run_program,hi,Value.cells];simp[hs,hst]
 ·exact hF.turn (w':=w.setRow b cs') (setRow_heap w b cs cs' T (0,0) hF.block) (λk hk _=>setRow_other w b k _ hk) rfl rfl rfl (by simp)
section
variable {α:Type}{E:TypeId}{sz g cap:Nat}{enc:α->List Value}{xs:List α}
theorem I2{x y:Operand}(hw:tL o ops a)(hd:o.dst=none)(hr:cK Df n (lk l j) a)(ho:o.op= .store t x y)
 {i f:Nat} (hx:eM (lk l j) x= .pointer (some ⟨g,i*sz+f,none⟩)) (hy:eM (lk l j) y=v) (hv:v.cells=#[v]) (h1:v.oneCell'=true) (hs:(P.info? t).map (·.size)=some 1)
 (he:sF enc sz) (hF:Fit w0 (aB (slc E sz enc g cap xs::L)) w) {p q:α} (hp:xs[i]? = some p) (hf:f<sz) (hq:enc q=(enc p).set f v)
 (k:∀w1,Fit w0 (aB (slc E sz enc g cap (xs.set i q)::L)) w1->wpList P ops Q rest a w1):wpList P ops Q (o::rest) a w:=by
 have hu:(enc p)[f]? = some (enc p)[f]!:=by
  have:f<(enc p).length:=by rw[he.len];exact hf
  rw[List.getElem?_eq_getElem this,List.getElem!_eq_getElem?_getD,List.getElem?_eq_getElem this]
  rfl
 exact CH hw hd hr (rs ho hx hy hv h1 hs (hF.Oc he i f p _ hp hu) (hF.Rt _)) (k _ (hF.Up he i f p q v hp hf hq))
theorem G8{x y:Operand}{vs:List Value}(hw:tL o ops a)(hd:o.dst=none)(hr:cK Df n (lk l j) a)(ho:o.op= .store t x y)
 {i:Nat} (hx:eM (lk l j) x= .pointer (some ⟨g,i*sz,none⟩)) (hy:eM (lk l j) y= .agg vs.toArray) (h1:vs.all (·.oneCell')=true) (hs:(P.info? t).map (·.size)=some vs.length)
 (he:sF enc sz) (hF:Fit w0 (aB (slc E sz enc g cap xs::L)) w) {q:α} (hi:i<xs.length) (hq:enc q=vs)
 (k:∀w1,Fit w0 (aB (slc E sz enc g cap (xs.set i q)::L)) w1->wpList P ops Q rest a w1):wpList P ops Q (o::rest) a w:=by
 obtain⟨GY,EM⟩:=hF.xe;obtain⟨cur,Wc,Kz,hP⟩:=hF.oO;have hvl:vs.length=sz:=by rw[<-hq,he.len]
 have hle:i*sz+sz<=xs.length*sz:=by
  have:(i+1)*sz<=xs.length*sz:=rm _ hi;rw[tM]at this;omega
 have Xg:xs.length*sz<=cap*sz:=rm _ GY;have hst:=run_storeCells_at P g (i*sz) E vs 0 cur w hP.block (by rw[hvl];omega) (by simpa using h1);simp only[Ex]at hst;refine CH (w1:=w.setRow g (cur.toList.take (i*sz)++vs++cur.toList.drop (i*sz+vs.length)).toArray) hw hd hr ?_ (k _ ?_)
 ·unfold execOp;cases wz:P.info? t with
  | none=>simp[wz]at hs
  | some q =>
   simp[wz]at hs;simp only[ho,hx,hy,Instr.storeAt,Instr.sureAddr,storeVar,mV,sO,mW,sizeOf,typeInfo,run_program,wz,Value.cells];simp[hs,hst]
 ·refine(hP.turn (w':=w.setRow g (cur.toList.take (i*sz)++vs++cur.toList.drop (i*sz+vs.length)).toArray) (setRow_heap w g cur _ E (0,0) hP.block) (λk hk _=>setRow_other w g k _ hk) rfl rfl rfl (by simp)).head λz hz=>⟨by simpa using GY,EM,_,?_,?_,hz⟩
  ·simp only[BR,jM,tN,Ah,tO,hvl];omega
  ·rw[gY,he.set xs i q hi,hq,<-Kz];have hA:(cur.toList.take (i*sz)).length=i*sz:=by rw[tN,tO];omega
   have e1:(cur.toList.take (i*sz)++vs++cur.toList.drop (i*sz+vs.length)).take (xs.length*sz)=cur.toList.take (i*sz)++vs++(cur.toList.drop (i*sz+vs.length)).take (xs.length*sz-(i*sz+sz)):=by
    rw[Ib,Et (by rw[jM,hA,hvl];exact hle),jM,hA,hvl]
   rw[Ic,e1,List.take_take,zE I,Ie,hvl]
theorem kQ{ca:fO}{n0 cc bytes:Nat}{s x:Operand}{ad:Addr}{m c:Nat}(hw:tL o ops a)(hd:o.dst=some d)(hn:Nat.blt d n=true)(hr:cK Df n (lk l j) a)
 (ho:o.op= .call {callee:=.builtin .append,args:=#[s,x],argTypes:=#[t,t]}) (hs:eM (lk l j) s= .slice ca n0 cc) (hx:eM (lk l j) x= .slice (some ad) m c)
 (he:sF enc sz) (hty:P.underlying t=some (.slice E)) (qK:(P.info? E).map (λi=>(i.size,i.bytes,i.zero.map (·.cells.size)))=some (sz,bytes,some sz))
 (hF:Fit w0 (aB (rowOf E sz enc (.slice ca n0 cc) xs::L)) w) {news:List α} (hm:news.length=m) (hnews:∀j u,(news.flatMap enc)[j]? = some u->w.cell? (ad.add j)=some u)
 (hb:(xs.length+m)*bytes<=140737488355328) (Mw:Nat.blt 0 bytes=true)
 (k:∀ca cc w1 a,Fit w0 (aB (rowOf E sz enc (.slice ca (xs++news).length cc) (xs++news)::L)) w1->cK Df n (lk ((d,.slice ca (xs++news).length cc)::l) j) a->wpList P ops Q rest a w1):wpList P ops Q (o::rest) a w:=by
 have GZ:=hF.p7;subst GZ;cases hi:P.info? E with
 | none=>simp[hi]at qK
 | some i =>
  simp only[hi,uw,Option.some.injEq,Prod.mk.injEq]at qK;obtain⟨i1,i2,i3⟩:=qK;cases hz:i.zero with
  | none=>simp[hz]at i3
  | some zv =>
   simp only[hz,uw,Option.some.injEq]at i3;have KA:0<bytes:=oH Mw;have h63:xs.length+m<=maxLen:=by
    have:xs.length+m<=(xs.length+m)*bytes:=Kn _ KA;simp only[maxLen];omega
   obtain⟨v',w',hrun,BV⟩:=FL (P:=P) he t o.type i zv bytes hty hi hz i1 i2 i3 hF ad m c news hm hnews h63 hb;obtain⟨a',cap',e,_,_⟩:=BV.Fl;subst e;refine qX hw hd hn hr ?_ (λa hr=>k a' cap' w' a BV hr);unfold execOp;simp only[ho,resolve,invoke,builtin,mV,sO,mW,Ey,zF,Ai,hs,hx,hrun]
end
end
section
variable {α:Type}{sz:Nat}{enc:α->List Value}
theorem FT(he:sF enc sz)(zc:Array Value)(z0:α)(hz:zc.toList=enc z0)(n:Nat) :
 ((Array.range (n*sz)).map λi=>zc[i%zc.size]!).toList=(List.replicate n z0).flatMap enc:=by
 have hs:zc.size=sz:=by rw[<-tO,hz,he.len]
 have hpos:=he.pos
 apply yh
 intro i;rw[Array.toList_map,Array.toList_range,List.getElem?_map];by_cases hi:i<n*sz
 ·have hd:i/sz<n:=(Nat.div_lt_iff_lt_mul hpos).2 hi;have hm:i%sz<sz:=Nat.mod_lt _ hpos;have hg:=he.get (List.replicate n z0) (i/sz) (i%sz) z0 (by rw[List.getElem?_replicate,aP hd]) hm;rw[show i/sz*sz+i%sz=i by rw[Nat.mul_comm];exact Nat.div_add_mod i sz]at hg;rw[hg,List.getElem?_range hi,<-hz,hs];have hm':i%sz<zc.size:=by omega
  simp[hm']
 ·rw[List.getElem?_eq_none (by simp;omega),List.getElem?_eq_none (by rw[he.flat,mo];omega)]
  rfl
end
section
variable {P:Program}{ops:Array Oper}{Q:Exit->Act->World->Prop}{a:Act}{w w0 w1:World}{rest:List Oper}{o:Oper}{n d t:Nat}{v:Value}{l:List (Nat×Value)}{j e:Nat->Value}{L:List aZ}{H:aZ}{Df:List Deferred}
variable {α:Type}{E:TypeId}{sz g cap:Nat}{enc:α->List Value}{xs:List α}
theorem Od{bytes:Nat}{zc:Array Value}(h:(P.info? E).map (λi=>(i.size,i.bytes,i.zero.map (·.cells)))=some (sz,bytes,some zc)) :
 ∃i z,P.info? E=some i/\i.size=sz/\i.bytes=bytes/\i.zero=some z/\z.cells=zc:=by
 cases hi:P.info? E with
 | none=>simp[hi]at h
 | some i =>
  simp only[hi,uw,Option.some.injEq,Prod.mk.injEq]at h;obtain⟨h1,h2,h3⟩:=h;cases hz:i.zero with
  | none=>simp[hz]at h3
  | some z=>exact⟨i,z,rfl,h1,h2,hz,by simpa [hz]using h3⟩
theorem Ur{x y:Operand}{c:Nat}{i:Int}{bytes:Nat}{zc:Array Value}(z0:α)(hw:tL o ops a)(hd:o.dst=some d)(hn:Nat.blt d n=true)(hr:cK Df n (lk l j) a)
 (ho:o.op= .makeSlice t x y) (hx:eM (lk l j) x= .int .i64 i) (hy:eM (lk l j) y= .int .i64 i) (hi:i=c) (he:sF enc sz) (hty:P.underlying t=some (.slice E))
 (qK:(P.info? E).map (λi=>(i.size,i.bytes,i.zero.map (·.cells)))=some (sz,bytes,some zc)) (hz:zc.toList=enc z0) (hb:c*bytes<=140737488355328) (Mw:Nat.blt 0 bytes=true) (hF:Fit w0 (aB L) w)
 (k:∀g w1 a,Fit w0 (aB (slc E sz enc g c (List.replicate c z0)::L)) w1->cK Df n (lk ((d,.slice (some ⟨g,0,none⟩) c c)::l) j) a->wpList P ops Q rest a w1):wpList P ops Q (o::rest) a w:=by
 obtain⟨q,z,hq,h1,h2,h3,h4⟩:=Od qK;have KA:0<bytes:=oH Mw;have hc:c<=c*bytes:=Kn _ KA;subst hi;have hcb:((q.bytes:Nat):Int)*(c:Int)<=281474976710656:=by
  have acQ:((c*bytes:Nat):Int)<=140737488355328:=by omega
  rw[h2,Int.mul_comm];simp only[Int.natCast_mul]at acQ;omega
 have hrun:=run_make (P:=P) w t E q z hty hq h3 .i64 .i64 (c:Int) (c:Int) I I hcb I;have hs:zc.size=sz:=by rw[<-tO,hz,he.len]
 have hcells:(madeCells z.cells ((c:Int).toNat*q.size)).toList=(List.replicate c z0).flatMap enc:=by
  rw[h1,h4,cO];exact FT he zc z0 hz c
 refine qX (w1:=w.alloc (.cells (madeCells z.cells ((c:Int).toNat*q.size)) E)) hw hd hn hr (v:=.slice (some ⟨w.heap.size,0,none⟩) c c) ?_ (λa hr=>k w.heap.size _ a ?_ hr)
 ·unfold execOp;simp only[ho,hx,hy,mV,hrun,mW,sO,cO]
 ·refine(hF.alloc _).head λx hx=>⟨by simp,by simp only[maxLen];omega,_,?_,?_,hx⟩
  ·rw[<-tO,hcells,he.flat,mo]
  ·rw[hcells,mo,Et (by rw[he.flat,mo];exact j5 _)]
theorem Us{s x:Operand}{ca:fO}{n0 n1 cc:Nat}{ys:List α}(hw:tL o ops a)(hd:o.dst=some d)(hn:Nat.blt d n=true)(hr:cK Df n (lk l j) a)
 (ho:o.op= .call {callee:=.builtin .copy,args:=#[s,x],argTypes:=#[t,t]}) (hs:eM (lk l j) s= .slice (some ⟨g,0,none⟩) n0 cap) (hx:eM (lk l j) x= .slice ca n1 cc) (GZ:n0=xs.length)
 (he:sF enc sz) (hty:P.underlying t=some (.slice E)) (hsz:(P.info? E).map (·.size)=some sz) (hlen:ys.length=xs.length)
 (hF:Fit w0 (aB (slc E sz enc g cap xs::rowOf E sz enc (.slice ca n1 cc) ys::L)) w)
 (k:∀w1 a,Fit w0 (aB (slc E sz enc g cap ys::rowOf E sz enc (.slice ca n1 cc) ys::L)) w1->cK Df n (lk ((d,.int .i64 ((xs.length:Nat):Int))::l) j) a->wpList P ops Q rest a w1):wpList P ops Q (o::rest) a w:=by
 have Mx:=(hF.pick 1).p7;subst Mx;subst GZ;obtain⟨GY,EM⟩:=hF.xe;obtain⟨cur,Wc,Kz,hP⟩:=hF.oO;have hcells:(Builtin.firstCells sz (Nat.min ys.length xs.length) (.slice ca ys.length cc)).run P w= .ok (ys.flatMap enc).toArray w:=by
  rw[hlen,show Nat.min xs.length xs.length=xs.length from Nat.min_self _,<-hlen];rcases(hF.pick 1).rows with ⟨e1,e2,_⟩ | ⟨g',cap',e1,_,BV⟩
  ·simp only[Value.slice.injEq]at e1;rw[e1.1,e2];exact run_firstCells_none (P:=P) w sz _ _ _
  ·simp only[Value.slice.injEq]at e1;rw[e1.1];obtain⟨cur',acR,Xh,hP'⟩:=BV.oO;refine run_firstCells_some (P:=P) w sz ys.length _ _ _ (ys.flatMap enc) (he.flat ys) ?_;intro j u hu;rw[u3,Ag];refine hP'.cell j ?_;rw[<-Xh,List.getElem?_take]at hu;split at hu
   ·simpa using hu
   ·cases hu
 have hfl:(ys.flatMap enc).length=xs.length*sz:=by rw[he.flat,hlen]
 have hle:xs.length*sz<=cap*sz:=rm _ GY;have hst:=run_storeCells_at P g 0 E (ys.flatMap enc) 0 cur w hP.block (by rw[hfl,Wc];omega) (he.ym ys);simp only[Ex,Ag,uB,yQ]at hst;refine qX (w1:=w.setRow g (ys.flatMap enc++cur.toList.drop (ys.flatMap enc).length).toArray) (v:=.int .i64 ((xs.length:Nat):Int)) hw hd hn hr ?_ (λa hr=>k _ a ?_ hr)
 ·unfold execOp;cases wz:P.info? E with
  | none=>simp[wz]at hsz
  | some q =>
   simp[wz]at hsz;have hmin:Nat.min ys.length xs.length=xs.length:=by rw[hlen];exact Nat.min_self _
   have ZT:Nat.min xs.length xs.length=xs.length:=Nat.min_self _;simp only[ho,resolve,invoke,builtin,mV,sO,mW,Ey,zF,Ai,hs,hx];rw[hmin]at hcells;rw[hlen]at hcells;simp[Builtin.copy_,run_underlying hty,Builtin.lenOf,sizeOf,typeInfo,wz,hsz,hlen,ZT,hcells,hst,goInt]
 ·refine((hP.turn (w':=w.setRow g (ys.flatMap enc++cur.toList.drop (ys.flatMap enc).length).toArray) (setRow_heap w g cur _ E (0,0) hP.block) (λk hk _=>setRow_other w g k _ hk) rfl rfl rfl (by simp)).head λz hz=>⟨by rw[hlen];exact GY,EM,_,?_,?_,hz⟩)
  ·simp only[BR,jM,Ah,tO,hfl];omega
  ·rw[Ic,<-he.flat ys];exact Eu
theorem PN{ca:fO}{n0 cc bytes:Nat}{s x:Operand}{tx:TypeId}{m:Nat}{i:Int}{zc:Array Value}{kx:IntKind}(z0:α)(hw:tL o ops a)(hd:o.dst=some d)(hn:Nat.blt d n=true)(hr:cK Df n (lk l j) a)
 (ho:o.op= .call {callee:=.builtin .append,args:=#[s,x],argTypes:=#[t,tx]}) (hs:eM (lk l j) s= .slice ca n0 cc) (hx:eM (lk l j) x= .int .i64 i) (hi:i=m)
 (he:sF enc sz) (hty:P.underlying t=some (.slice E)) (ZU:P.underlying tx=some (.int kx)) (qK:(P.info? E).map (λi=>(i.size,i.bytes,i.zero.map (·.cells)))=some (sz,bytes,some zc)) (hz:zc.toList=enc z0)
 (hF:Fit w0 (aB (rowOf E sz enc (.slice ca n0 cc) xs::L)) w) (hb:(xs.length+m)*bytes<=140737488355328) (Mw:Nat.blt 0 bytes=true)
 (k:∀ca cc w1 a,Fit w0 (aB (rowOf E sz enc (.slice ca (xs++List.replicate m z0).length cc) (xs++List.replicate m z0)::L)) w1->cK Df n (lk ((d,.slice ca (xs++List.replicate m z0).length cc)::l) j) a->wpList P ops Q rest a w1):wpList P ops Q (o::rest) a w:=by
 have GZ:=hF.p7;subst GZ;obtain⟨q,zv,hq,h1,h2,h3,h4⟩:=Od qK;have KA:0<bytes:=oH Mw;have Zj:m<=m*bytes:=Kn _ KA;have hxx:xs.length<=xs.length*bytes:=Kn _ KA;have aeX:(xs.length+m)*bytes=xs.length*bytes+m*bytes:=tM _ _ _;subst hi;have hzs:zv.cells.size=sz:=by rw[h4,<-tO,hz,he.len]
 have hzl:(Builtin.zeroCells zv.cells m).toList=(List.replicate m z0).flatMap enc:=by
  have:=FT he zc z0 hz m;rw[<-h4]at this;rw[<-this,<-hzs]
  rfl
 have hpos:=he.pos;have ZV:∀w,(zeroValue E).run P w= .ok zv w:=λw=>by
  simp only[zeroValue,typeInfo,mV,run_program,hq,mW,sO,h3]
 have Xi:((List.replicate m z0).flatMap enc).length=m*sz:=by rw[he.flat,mo]
 have ZW:=he.ym (List.replicate m z0);have Oe:IntKind.i64.wrap (m:Int)=m:=IntWalk.i64_in _ I;have Mx:¬((m:Int)<0):=by omega
 have Wd:¬(281474976710656<(m:Int)*(q.bytes:Int)):=by
  have:((m*bytes:Nat):Int)<=140737488355328:=by omega
  rw[h2];simp only[Int.natCast_mul]at this;omega
 have main :∃v' w',(Builtin.append_ #[t,tx] o.type #[.slice ca xs.length cc,.int .i64 (m:Int)]).run P w= .ok v' w'/\Fit w0 (aB (rowOf E sz enc v' (xs++List.replicate m z0)::L)) w':=by
  by_cases hroom:xs.length+m<=cc
  ·rcases hF.rows with ⟨e1,e2,BV⟩ | ⟨g,cap,e1,_,BV⟩
   ·simp only[Value.slice.injEq]at e1;obtain⟨rfl,e3,rfl⟩:=e1;have Ru:m=0:=by omega
    subst Ru;subst e2;refine⟨.slice none 0 0,w,?_,by simpa using BV.fU⟩;have hw0:IntKind.i64.wrap 0=0:=by rfl
    simp[Builtin.append_,run_underlying hty,run_underlying ZU,sizeOf,typeInfo,hq,asInt,asIntOf,hw0]
   ·simp only[Value.slice.injEq]at e1;obtain⟨rfl,_,rfl⟩:=e1;obtain⟨cur,hs1,Zi,hP⟩:=BV.oO;obtain⟨GY,EM⟩:=BV.xe;have hle:(xs.length+m)*sz<=cc*sz:=rm _ hroom;rw[tM]at hle;have ZX:(xs++List.replicate m z0).flatMap enc=xs.flatMap enc++(List.replicate m z0).flatMap enc:=CG;generalize hZ:(List.replicate m z0).flatMap enc=zl at *;have hst:=run_storeCells_at P g (xs.length*sz) E zl 0 cur w hP.block (by rw[Xi,hs1];omega) ZW;simp only[Ex]at hst;refine⟨.slice (some ⟨g,0,none⟩) (xs.length+m) cc,w.setRow g (cur.toList.take (xs.length*sz)++zl++cur.toList.drop (xs.length*sz+zl.length)).toArray,?_,?_⟩
    ·generalize w.setRow g (cur.toList.take (xs.length*sz)++zl++cur.toList.drop (xs.length*sz+zl.length)).toArray=w9 at hst;by_cases Ru:m*sz=0
     ·have hz0:zl=[]:=Ew I;subst hz0;simp[Builtin.append_,run_underlying hty,run_underlying ZU,sizeOf,typeInfo,hq,asInt,asIntOf,Oe,Mx,Wd,hroom,h1,u3,Ru,hst]
     ·simp[Builtin.append_,run_underlying hty,run_underlying ZU,sizeOf,typeInfo,hq,asInt,asIntOf,Oe,Mx,Wd,hroom,h1,u3,Ru,ZV,hzl,hst]
    ·refine(hP.turn (w':=w.setRow g (cur.toList.take (xs.length*sz)++zl++cur.toList.drop (xs.length*sz+zl.length)).toArray) (setRow_heap w g cur _ E (0,0) hP.block) (λk hk _=>setRow_other w g k _ hk) rfl rfl rfl (by simp)).head λz PO=>.inr ⟨g,cc,_,by simp,by simpa using hroom,EM,?_,?_,PO⟩
     ·simp only[BR,jM,tN,Ah,tO,Xi];omega
     ·rw[Zi,ZX,jM,mo];rw[show(xs.length+m)*sz=((xs.flatMap enc)++zl).length by rw[jM,Xi,he.flat,tM]];exact Eu
  ·have hge:=grownCap_ge w (xs.length+m) cc E;have h63:xs.length+m<=maxLen:=by simp only[maxLen];omega
   have Zh:grownCap w (xs.length+m) cc E<=maxLen:=grownCap_le_maxLen w (xs.length+m) cc E h63;have hfit:=growslice_fits (need:=xs.length+m) (old:=cc) (bytes:=bytes) I hb;have We:¬(281474976710656<Builtin.nextslicecap (xs.length+m) cc*q.bytes):=by rw[h2];omega
   have ZY:¬(9223372036854775807<(xs.length:Int)+(m:Int)):=by omega
   have hold:(Builtin.firstCells sz xs.length (.slice ca xs.length cc)).run P w.drew= .ok (xs.flatMap enc).toArray w.drew:=by
    rcases hF.rows with ⟨e1,e2,_⟩ | ⟨g',cap',e1,_,BV⟩
    ·simp only[Value.slice.injEq]at e1;rw[e1.1,e2];exact run_firstCells_none (P:=P) w.drew sz _ _ _
    ·simp only[Value.slice.injEq]at e1;rw[e1.1];obtain⟨cur',acR,Xh,hP'⟩:=BV.oO;refine run_firstCells_some (P:=P) w.drew sz xs.length _ _ _ (xs.flatMap enc) (he.flat xs) ?_;intro j u hu;rw[u3,Ag];refine hP'.cell j ?_;rw[<-Xh,List.getElem?_take]at hu;split at hu
     ·simpa using hu
     ·cases hu
   refine⟨.slice (some ⟨w.heap.size,0,none⟩) (xs.length+m) (grownCap w (xs.length+m) cc E),w.drew.alloc (.cells ((xs.flatMap enc).toArray++((List.replicate m z0).flatMap enc).toArray++Builtin.zeroCells zv.cells (grownCap w (xs.length+m) cc E-(xs.length+m))) E),?_,?_⟩
   ·generalize hZ:(List.replicate m z0).flatMap enc=zl at *;by_cases Ru:m*sz=0
    ·have hz0:zl=[]:=Ew I;subst hz0;simp[Builtin.append_,run_underlying hty,run_underlying ZU,sizeOf,typeInfo,hq,asInt,asIntOf,Oe,Mx,Wd,hroom,Question.forced,h1,We,ZY,Ru,hold,ZV,newRow,grownCap]
    ·have hza:Builtin.zeroCells zv.cells m=zl.toArray:=by rw[<-hzl,Array.toArray_toList]
     simp[Builtin.append_,run_underlying hty,run_underlying ZU,sizeOf,typeInfo,hq,asInt,asIntOf,Oe,Mx,Wd,hroom,Question.forced,h1,We,ZY,Ru,hold,ZV,hza,newRow,grownCap]
     congr 2
     apply Array.ext'
     simp[pS]
   ·refine(hF.drop.drew.alloc _).head λx hx=>.inr ⟨w.heap.size,_,_,by simp,by simpa using hge,Zh,?_,?_,hx⟩
    ·simp only[Array.size_append,BR,size_zeroCells,hzs,he.flat,mo,<-tM]
     congr 1
     omega
    ·rw[CG,jM,mo];simp only[Array.toList_append];rw[show(xs.length+m)*sz=((xs.flatMap enc)++((List.replicate m z0).flatMap enc)).length by rw[jM,he.flat,he.flat,mo,tM]];exact Eu
 obtain⟨v',w',hrun,BV⟩:=main;obtain⟨a',cap',e,_,_⟩:=BV.Fl;subst e;refine qX hw hd hn hr ?_ (λa hr=>k a' cap' w' a BV hr);unfold execOp;simp only[ho,resolve,invoke,builtin,mV,sO,mW,Ey,zF,Ai,hs,hx,hrun]
end
def iw{α:Type}:Sem α->Prop
 | .pure _=>True
 | .load _ _ k=>∀v,iw (k v)
 | .store .. => False
 | .new _ k=>∀r,iw (k r)
 | .shape _ k=>∀s,iw (k s)
 | .freeze .. => False
 | .frozen _ k=>∀b,iw (k b)
 | .getObj _ k=>∀o,iw (k o)
 | .setObj .. => False
 | .choose _ k=>∀n,iw (k n)
 | .sys .. => False
 | .program k=>∀p,iw (k p)
 | .mark _ k=>iw k
 | .halt _=>True
def oV(w w':World):Prop:=∀ad v,w.cell? ad=some v->w'.cell? ad=some v
theorem oV.refl(w:World):oV w w:=λ_ _ h=>h
theorem oV.trans{a b c:World}(h:oV a b)(k:oV b c):oV a c:=λad v hv=>k ad v (h ad v hv)
theorem iw.run{α:Type}{P:Program}(s:Sem α):∀(w:World),iw s->∀x w',s.run P w= .ok x w'->oV w w':=by
 induction s with
 | pure a=>intro w _ x w' h;simp only[Sem.run,Result.ok.injEq]at h;rw[<-h.2];exact .refl _
 | load m a k ih =>
  intro w hk x w' h;simp only[Sem.run]at h;split at h
  ·exact ih _ w (hk _) x w' h
  ·split at h
   ·exact ih _ w (hk _) x w' h
   ·cases h
 | store m a v k ih=>intro w hk;exact hk.elim
 | new o k ih =>
  intro w hk x w' h;simp only[Sem.run]at h;have h1:=ih _ _ (hk _) x w' h;refine oV.trans (λad v hv => ?_) h1;exact(World.cell?_alloc_lt w o ad (World.block_lt_of_cell? w ad hv)).trans hv
 | shape r k ih=>intro w hk x w' h;simp only[Sem.run]at h;exact ih _ w (hk _) x w' h
 | freeze a n k ih=>intro w hk;exact hk.elim
 | frozen a k ih=>intro w hk x w' h;simp only[Sem.run]at h;exact ih _ w (hk _) x w' h
 | getObj r k ih =>
  intro w hk x w' h;simp only[Sem.run]at h;split at h
  ·cases h
  ·exact ih _ w (hk _) x w' h
  ·cases h
 | setObj r o k ih=>intro w hk;exact hk.elim
 | choose q k ih =>
  intro w hk x w' h;simp only[Sem.run]at h;split at h
  ·exact ih _ w (hk _) x w' h
  ·exact(ih _ {w with drawn:=w.drawn+1} (hk _) x w' h:oV w w')
 | sys c k ih=>intro w hk;exact hk.elim
 | program k ih=>intro w hk x w' h;simp only[Sem.run]at h;exact ih _ w (hk _) x w' h
 | mark m k ih=>intro w hk x w' h;simp only[Sem.run]at h;exact ih w hk x w' h
 | halt e=>intro w _ x w' h;simp only[Sem.run]at h;cases h
theorem iw.bind{α β:Type}:∀(s:Sem α) (f:α->Sem β),iw s->(∀a,iw (f a))->iw (s >>= f)
 | .pure a,f,_,hf=>hf a
 | .load m a k,f,hk,hf=>λv=>iw.bind (k v) f (hk v) hf
 | .new o k,f,hk,hf=>λv=>iw.bind (k v) f (hk v) hf
 | .shape r k,f,hk,hf=>λv=>iw.bind (k v) f (hk v) hf
 | .frozen a k,f,hk,hf=>λv=>iw.bind (k v) f (hk v) hf
 | .getObj r k,f,hk,hf=>λv=>iw.bind (k v) f (hk v) hf
 | .choose q k,f,hk,hf=>λv=>iw.bind (k v) f (hk v) hf
 | .program k,f,hk,hf=>λv=>iw.bind (k v) f (hk v) hf
 | .mark m k,f,hk,hf=>iw.bind k f hk hf
 | .halt e,_,_,_=>trivial
theorem wA{α:Type}(a:α):iw (pure a:Sem α):=trivial
theorem BW:iw program:=λ_=>trivial
theorem yp(t:TypeId):iw (underlying t):=by
 unfold underlying;refine iw.bind _ _ BW (λp => ?_);split
 ·exact trivial
 ·exact trivial
theorem Ao(t:TypeId):iw (typeInfo t):=by
 unfold typeInfo;refine iw.bind _ _ BW (λp => ?_);split
 ·exact trivial
 ·exact trivial
theorem CI(t:TypeId):iw (sizeOf t):=iw.bind _ _ (Ao t) λ_=>trivial
theorem zJ(t:TypeId):iw (zeroValue t):=by
 unfold zeroValue;refine iw.bind _ _ (Ao t) (λp => ?_);split
 ·exact trivial
 ·exact trivial
theorem KB(t:TypeId):iw (isAgg t):=by
 unfold isAgg;refine iw.bind _ _ (yp t) (λp => ?_);split<;>exact trivial
theorem vK(a:Addr):∀(n i:Nat) (acc:Array Value),iw (loadCellsFrom a i n acc)
 | 0,_,_=>trivial
 | n+1,i,acc=>iw.bind _ _ (λ_=>trivial) λv=>vK a n (i+1) _
theorem G9(t:TypeId)(a:Addr):iw (loadVar t a):=by
 unfold loadVar;refine iw.bind _ _ (KB t) (λb => ?_);split
 ·exact iw.bind _ _ (CI t) λ_=>iw.bind _ _ (vK _ _ _ _) λ_=>trivial
 ·exact λ_=>trivial
theorem yS(t:TypeId)(cs:Array Value):iw (newRow t cs):=by
 unfold newRow newObj;exact λ_=>trivial
theorem CJ(t:TypeId)(v:Value):iw (newVar t v):=yS t _
def DI(o:Oper):Bool:=
 match o.op with
 | .move _ | .assign _ | .pick .. | .alloc _ | .box .. | .load .. | .buildSlice .. | .extract .. => true
 | _=>false
theorem KC{P:Program}{o:Oper}(h:DI o=true)(ρ:Operand->Value)(w w':World)(x:Next)(hr:(execOp ρ o).run P w= .ok x w'):(∃u,x= .value u)/\oV w w':=by
 have main:∀s:Sem Value,iw s->execOp ρ o=(do pure (.value (<-s)))->(∃u,x= .value u)/\oV w w':=by
  intro s hs e;rw[e]at hr;refine⟨?_,iw.run _ w (iw.bind _ _ hs λ_=>wA _) x w' hr⟩;simp only[mV,sO]at hr;cases hx:s.run P w with
  | ok v w2 =>
   rw[hx]at hr;simp only[mW,Result.ok.injEq]at hr;exact⟨v,hr.1.symm⟩
  | halt e w2=>rw[hx]at hr;cases hr
 unfold DI at h;cases ho:o.op with
 | move y =>
  refine main (pure (ρ y)) trivial ?_;unfold execOp;rw[ho];rfl
 | assign y =>
  refine main (pure (ρ y)) trivial ?_;unfold execOp;rw[ho];rfl
 | pick c a b =>
  refine main (do pure (if<-asBool (ρ c)then ρ a else ρ b)) ?_ ?_
  ·refine iw.bind _ _ ?_ (λ_=>trivial);unfold asBool;split<;>exact trivial
  ·unfold execOp;rw[ho];cases hc:ρ c<;>simp[asBool,stuck,hc]<;>rfl
 | alloc t =>
  refine main (Instr.alloc t true (.tuple #[])) ?_ ?_
  ·unfold Instr.alloc;exact iw.bind _ _ (zJ t) λz=>iw.bind _ _ (CJ t z) λ_=>trivial
  ·unfold execOp;rw[ho]
 | box t y =>
  refine main (Instr.box t (ρ y)) (iw.bind _ _ (CJ t _) λ_=>trivial) ?_;unfold execOp;rw[ho]
 | load t y =>
  refine main (Instr.loadAt t (ρ y)) (iw.bind _ _ ?_ λ_=>G9 _ _) ?_
  ·unfold Instr.sureAddr;split<;>exact trivial
  ·unfold execOp;rw[ho]
 | buildSlice t n ps =>
  refine main (Instr.buildSlice t n (ps.map λ(i,x)=>(i,ρ x))) ?_ ?_
  ·unfold Instr.buildSlice;refine iw.bind _ _ (yp t) (λd => ?_);split
   ·refine iw.bind _ _ (CI _) (λsz => ?_)
    dsimp only
    split
    ·exact trivial
    ·split
     ·refine iw.bind _ _ (wA _) (λz => ?_);split
      ·exact iw.bind _ _ (yS _ _) λ_=>wA _
      ·exact trivial
     ·refine iw.bind _ _ (zJ _) (λv=>iw.bind _ _ (wA _) (λz => ?_));split
      ·exact iw.bind _ _ (yS _ _) λ_=>wA _
      ·exact trivial
   ·exact trivial
  ·unfold execOp;rw[ho]
 | extract y i =>
  refine main (Instr.extract (ρ y) i) ?_ ?_
  ·unfold Instr.extract;split
   ·split<;>exact trivial
   ·exact trivial
  ·unfold execOp;rw[ho]
 | _=>rw[ho]at h;cases h
section
variable {P:Program}{ops:Array Oper}{Q:Exit->Act->World->Prop}{a:Act}{w w0 w1:World}{o:Oper}{n d t:Nat}{v:Value}{l:List (Nat×Value)}{j e:Nat->Value}{H:aZ}{md:Region.Mode}{Df:List Deferred}
def wB(Q:Exit->Act->World->Prop):Prop:=∀ch (a:Act) w dst v,Q (.panic ch) (a.put dst v) w->Q (.panic ch) a w
theorem KD{fn:Func}{R:Ending->World->Prop}:wB (bodyPost P fn R):=by
 intro ch a w dst v h;cases dst<;>exact h
theorem KE{K:Act->World->Prop}(h:wB Q):wB (Exit.then K Q):=λch a w dst v k=>h ch a w dst v k
theorem I3{i:Nat}(h:wB Q):wB (Exit.inBlock i Q):=λch a w dst v k=>h ch a w dst v k
def YD(P:Program)(ops:Array Oper)(D:World->Prop)(o:Oper)(v:Value)(a:Act):Prop:=
 (Region.wanted o (yielded ops a.tmps)=true/\∀w,D w->(execOp a.eval o).run P w= .ok (.value v) w)∨(Region.wanted o (yielded ops a.tmps)=false/\v=undef)
theorem YD.of_same{D:World->Prop}{a':Act}(hy:YD P ops D o v a)(he:execOp a'.eval o=execOp a.eval o)
 (hw:Region.wanted o (yielded ops a'.tmps)=Region.wanted o (yielded ops a.tmps)):YD P ops D o v a':=by
 unfold YD at *;rw[he,hw];exact hy
theorem YD.wpOp{D:World->Prop}{i:Nat}(hi:ops[i]? = some o)(hy:YD P ops D o v a)(hD:D w){K:Act->World->Prop}(h:K (a.put o.dst v) w):wpOp P ops Q i K a w:=by
 unfold Go.wpOp;simp only[hi];rcases hy with ⟨hw,hv⟩ | ⟨hw,rfl⟩
 ·rw[aP hw]
  left
  unfold Oper.wp;rw[hv w hD];exact h
 ·rw[dJ hw];exact h
def KF(md:Region.Mode)(ops:Array Oper)(aK:Array Bool)(i:Nat):Nat->Nat->Bool
 | 0,_=>true
 | f+1,k=>k != i&&match ops[k]? with
  | none=>false
  | some ok=>ok.after.all λe => !Region.binds md e||aK.getD e.on false||KF md ops aK i f e.on
theorem Ut{id:Nat}{lo:List Oper}(hF:Fit w0 H w)(hm:P.follows .mixedOrders=true)(k:∀w,Fit w0 H w->wpAny P .any lo.toArray Q lo.toArray.size (Array.replicate lo.toArray.size false) a w) :
 (Code.region id lo.toArray true).wp P Q a w:=wp_region_any hm (k _ hF.drew)
end
section
variable {P:Program}{ops:Array Oper}{Q:Exit->Act->World->Prop}{a:Act}{w w0 w1:World}{o:Oper}{n d t:Nat}{v:Value}{l:List (Nat×Value)}{j e:Nat->Value}{H:aZ}{md:Region.Mode}{C:World->Prop}{afs:List Nat}{Lk:Array Bool->Act->Prop}{Df:List Deferred}
theorem Rz{i:Nat}{b:Bool}(hr:cK Df n e a)(hg:o.guard=some (i,b))(hi:(ops[i]?).bind (·.dst)=some t)(ht:Nat.blt t n=true)(he:e t=undef) :
 Region.wanted o (yielded ops a.tmps)=false:=by
 have ht':t<a.tmps.size:=by rw[hr.size];exact oH ht
 have hg2:a.tmps[t]? = some undef:=by
  have:=hr.get t;rw[he,w8,Array.getElem?_eq_getElem ht']at this;rw[Array.getElem?_eq_getElem ht']
  simpa using this
 simp only[Region.wanted,hg,yielded,hi,Option.bind_some,hg2];cases b<;>rfl
end
section
variable {P:Program}{ops:Array Oper}{Q:Exit->Act->World->Prop}{a:Act}{w w0 w1:World}{o:Oper}{n d t:Nat}{v:Value}{l:List (Nat×Value)}{j e:Nat->Value}{md:Region.Mode}{afs A:List Nat}{pre:List aZ->List aZ}{Ls:List aZ}{Df:List Deferred}
def I4(X:Nat->Prop):List Nat->Prop
 | []=>True
 | i::r=>X i/\I4 X r
theorem I4.mem{X:Nat->Prop}:∀{r:List Nat},I4 X r->∀i∈r,X i
 | _::_,h,_,.head _=>h.1
 | _::_,h,_,.tail _ hm=>I4.mem h.2 _ hm
theorem iy{X:Nat->Prop}:I4 X []:=trivial
theorem cT{X:Nat->Prop}{i:Nat}{r:List Nat}(h:X i)(k:I4 X r):I4 X (i::r):=⟨h,k⟩
end
end GX
end
section
namespace SL
open Go Go.RowKit Go.ChangeShapes Go.WideShapes
end SL
namespace GX
open Go Go.RowKit SL
section
variable {P:Program}{ops:Array Oper}{Q:Exit->Act->World->Prop}{a:Act}{w w0 w1:World}{rest:List Oper}{o:Oper}{n d t:Nat}{v:Value}{l:List (Nat×Value)}{j e:Nat->Value}{L:List aZ}{H:aZ}{Df:List Deferred}
variable {α:Type}{E:TypeId}{sz g cap:Nat}{enc:α->List Value}{xs:List α}
end
end GX
end
section
namespace GX
open Go Go.RowKit SL
def tR:List Value->List Value->Bool
 | .int _ a::xs,.int _ b::ys=>(a==b)&&tR xs ys
 | .bool a::xs,.bool b::ys=>(a==b)&&tR xs ys
 | _,_=>true
def BX(P:Program):Nat->List Field->List Value->List Value->Bool
 | _,[],[],[]=>true
 | i,f::fs,.int k _::xs,.int k' _::ys=>(f.name != "_")&&f.offset==i&&(match P.underlying f.type with | some (.int _)=>true | _=>false)&&k==k'&&BX P (i+1) fs xs ys
 | i,f::fs,.bool _::xs,.bool _::ys=>(f.name != "_")&&f.offset==i&&(match P.underlying f.type with | some .bool=>true | _=>false)&&BX P (i+1) fs xs ys
 | _,_,_,_=>false
section
variable {P:Program}{w:World}{o:Oper}{e:Nat->Value}
theorem rJ{t:TypeId}{cs:Array Value}{i:Nat}{v:Value}(h:(match P.underlying t with | some (.int _)=>true | some .bool=>true | _=>false)=true)(hv:cs[i]? = some v):(part t cs i).run P w= .ok v w:=by
 have hu :∃d,P.underlying t=some d/\(∀fs,d≠.struct fs)/\∀n q,d≠.array n q:=by
  revert h
  cases hq:P.underlying t with
  | none=>simp
  | some d=>cases d<;>simp
 obtain⟨d,hd,h1,h2⟩:=hu;unfold part isAgg;simp only[mV,run_underlying hd,mW];cases d<;>simp_all
theorem I5(d:Nat)(xs ys:Array Value):∀(fs:List Field) (i:Nat) (us vs:List Value),BX P i fs us vs=true->(∀j,us[j]? = xs[i+j]?∨us.length<=j)->(∀j,vs[j]? = ys[i+j]?∨vs.length<=j)->
 (Op.eqFields (d+1) xs ys fs).run P w= .ok (tR us vs) w
 | [],_,[],[],_,_,_=>by simp[Op.eqFields,tR]
 | f::fs,i,.int k a::us,.int k' b::vs,h,hx,hy=>by
  simp only[BX,lP,bne_iff_ne,ne_eq,vJ]at h;obtain⟨⟨⟨⟨hn,ho⟩,ht⟩,hk⟩,hr⟩:=h;subst hk;have hx0:xs[i]? = some (.int k a):=by rcases hx 0 with h | h;simpa using h.symm;simp at h
  have hy0:ys[i]? = some (.int k b):=by rcases hy 0 with h | h;simpa using h.symm;simp at h
  have hty :∃kk,P.underlying f.type=some (.int kk):=by
   revert ht
   cases hq:P.underlying f.type with
   | none=>simp
   | some d=>cases d<;>simp
  obtain⟨kk,hty⟩:=hty;have ih:=I5 d xs ys fs (i+1) us vs hr (λj=>by rcases hx (j+1)with h | h;left;simpa [MK,Ig]using h;right;simpa using h) (λj=>by rcases hy (j+1)with h | h;left;simpa [MK,Ig]using h;right;simpa using h);have pa:=rJ (P:=P) (w:=w) (t:=f.type) (cs:=xs) (i:=f.offset) (v:=.int k a) (by rw[hty]) (by rw[ho];exact hx0);have pb:=rJ (P:=P) (w:=w) (t:=f.type) (cs:=ys) (i:=f.offset) (v:=.int k b) (by rw[hty]) (by rw[ho];exact hy0);rw[Op.eqFields];simp only[aP hn,mV,pa,pb,run_equalIn_int w d f.type k kk a b hty,mW];cases hab:(a==b)
  ·simp[tR,hab]
  ·simp[tR,hab,ih]
 | f::fs,i,.bool a::us,.bool b::vs,h,hx,hy=>by
  simp only[BX,lP,bne_iff_ne,ne_eq,vJ]at h;obtain⟨⟨⟨hn,ho⟩,ht⟩,hr⟩:=h;have hx0:xs[i]? = some (.bool a):=by rcases hx 0 with h | h;simpa using h.symm;simp at h
  have hy0:ys[i]? = some (.bool b):=by rcases hy 0 with h | h;simpa using h.symm;simp at h
  have hty:P.underlying f.type=some .bool:=by
   revert ht
   cases hq:P.underlying f.type with
   | none=>simp
   | some d=>cases d<;>simp
  have ih:=I5 d xs ys fs (i+1) us vs hr (λj=>by rcases hx (j+1)with h | h;left;simpa [MK,Ig]using h;right;simpa using h) (λj=>by rcases hy (j+1)with h | h;left;simpa [MK,Ig]using h;right;simpa using h);have pa:=rJ (P:=P) (w:=w) (t:=f.type) (cs:=xs) (i:=f.offset) (v:=.bool a) (by rw[hty]) (by rw[ho];exact hx0);have pb:=rJ (P:=P) (w:=w) (t:=f.type) (cs:=ys) (i:=f.offset) (v:=.bool b) (by rw[hty]) (by rw[ho];exact hy0);rw[Op.eqFields];simp only[aP hn,mV,pa,pb,run_equalIn_bool' w d f.type a b hty,mW];cases hab:(a==b)
  ·simp[tR,hab]
  ·simp[tR,hab,ih]
end
theorem gd{γ:Type}{p:Prop}[Decidable p]{x:Option γ}{r:γ}(h:(if p then x else none)=some r):p/\x=some r:=by
 by_cases c:p
 ·rw[aP c]at h;exact⟨c,h⟩
 ·rw[ct c]at h;cases h
theorem ifT{γ:Type}{p:Prop}[Decidable p]{x y:Option γ}{r:γ}(c:p)(h:(if p then x else y)=some r):x=some r:=by rw[aP c]at h;exact h
theorem ifF{γ:Type}{p:Prop}[Decidable p]{x y:Option γ}{r:γ}(c:¬p)(h:(if p then x else y)=some r):y=some r:=by rw[ct c]at h;exact h
theorem bF{b:Bool}(h:¬b=true):b=false:=by cases b<;>simp_all
theorem gM{γ:Type}{x y:γ}(h:some x=some y):x=y:=Option.some.inj h
def MN{γ:Type}(o:Option (Unit))(f:Option γ):Option γ:=match o with | some ()=>f | none=>none
@[simp] theorem je{γ:Type}(f:Option γ):MN (some ()) f=f:=rfl
@[simp] theorem ZZ{γ:Type}(f:Option γ):MN none f=none:=rfl
theorem bd0{γ:Type}{o:Option (Unit)}{f:Option γ}{r:γ}(h:MN o f=some r):o=some ()/\f=some r:=by
 match o,h with | some (),h=>exact⟨rfl,h⟩
def xF{γ:Type}(o:Option ((Unit)⊕γ))(f:Option γ):Option γ:=match o with | some (.inl ())=>f | some (.inr r)=>some r | none=>none
@[simp] theorem eJ{γ:Type}(f:Option γ):xF (some (.inl ())) f=f:=rfl
@[simp] theorem I6{γ:Type}(r:γ)(f:Option γ):xF (some (.inr r)) f=some r:=rfl
@[simp] theorem Z0{γ:Type}(f:Option γ):xF none f=none:=rfl
def jc0{γ:Type}(o:(Unit)⊕γ)(f:Option γ)(r:γ):Prop:=match o with | .inl ()=>f=some r | .inr x=>x=r
theorem Dx{γ:Type}{o:Option ((Unit)⊕γ)}{f:Option γ}{r:γ}(h:xF o f=some r) :∃o',o=some o'/\jc0 o' f r:=by
 match o,h with | some (.inl ()),h=>exact⟨_,rfl,h⟩ | some (.inr x),h=>exact⟨_,rfl,gM h⟩
theorem uD{γ:Type}{o:(Unit)⊕γ}{f:Option γ}{r x:γ}(h:some (.inr x)=some o)(k:jc0 o f r):some x=some r:=by
 have e:=gM h;subst e;exact mX some k
def kc0{γ:Type}(o:Unit)(f:Option γ)(r:γ):Prop:=match o with | ()=>f=some r
theorem kd0{γ:Type}{o:Option (Unit)}{f:Option γ}{r:γ}(h:MN o f=some r) :∃o',o=some o'/\kc0 o' f r:=by
 match o,h with | some (),h=>exact⟨_,rfl,h⟩
theorem Dy{γ:Type}{f:Option γ}{r:γ}(k:jc0 (γ:=γ) (.inl ()) f r):f=some r:=k
theorem kk0{γ:Type}{f:Option γ}{r:γ}(k:kc0 (γ:=γ) () f r):f=some r:=k
def eV{dG:Type}{γ:Type}(o:Option (dG))(f:dG->Option γ):Option γ:=match o with | some x0=>f x0 | none=>none
@[simp] theorem ax{dG:Type}{γ:Type}(x0:dG)(f:dG->Option γ):eV (some x0) f=f x0:=rfl
@[simp] theorem Z1{dG:Type}{γ:Type}(f:dG->Option γ):eV none f=none:=rfl
theorem bd1{dG:Type}{γ:Type}{o:Option (dG)}{f:dG->Option γ}{r:γ}(h:eV o f=some r) :∃x0,o=some x0/\f x0=some r:=by
 match o,h with | some x0,h=>exact⟨x0,rfl,h⟩
def Z2{dG:Type}{γ:Type}(o:Option ((dG)⊕γ))(f:dG->Option γ):Option γ:=match o with | some (.inl x0)=>f x0 | some (.inr r)=>some r | none=>none
@[simp] theorem Of{dG:Type}{γ:Type}(x0:dG)(f:dG->Option γ):Z2 (some (.inl x0)) f=f x0:=rfl
@[simp] theorem acy{dG:Type}{γ:Type}(r:γ)(f:dG->Option γ):Z2 (some (.inr r)) f=some r:=rfl
@[simp] theorem Z3{dG:Type}{γ:Type}(f:dG->Option γ):Z2 none f=none:=rfl
def jc1{dG:Type}{γ:Type}(o:(dG)⊕γ)(f:dG->Option γ)(r:γ):Prop:=match o with | .inl x0=>f x0=some r | .inr x=>x=r
theorem jd1{dG:Type}{γ:Type}{o:Option ((dG)⊕γ)}{f:dG->Option γ}{r:γ}(h:Z2 o f=some r) :∃o',o=some o'/\jc1 o' f r:=by
 match o,h with | some (.inl x0),h=>exact⟨_,rfl,h⟩ | some (.inr x),h=>exact⟨_,rfl,gM h⟩
theorem jx1{dG:Type}{γ:Type}{o:(dG)⊕γ}{f:dG->Option γ}{r x:γ}(h:some (.inr x)=some o)(k:jc1 o f r):some x=some r:=by
 have e:=gM h;subst e;exact mX some k
def Zk{dG:Type}{γ:Type}(o:dG)(f:dG->Option γ)(r:γ):Prop:=match o with | x0=>f x0=some r
theorem kd1{dG:Type}{γ:Type}{o:Option (dG)}{f:dG->Option γ}{r:γ}(h:eV o f=some r) :∃o',o=some o'/\Zk o' f r:=by
 match o,h with | some x0,h=>exact⟨_,rfl,h⟩
theorem jk1{dG:Type}{γ:Type}{f:dG->Option γ}{r:γ}{x0:dG}(k:jc1 (γ:=γ) (.inl x0) f r):f x0=some r:=k
theorem DJ{dG:Type}{γ:Type}{f:dG->Option γ}{r:γ}{x0:dG}(k:Zk (γ:=γ) x0 f r):f x0=some r:=k
def sQ{dG eG:Type}{γ:Type}(o:Option (dG×eG))(f:dG->eG->Option γ):Option γ:=match o with | some (x0,x1)=>f x0 x1 | none=>none
@[simp] theorem fc{dG eG:Type}{γ:Type}(x0:dG)(x1:eG)(f:dG->eG->Option γ):sQ (some (x0,x1)) f=f x0 x1:=rfl
@[simp] theorem Z4{dG eG:Type}{γ:Type}(f:dG->eG->Option γ):sQ none f=none:=rfl
theorem bd2{dG eG:Type}{γ:Type}{o:Option (dG×eG)}{f:dG->eG->Option γ}{r:γ}(h:sQ o f=some r) :∃x0 x1,o=some (x0,x1)/\f x0 x1=some r:=by
 match o,h with | some (x0,x1),h=>exact⟨x0,x1,rfl,h⟩
def Z5{dG eG:Type}{γ:Type}(o:Option ((dG×eG)⊕γ))(f:dG->eG->Option γ):Option γ:=match o with | some (.inl (x0,x1))=>f x0 x1 | some (.inr r)=>some r | none=>none
@[simp] theorem Uu{dG eG:Type}{γ:Type}(x0:dG)(x1:eG)(f:dG->eG->Option γ):Z5 (some (.inl (x0,x1))) f=f x0 x1:=rfl
@[simp] theorem Uv{dG eG:Type}{γ:Type}(r:γ)(f:dG->eG->Option γ):Z5 (some (.inr r)) f=some r:=rfl
@[simp] theorem Z6{dG eG:Type}{γ:Type}(f:dG->eG->Option γ):Z5 none f=none:=rfl
def jc2{dG eG:Type}{γ:Type}(o:(dG×eG)⊕γ)(f:dG->eG->Option γ)(r:γ):Prop:=match o with | .inl (x0,x1)=>f x0 x1=some r | .inr x=>x=r
theorem jd2{dG eG:Type}{γ:Type}{o:Option ((dG×eG)⊕γ)}{f:dG->eG->Option γ}{r:γ}(h:Z5 o f=some r) :∃o',o=some o'/\jc2 o' f r:=by
 match o,h with | some (.inl (x0,x1)),h=>exact⟨_,rfl,h⟩ | some (.inr x),h=>exact⟨_,rfl,gM h⟩
theorem jx2{dG eG:Type}{γ:Type}{o:(dG×eG)⊕γ}{f:dG->eG->Option γ}{r x:γ}(h:some (.inr x)=some o)(k:jc2 o f r):some x=some r:=by
 have e:=gM h;subst e;exact mX some k
def Zl{dG eG:Type}{γ:Type}(o:dG×eG)(f:dG->eG->Option γ)(r:γ):Prop:=match o with | (x0,x1)=>f x0 x1=some r
theorem kd2{dG eG:Type}{γ:Type}{o:Option (dG×eG)}{f:dG->eG->Option γ}{r:γ}(h:sQ o f=some r) :∃o',o=some o'/\Zl o' f r:=by
 match o,h with | some (x0,x1),h=>exact⟨_,rfl,h⟩
theorem jk2{dG eG:Type}{γ:Type}{f:dG->eG->Option γ}{r:γ}{x0:dG}{x1:eG}(k:jc2 (γ:=γ) (.inl (x0,x1)) f r):f x0 x1=some r:=k
theorem kk2{dG eG:Type}{γ:Type}{f:dG->eG->Option γ}{r:γ}{x0:dG}{x1:eG}(k:Zl (γ:=γ) (x0,x1) f r):f x0 x1=some r:=k
def pL{dG eG fP:Type}{γ:Type}(o:Option (dG×eG×fP))(f:dG->eG->fP->Option γ):Option γ:=match o with | some (x0,x1,x2)=>f x0 x1 x2 | none=>none
@[simp] theorem dw{dG eG fP:Type}{γ:Type}(x0:dG)(x1:eG)(x2:fP)(f:dG->eG->fP->Option γ):pL (some (x0,x1,x2)) f=f x0 x1 x2:=rfl
@[simp] theorem Z7{dG eG fP:Type}{γ:Type}(f:dG->eG->fP->Option γ):pL none f=none:=rfl
theorem bd3{dG eG fP:Type}{γ:Type}{o:Option (dG×eG×fP)}{f:dG->eG->fP->Option γ}{r:γ}(h:pL o f=some r) :∃x0 x1 x2,o=some (x0,x1,x2)/\f x0 x1 x2=some r:=by
 match o,h with | some (x0,x1,x2),h=>exact⟨x0,x1,x2,rfl,h⟩
def jn3{dG eG fP:Type}{γ:Type}(o:Option ((dG×eG×fP)⊕γ))(f:dG->eG->fP->Option γ):Option γ:=match o with | some (.inl (x0,x1,x2))=>f x0 x1 x2 | some (.inr r)=>some r | none=>none
@[simp] theorem acz{dG eG fP:Type}{γ:Type}(x0:dG)(x1:eG)(x2:fP)(f:dG->eG->fP->Option γ):jn3 (some (.inl (x0,x1,x2))) f=f x0 x1 x2:=rfl
@[simp] theorem acA{dG eG fP:Type}{γ:Type}(r:γ)(f:dG->eG->fP->Option γ):jn3 (some (.inr r)) f=some r:=rfl
@[simp] theorem Z8{dG eG fP:Type}{γ:Type}(f:dG->eG->fP->Option γ):jn3 none f=none:=rfl
def Zm{dG eG fP:Type}{γ:Type}(o:dG×eG×fP)(f:dG->eG->fP->Option γ)(r:γ):Prop:=match o with | (x0,x1,x2)=>f x0 x1 x2=some r
theorem kd3{dG eG fP:Type}{γ:Type}{o:Option (dG×eG×fP)}{f:dG->eG->fP->Option γ}{r:γ}(h:pL o f=some r) :∃o',o=some o'/\Zm o' f r:=by
 match o,h with | some (x0,x1,x2),h=>exact⟨_,rfl,h⟩
theorem kk3{dG eG fP:Type}{γ:Type}{f:dG->eG->fP->Option γ}{r:γ}{x0:dG}{x1:eG}{x2:fP}(k:Zm (γ:=γ) (x0,x1,x2) f r):f x0 x1 x2=some r:=k
def G0{dG eG fP gN:Type}{γ:Type}(o:Option (dG×eG×fP×gN))(f:dG->eG->fP->gN->Option γ):Option γ:=match o with | some (x0,x1,x2,x3)=>f x0 x1 x2 x3 | none=>none
@[simp] theorem gj{dG eG fP gN:Type}{γ:Type}(x0:dG)(x1:eG)(x2:fP)(x3:gN)(f:dG->eG->fP->gN->Option γ):G0 (some (x0,x1,x2,x3)) f=f x0 x1 x2 x3:=rfl
@[simp] theorem Z9{dG eG fP gN:Type}{γ:Type}(f:dG->eG->fP->gN->Option γ):G0 none f=none:=rfl
theorem bd4{dG eG fP gN:Type}{γ:Type}{o:Option (dG×eG×fP×gN)}{f:dG->eG->fP->gN->Option γ}{r:γ}(h:G0 o f=some r) :∃x0 x1 x2 x3,o=some (x0,x1,x2,x3)/\f x0 x1 x2 x3=some r:=by
 match o,h with | some (x0,x1,x2,x3),h=>exact⟨x0,x1,x2,x3,rfl,h⟩
def jn4{dG eG fP gN:Type}{γ:Type}(o:Option ((dG×eG×fP×gN)⊕γ))(f:dG->eG->fP->gN->Option γ):Option γ:=match o with | some (.inl (x0,x1,x2,x3))=>f x0 x1 x2 x3 | some (.inr r)=>some r | none=>none
@[simp] theorem acB{dG eG fP gN:Type}{γ:Type}(x0:dG)(x1:eG)(x2:fP)(x3:gN)(f:dG->eG->fP->gN->Option γ):jn4 (some (.inl (x0,x1,x2,x3))) f=f x0 x1 x2 x3:=rfl
@[simp] theorem acC{dG eG fP gN:Type}{γ:Type}(r:γ)(f:dG->eG->fP->gN->Option γ):jn4 (some (.inr r)) f=some r:=rfl
@[simp] theorem aaa{dG eG fP gN:Type}{γ:Type}(f:dG->eG->fP->gN->Option γ):jn4 none f=none:=rfl
def kc4{dG eG fP gN:Type}{γ:Type}(o:dG×eG×fP×gN)(f:dG->eG->fP->gN->Option γ)(r:γ):Prop:=match o with | (x0,x1,x2,x3)=>f x0 x1 x2 x3=some r
def ob5{dG eG fP gN iA:Type}{γ:Type}(o:Option (dG×eG×fP×gN×iA))(f:dG->eG->fP->gN->iA->Option γ):Option γ:=match o with | some (x0,x1,x2,x3,x4)=>f x0 x1 x2 x3 x4 | none=>none
@[simp] theorem RA{dG eG fP gN iA:Type}{γ:Type}(x0:dG)(x1:eG)(x2:fP)(x3:gN)(x4:iA)(f:dG->eG->fP->gN->iA->Option γ):ob5 (some (x0,x1,x2,x3,x4)) f=f x0 x1 x2 x3 x4:=rfl
@[simp] theorem aab{dG eG fP gN iA:Type}{γ:Type}(f:dG->eG->fP->gN->iA->Option γ):ob5 none f=none:=rfl
theorem bd5{dG eG fP gN iA:Type}{γ:Type}{o:Option (dG×eG×fP×gN×iA)}{f:dG->eG->fP->gN->iA->Option γ}{r:γ}(h:ob5 o f=some r) :∃x0 x1 x2 x3 x4,o=some (x0,x1,x2,x3,x4)/\f x0 x1 x2 x3 x4=some r:=by
 match o,h with | some (x0,x1,x2,x3,x4),h=>exact⟨x0,x1,x2,x3,x4,rfl,h⟩
theorem CK{dG eG fP gN iA:Type}{x0 y0:dG}{x1 y1:eG}{x2 y2:fP}{x3 y3:gN}{x4 y4:iA}(h:some (x0,x1,x2,x3,x4)=some (y0,y1,y2,y3,y4)):x0=y0/\x1=y1/\x2=y2/\x3=y3/\x4=y4:=by
 simpa using h
def jn5{dG eG fP gN iA:Type}{γ:Type}(o:Option ((dG×eG×fP×gN×iA)⊕γ))(f:dG->eG->fP->gN->iA->Option γ):Option γ:=match o with | some (.inl (x0,x1,x2,x3,x4))=>f x0 x1 x2 x3 x4 | some (.inr r)=>some r | none=>none
@[simp] theorem acD{dG eG fP gN iA:Type}{γ:Type}(x0:dG)(x1:eG)(x2:fP)(x3:gN)(x4:iA)(f:dG->eG->fP->gN->iA->Option γ):jn5 (some (.inl (x0,x1,x2,x3,x4))) f=f x0 x1 x2 x3 x4:=rfl
@[simp] theorem acE{dG eG fP gN iA:Type}{γ:Type}(r:γ)(f:dG->eG->fP->gN->iA->Option γ):jn5 (some (.inr r)) f=some r:=rfl
@[simp] theorem aac{dG eG fP gN iA:Type}{γ:Type}(f:dG->eG->fP->gN->iA->Option γ):jn5 none f=none:=rfl
def kc5{dG eG fP gN iA:Type}{γ:Type}(o:dG×eG×fP×gN×iA)(f:dG->eG->fP->gN->iA->Option γ)(r:γ):Prop:=match o with | (x0,x1,x2,x3,x4)=>f x0 x1 x2 x3 x4=some r
def ob6{dG eG fP gN iA jO:Type}{γ:Type}(o:Option (dG×eG×fP×gN×iA×jO))(f:dG->eG->fP->gN->iA->jO->Option γ):Option γ:=match o with | some (x0,x1,x2,x3,x4,x5)=>f x0 x1 x2 x3 x4 x5 | none=>none
@[simp] theorem aad{dG eG fP gN iA jO:Type}{γ:Type}(x0:dG)(x1:eG)(x2:fP)(x3:gN)(x4:iA)(x5:jO)(f:dG->eG->fP->gN->iA->jO->Option γ):ob6 (some (x0,x1,x2,x3,x4,x5)) f=f x0 x1 x2 x3 x4 x5:=rfl
@[simp] theorem aae{dG eG fP gN iA jO:Type}{γ:Type}(f:dG->eG->fP->gN->iA->jO->Option γ):ob6 none f=none:=rfl
def jn6{dG eG fP gN iA jO:Type}{γ:Type}(o:Option ((dG×eG×fP×gN×iA×jO)⊕γ))(f:dG->eG->fP->gN->iA->jO->Option γ):Option γ:=match o with | some (.inl (x0,x1,x2,x3,x4,x5))=>f x0 x1 x2 x3 x4 x5 | some (.inr r)=>some r | none=>none
@[simp] theorem acF{dG eG fP gN iA jO:Type}{γ:Type}(x0:dG)(x1:eG)(x2:fP)(x3:gN)(x4:iA)(x5:jO)(f:dG->eG->fP->gN->iA->jO->Option γ):jn6 (some (.inl (x0,x1,x2,x3,x4,x5))) f=f x0 x1 x2 x3 x4 x5:=rfl
@[simp] theorem acG{dG eG fP gN iA jO:Type}{γ:Type}(r:γ)(f:dG->eG->fP->gN->iA->jO->Option γ):jn6 (some (.inr r)) f=some r:=rfl
@[simp] theorem aaf{dG eG fP gN iA jO:Type}{γ:Type}(f:dG->eG->fP->gN->iA->jO->Option γ):jn6 none f=none:=rfl
def kc6{dG eG fP gN iA jO:Type}{γ:Type}(o:dG×eG×fP×gN×iA×jO)(f:dG->eG->fP->gN->iA->jO->Option γ)(r:γ):Prop:=match o with | (x0,x1,x2,x3,x4,x5)=>f x0 x1 x2 x3 x4 x5=some r
def ob7{dG eG fP gN iA jO lQ:Type}{γ:Type}(o:Option (dG×eG×fP×gN×iA×jO×lQ))(f:dG->eG->fP->gN->iA->jO->lQ->Option γ):Option γ:=match o with | some (x0,x1,x2,x3,x4,x5,x6)=>f x0 x1 x2 x3 x4 x5 x6 | none=>none
@[simp] theorem aag{dG eG fP gN iA jO lQ:Type}{γ:Type}(x0:dG)(x1:eG)(x2:fP)(x3:gN)(x4:iA)(x5:jO)(x6:lQ)(f:dG->eG->fP->gN->iA->jO->lQ->Option γ):ob7 (some (x0,x1,x2,x3,x4,x5,x6)) f=f x0 x1 x2 x3 x4 x5 x6:=rfl
@[simp] theorem aah{dG eG fP gN iA jO lQ:Type}{γ:Type}(f:dG->eG->fP->gN->iA->jO->lQ->Option γ):ob7 none f=none:=rfl
def jn7{dG eG fP gN iA jO lQ:Type}{γ:Type}(o:Option ((dG×eG×fP×gN×iA×jO×lQ)⊕γ))(f:dG->eG->fP->gN->iA->jO->lQ->Option γ):Option γ:=match o with | some (.inl (x0,x1,x2,x3,x4,x5,x6))=>f x0 x1 x2 x3 x4 x5 x6 | some (.inr r)=>some r | none=>none
@[simp] theorem acH{dG eG fP gN iA jO lQ:Type}{γ:Type}(x0:dG)(x1:eG)(x2:fP)(x3:gN)(x4:iA)(x5:jO)(x6:lQ)(f:dG->eG->fP->gN->iA->jO->lQ->Option γ):jn7 (some (.inl (x0,x1,x2,x3,x4,x5,x6))) f=f x0 x1 x2 x3 x4 x5 x6:=rfl
@[simp] theorem acI{dG eG fP gN iA jO lQ:Type}{γ:Type}(r:γ)(f:dG->eG->fP->gN->iA->jO->lQ->Option γ):jn7 (some (.inr r)) f=some r:=rfl
@[simp] theorem aai{dG eG fP gN iA jO lQ:Type}{γ:Type}(f:dG->eG->fP->gN->iA->jO->lQ->Option γ):jn7 none f=none:=rfl
def kc7{dG eG fP gN iA jO lQ:Type}{γ:Type}(o:dG×eG×fP×gN×iA×jO×lQ)(f:dG->eG->fP->gN->iA->jO->lQ->Option γ)(r:γ):Prop:=match o with | (x0,x1,x2,x3,x4,x5,x6)=>f x0 x1 x2 x3 x4 x5 x6=some r
def ob8{dG eG fP gN iA jO lQ nE:Type}{γ:Type}(o:Option (dG×eG×fP×gN×iA×jO×lQ×nE))(f:dG->eG->fP->gN->iA->jO->lQ->nE->Option γ):Option γ:=match o with | some (x0,x1,x2,x3,x4,x5,x6,x7)=>f x0 x1 x2 x3 x4 x5 x6 x7 | none=>none
@[simp] theorem aaj{dG eG fP gN iA jO lQ nE:Type}{γ:Type}(x0:dG)(x1:eG)(x2:fP)(x3:gN)(x4:iA)(x5:jO)(x6:lQ)(x7:nE)(f:dG->eG->fP->gN->iA->jO->lQ->nE->Option γ):ob8 (some (x0,x1,x2,x3,x4,x5,x6,x7)) f=f x0 x1 x2 x3 x4 x5 x6 x7:=rfl
@[simp] theorem aak{dG eG fP gN iA jO lQ nE:Type}{γ:Type}(f:dG->eG->fP->gN->iA->jO->lQ->nE->Option γ):ob8 none f=none:=rfl
def jn8{dG eG fP gN iA jO lQ nE:Type}{γ:Type}(o:Option ((dG×eG×fP×gN×iA×jO×lQ×nE)⊕γ))(f:dG->eG->fP->gN->iA->jO->lQ->nE->Option γ):Option γ:=match o with | some (.inl (x0,x1,x2,x3,x4,x5,x6,x7))=>f x0 x1 x2 x3 x4 x5 x6 x7 | some (.inr r)=>some r | none=>none
@[simp] theorem acJ{dG eG fP gN iA jO lQ nE:Type}{γ:Type}(x0:dG)(x1:eG)(x2:fP)(x3:gN)(x4:iA)(x5:jO)(x6:lQ)(x7:nE)(f:dG->eG->fP->gN->iA->jO->lQ->nE->Option γ):jn8 (some (.inl (x0,x1,x2,x3,x4,x5,x6,x7))) f=f x0 x1 x2 x3 x4 x5 x6 x7:=rfl
@[simp] theorem acK{dG eG fP gN iA jO lQ nE:Type}{γ:Type}(r:γ)(f:dG->eG->fP->gN->iA->jO->lQ->nE->Option γ):jn8 (some (.inr r)) f=some r:=rfl
@[simp] theorem aal{dG eG fP gN iA jO lQ nE:Type}{γ:Type}(f:dG->eG->fP->gN->iA->jO->lQ->nE->Option γ):jn8 none f=none:=rfl
def kc8{dG eG fP gN iA jO lQ nE:Type}{γ:Type}(o:dG×eG×fP×gN×iA×jO×lQ×nE)(f:dG->eG->fP->gN->iA->jO->lQ->nE->Option γ)(r:γ):Prop:=match o with | (x0,x1,x2,x3,x4,x5,x6,x7)=>f x0 x1 x2 x3 x4 x5 x6 x7=some r
def ob9{dG eG fP gN iA jO lQ nE qO:Type}{γ:Type}(o:Option (dG×eG×fP×gN×iA×jO×lQ×nE×qO))(f:dG->eG->fP->gN->iA->jO->lQ->nE->qO->Option γ):Option γ:=match o with | some (x0,x1,x2,x3,x4,x5,x6,x7,x8)=>f x0 x1 x2 x3 x4 x5 x6 x7 x8 | none=>none
@[simp] theorem aam{dG eG fP gN iA jO lQ nE qO:Type}{γ:Type}(x0:dG)(x1:eG)(x2:fP)(x3:gN)(x4:iA)(x5:jO)(x6:lQ)(x7:nE)(x8:qO)(f:dG->eG->fP->gN->iA->jO->lQ->nE->qO->Option γ):ob9 (some (x0,x1,x2,x3,x4,x5,x6,x7,x8)) f=f x0 x1 x2 x3 x4 x5 x6 x7 x8:=rfl
@[simp] theorem aan{dG eG fP gN iA jO lQ nE qO:Type}{γ:Type}(f:dG->eG->fP->gN->iA->jO->lQ->nE->qO->Option γ):ob9 none f=none:=rfl
def jn9{dG eG fP gN iA jO lQ nE qO:Type}{γ:Type}(o:Option ((dG×eG×fP×gN×iA×jO×lQ×nE×qO)⊕γ))(f:dG->eG->fP->gN->iA->jO->lQ->nE->qO->Option γ):Option γ:=match o with | some (.inl (x0,x1,x2,x3,x4,x5,x6,x7,x8))=>f x0 x1 x2 x3 x4 x5 x6 x7 x8 | some (.inr r)=>some r | none=>none
@[simp] theorem acL{dG eG fP gN iA jO lQ nE qO:Type}{γ:Type}(x0:dG)(x1:eG)(x2:fP)(x3:gN)(x4:iA)(x5:jO)(x6:lQ)(x7:nE)(x8:qO)(f:dG->eG->fP->gN->iA->jO->lQ->nE->qO->Option γ):jn9 (some (.inl (x0,x1,x2,x3,x4,x5,x6,x7,x8))) f=f x0 x1 x2 x3 x4 x5 x6 x7 x8:=rfl
@[simp] theorem acM{dG eG fP gN iA jO lQ nE qO:Type}{γ:Type}(r:γ)(f:dG->eG->fP->gN->iA->jO->lQ->nE->qO->Option γ):jn9 (some (.inr r)) f=some r:=rfl
@[simp] theorem aao{dG eG fP gN iA jO lQ nE qO:Type}{γ:Type}(f:dG->eG->fP->gN->iA->jO->lQ->nE->qO->Option γ):jn9 none f=none:=rfl
def kc9{dG eG fP gN iA jO lQ nE qO:Type}{γ:Type}(o:dG×eG×fP×gN×iA×jO×lQ×nE×qO)(f:dG->eG->fP->gN->iA->jO->lQ->nE->qO->Option γ)(r:γ):Prop:=match o with | (x0,x1,x2,x3,x4,x5,x6,x7,x8)=>f x0 x1 x2 x3 x4 x5 x6 x7 x8=some r
def aap{dG eG fP gN iA jO lQ nE qO tS:Type}{γ:Type}(o:Option (dG×eG×fP×gN×iA×jO×lQ×nE×qO×tS))(f:dG->eG->fP->gN->iA->jO->lQ->nE->qO->tS->Option γ):Option γ:=match o with | some (x0,x1,x2,x3,x4,x5,x6,x7,x8,x9)=>f x0 x1 x2 x3 x4 x5 x6 x7 x8 x9 | none=>none
@[simp] theorem Zn{dG eG fP gN iA jO lQ nE qO tS:Type}{γ:Type}(x0:dG)(x1:eG)(x2:fP)(x3:gN)(x4:iA)(x5:jO)(x6:lQ)(x7:nE)(x8:qO)(x9:tS)(f:dG->eG->fP->gN->iA->jO->lQ->nE->qO->tS->Option γ):aap (some (x0,x1,x2,x3,x4,x5,x6,x7,x8,x9)) f=f x0 x1 x2 x3 x4 x5 x6 x7 x8 x9:=rfl
@[simp] theorem Zo{dG eG fP gN iA jO lQ nE qO tS:Type}{γ:Type}(f:dG->eG->fP->gN->iA->jO->lQ->nE->qO->tS->Option γ):aap none f=none:=rfl
def Xj{dG eG fP gN iA jO lQ nE qO tS:Type}{γ:Type}(o:Option ((dG×eG×fP×gN×iA×jO×lQ×nE×qO×tS)⊕γ))(f:dG->eG->fP->gN->iA->jO->lQ->nE->qO->tS->Option γ):Option γ:=match o with | some (.inl (x0,x1,x2,x3,x4,x5,x6,x7,x8,x9))=>f x0 x1 x2 x3 x4 x5 x6 x7 x8 x9 | some (.inr r)=>some r | none=>none
@[simp] theorem aaq{dG eG fP gN iA jO lQ nE qO tS:Type}{γ:Type}(x0:dG)(x1:eG)(x2:fP)(x3:gN)(x4:iA)(x5:jO)(x6:lQ)(x7:nE)(x8:qO)(x9:tS)(f:dG->eG->fP->gN->iA->jO->lQ->nE->qO->tS->Option γ):Xj (some (.inl (x0,x1,x2,x3,x4,x5,x6,x7,x8,x9))) f=f x0 x1 x2 x3 x4 x5 x6 x7 x8 x9:=rfl
@[simp] theorem aar{dG eG fP gN iA jO lQ nE qO tS:Type}{γ:Type}(r:γ)(f:dG->eG->fP->gN->iA->jO->lQ->nE->qO->tS->Option γ):Xj (some (.inr r)) f=some r:=rfl
@[simp] theorem Zp{dG eG fP gN iA jO lQ nE qO tS:Type}{γ:Type}(f:dG->eG->fP->gN->iA->jO->lQ->nE->qO->tS->Option γ):Xj none f=none:=rfl
def Xk{dG eG fP gN iA jO lQ nE qO tS:Type}{γ:Type}(o:dG×eG×fP×gN×iA×jO×lQ×nE×qO×tS)(f:dG->eG->fP->gN->iA->jO->lQ->nE->qO->tS->Option γ)(r:γ):Prop:=match o with | (x0,x1,x2,x3,x4,x5,x6,x7,x8,x9)=>f x0 x1 x2 x3 x4 x5 x6 x7 x8 x9=some r
def aas{dG eG fP gN iA jO lQ nE qO tS rA:Type}{γ:Type}(o:Option (dG×eG×fP×gN×iA×jO×lQ×nE×qO×tS×rA))(f:dG->eG->fP->gN->iA->jO->lQ->nE->qO->tS->rA->Option γ):Option γ:=match o with | some (x0,x1,x2,x3,x4,x5,x6,x7,x8,x9,Bh)=>f x0 x1 x2 x3 x4 x5 x6 x7 x8 x9 Bh | none=>none
@[simp] theorem Zq{dG eG fP gN iA jO lQ nE qO tS rA:Type}{γ:Type}(x0:dG)(x1:eG)(x2:fP)(x3:gN)(x4:iA)(x5:jO)(x6:lQ)(x7:nE)(x8:qO)(x9:tS)(Bh:rA)(f:dG->eG->fP->gN->iA->jO->lQ->nE->qO->tS->rA->Option γ):aas (some (x0,x1,x2,x3,x4,x5,x6,x7,x8,x9,Bh)) f=f x0 x1 x2 x3 x4 x5 x6 x7 x8 x9 Bh:=rfl
@[simp] theorem Zr{dG eG fP gN iA jO lQ nE qO tS rA:Type}{γ:Type}(f:dG->eG->fP->gN->iA->jO->lQ->nE->qO->tS->rA->Option γ):aas none f=none:=rfl
def Xl{dG eG fP gN iA jO lQ nE qO tS rA:Type}{γ:Type}(o:Option ((dG×eG×fP×gN×iA×jO×lQ×nE×qO×tS×rA)⊕γ))(f:dG->eG->fP->gN->iA->jO->lQ->nE->qO->tS->rA->Option γ):Option γ:=match o with | some (.inl (x0,x1,x2,x3,x4,x5,x6,x7,x8,x9,Bh))=>f x0 x1 x2 x3 x4 x5 x6 x7 x8 x9 Bh | some (.inr r)=>some r | none=>none
@[simp] theorem aat{dG eG fP gN iA jO lQ nE qO tS rA:Type}{γ:Type}(x0:dG)(x1:eG)(x2:fP)(x3:gN)(x4:iA)(x5:jO)(x6:lQ)(x7:nE)(x8:qO)(x9:tS)(Bh:rA)(f:dG->eG->fP->gN->iA->jO->lQ->nE->qO->tS->rA->Option γ):Xl (some (.inl (x0,x1,x2,x3,x4,x5,x6,x7,x8,x9,Bh))) f=f x0 x1 x2 x3 x4 x5 x6 x7 x8 x9 Bh:=rfl
@[simp] theorem aau{dG eG fP gN iA jO lQ nE qO tS rA:Type}{γ:Type}(r:γ)(f:dG->eG->fP->gN->iA->jO->lQ->nE->qO->tS->rA->Option γ):Xl (some (.inr r)) f=some r:=rfl
@[simp] theorem Zs{dG eG fP gN iA jO lQ nE qO tS rA:Type}{γ:Type}(f:dG->eG->fP->gN->iA->jO->lQ->nE->qO->tS->rA->Option γ):Xl none f=none:=rfl
def Xm{dG eG fP gN iA jO lQ nE qO tS rA:Type}{γ:Type}(o:dG×eG×fP×gN×iA×jO×lQ×nE×qO×tS×rA)(f:dG->eG->fP->gN->iA->jO->lQ->nE->qO->tS->rA->Option γ)(r:γ):Prop:=match o with | (x0,x1,x2,x3,x4,x5,x6,x7,x8,x9,Bh)=>f x0 x1 x2 x3 x4 x5 x6 x7 x8 x9 Bh=some r
def aav{dG eG fP gN iA jO lQ nE qO tS rA Ap:Type}{γ:Type}(o:Option (dG×eG×fP×gN×iA×jO×lQ×nE×qO×tS×rA×Ap))(f:dG->eG->fP->gN->iA->jO->lQ->nE->qO->tS->rA->Ap->Option γ):Option γ:=match o with | some (x0,x1,x2,x3,x4,x5,x6,x7,x8,x9,Bh,wC)=>f x0 x1 x2 x3 x4 x5 x6 x7 x8 x9 Bh wC | none=>none
@[simp] theorem Zt{dG eG fP gN iA jO lQ nE qO tS rA Ap:Type}{γ:Type}(x0:dG)(x1:eG)(x2:fP)(x3:gN)(x4:iA)(x5:jO)(x6:lQ)(x7:nE)(x8:qO)(x9:tS)(Bh:rA)(wC:Ap)(f:dG->eG->fP->gN->iA->jO->lQ->nE->qO->tS->rA->Ap->Option γ):aav (some (x0,x1,x2,x3,x4,x5,x6,x7,x8,x9,Bh,wC)) f=f x0 x1 x2 x3 x4 x5 x6 x7 x8 x9 Bh wC:=rfl
@[simp] theorem Zu{dG eG fP gN iA jO lQ nE qO tS rA Ap:Type}{γ:Type}(f:dG->eG->fP->gN->iA->jO->lQ->nE->qO->tS->rA->Ap->Option γ):aav none f=none:=rfl
def Xn{dG eG fP gN iA jO lQ nE qO tS rA Ap:Type}{γ:Type}(o:Option ((dG×eG×fP×gN×iA×jO×lQ×nE×qO×tS×rA×Ap)⊕γ))(f:dG->eG->fP->gN->iA->jO->lQ->nE->qO->tS->rA->Ap->Option γ):Option γ:=match o with | some (.inl (x0,x1,x2,x3,x4,x5,x6,x7,x8,x9,Bh,wC))=>f x0 x1 x2 x3 x4 x5 x6 x7 x8 x9 Bh wC | some (.inr r)=>some r | none=>none
@[simp] theorem aaw{dG eG fP gN iA jO lQ nE qO tS rA Ap:Type}{γ:Type}(x0:dG)(x1:eG)(x2:fP)(x3:gN)(x4:iA)(x5:jO)(x6:lQ)(x7:nE)(x8:qO)(x9:tS)(Bh:rA)(wC:Ap)(f:dG->eG->fP->gN->iA->jO->lQ->nE->qO->tS->rA->Ap->Option γ):Xn (some (.inl (x0,x1,x2,x3,x4,x5,x6,x7,x8,x9,Bh,wC))) f=f x0 x1 x2 x3 x4 x5 x6 x7 x8 x9 Bh wC:=rfl
@[simp] theorem aax{dG eG fP gN iA jO lQ nE qO tS rA Ap:Type}{γ:Type}(r:γ)(f:dG->eG->fP->gN->iA->jO->lQ->nE->qO->tS->rA->Ap->Option γ):Xn (some (.inr r)) f=some r:=rfl
@[simp] theorem Zv{dG eG fP gN iA jO lQ nE qO tS rA Ap:Type}{γ:Type}(f:dG->eG->fP->gN->iA->jO->lQ->nE->qO->tS->rA->Ap->Option γ):Xn none f=none:=rfl
abbrev wi(x:Int):Int:=IntKind.i64.wrap x
theorem eI{x:Int}(h:-9223372036854775808<=x/\x<=9223372036854775807):wi x=x:=i64_in x h
abbrev bG(i:Int)(n:Nat):Prop:=0<=i/\i<(n:Int)
theorem aT{α:Type}[Inhabited α]{l:List α}{i:Int}(h:bG i l.length):l[i.toNat]? = some (J l i.toNat):=get_at (by have:=h.1;have:=h.2;omega)
theorem fb{α:Type}[Inhabited α]{l:List α}{i:Int}(h:bG i l.length):i.toNat<l.length:=by have:=h.1;have:=h.2;omega
def cQ(x:Int):List Value:=[.int .i64 x]
theorem aO:sF cQ 1:=⟨λ_=>rfl,λx u h=>by simp only[cQ,sC,sD,sE]at h;subst h;rfl,eF⟩
def xg(x:Bool):List Value:=[.bool x]
theorem Aq:sF xg 1:=⟨λ_=>rfl,λx u h=>by simp only[xg,sC,sD,sE]at h;subst h;rfl,eF⟩
def dW:fO->Nat | some a=>a.block | none=>0
def j6:fO->Nat | some a=>a.off | none=>0
section
variable {P:Program}{w0 w:World}{L:List aZ}{α:Type}{E:TypeId}{sz n cc:Nat}{enc:α->List Value}{l:List α}{ca:fO}{o:Oper}{e:Nat->Value}{t:TypeId}{Df:List Deferred}
theorem _root_.Go.Proofs.YtpikpffbcjpmcaaGreatDoor.SL.Fit.rW(h:Fit w0 (aB (rowOf E sz enc (.slice ca n cc) l::L)) w)(hl:0<l.length):ca=some ⟨dW ca,0,none⟩/\Fit w0 (aB (slc E sz enc (dW ca) cc l::L)) w:=by
 obtain⟨g,e,h'⟩:=h.Um hl;subst e;exact⟨rfl,h'⟩
theorem _root_.Go.Proofs.YtpikpffbcjpmcaaGreatDoor.SL.Fit.bL(he:sF enc sz)(h:Fit w0 (aB (rowOf E sz enc (.slice ca n cc) l::L)) w){i f:Nat}{x:α}{u:Value}(hi:l[i]? = some x)(hf:(enc x)[f]? = some u):w.cell? ⟨dW ca,i*sz+f,none⟩=some u:=by
 have hlt:i<l.length:=(List.getElem?_eq_some_iff.1 hi).1;exact(h.rW I).2.Oc he i f x u hi hf
theorem _root_.Go.Proofs.YtpikpffbcjpmcaaGreatDoor.SL.Fit.yq(h:Fit w0 (aB (slc E sz enc (dW ca) cc l::L)) w)(hca:ca=some ⟨dW ca,0,none⟩)(hn:n=l.length):Fit w0 (aB (rowOf E sz enc (.slice ca n cc) l::L)) w:=h.Un hca hn
theorem yT{w':World}{x y:Operand}{k:IntKind}{i:Int}(ho:o.op= .indexAddr t x y)(hx:eM e x= .slice ca n cc)(hy:eM e y= .int k i)
 (ht:P.underlying t=some (.slice E)) (hs:(P.info? E).map (·.size)=some sz) (hF:Fit w0 (aB (rowOf E sz enc (.slice ca n cc) l::L)) w) (hi:bG i l.length):(execOp (eM e) o).run P w'= .ok (.value (.pointer (some ⟨dW ca,i.toNat*sz,none⟩))) w':=by
 have hn:=hF.p7;have h0:=hi.1;have h1:=hi.2;have hca:=(hF.rW I).1;exact Xe hca ho hx hy ht hs h0 I
end
section
variable {P:Program}{ops:Array Oper}{Q:Exit->Act->World->Prop}{a:Act}{w w0 w1:World}{rest:List Oper}{o:Oper}{n d t:Nat}{v:Value}{l:List (Nat×Value)}{j e:Nat->Value}{L:List aZ}{H:aZ}{Df:List Deferred}
variable {α:Type}{E:TypeId}{sz n0 cc:Nat}{enc:α->List Value}{xs:List α}{ca:fO}
theorem oW{x y:Operand}(hw:tL o ops a)(hd:o.dst=none)(hr:cK Df n (lk l j) a)(ho:o.op= .store t x y)
 {i f:Nat} (hx:eM (lk l j) x= .pointer (some ⟨dW ca,i*sz+f,none⟩)) (hy:eM (lk l j) y=v) (hv:v.cells=#[v]) (h1:v.oneCell'=true) (hs:(P.info? t).map (·.size)=some 1)
 (he:sF enc sz) (hF:Fit w0 (aB (rowOf E sz enc (.slice ca n0 cc) xs::L)) w) {p q:α} (hp:xs[i]? = some p) (hf:f<sz) (hq:enc q=(enc p).set f v)
 (k:∀w1,Fit w0 (aB (rowOf E sz enc (.slice ca n0 cc) (xs.set i q)::L)) w1->wpList P ops Q rest a w1):wpList P ops Q (o::rest) a w:=by
 have hlt:i<xs.length:=(List.getElem?_eq_some_iff.1 hp).1;have hn:=hF.p7;obtain⟨hca,BV⟩:=hF.rW I;exact I2 hw hd hr ho hx hy hv h1 hs he BV hp hf hq λw1 h=>k w1 (h.yq hca (by rw[gY];exact hn))
theorem xG{x y:Operand}{vs:List Value}(hw:tL o ops a)(hd:o.dst=none)(hr:cK Df n (lk l j) a)(ho:o.op= .store t x y)
 {i:Nat} (hx:eM (lk l j) x= .pointer (some ⟨dW ca,i*sz,none⟩)) (hy:eM (lk l j) y= .agg vs.toArray) (h1:vs.all (·.oneCell')=true) (hs:(P.info? t).map (·.size)=some vs.length)
 (he:sF enc sz) (hF:Fit w0 (aB (rowOf E sz enc (.slice ca n0 cc) xs::L)) w) {q:α} (hi:i<xs.length) (hq:enc q=vs)
 (k:∀w1,Fit w0 (aB (rowOf E sz enc (.slice ca n0 cc) (xs.set i q)::L)) w1->wpList P ops Q rest a w1):wpList P ops Q (o::rest) a w:=by
 have hn:=hF.p7;obtain⟨hca,BV⟩:=hF.rW I;exact G8 hw hd hr ho hx hy h1 hs he BV hi hq λw1 h=>k w1 (h.yq hca (by rw[gY];exact hn))
theorem oX{x y:Operand}{i:Int}{bytes:Nat}{zc:Array Value}(z0:α)(hw:tL o ops a)(hd:o.dst=some d)(hn:Nat.blt d n=true)(hr:cK Df n (lk l j) a)
 (ho:o.op= .makeSlice t x y) (hx:eM (lk l j) x= .int .i64 i) (hy:eM (lk l j) y= .int .i64 i) (hi:0<=i/\i*bytes<=140737488355328) (he:sF enc sz) (hty:P.underlying t=some (.slice E))
 (qK:(P.info? E).map (λi=>(i.size,i.bytes,i.zero.map (·.cells)))=some (sz,bytes,some zc)) (hz:zc.toList=enc z0) (Mw:Nat.blt 0 bytes=true) (hF:Fit w0 (aB L) w)
 (k:∀ca w1 a,Fit w0 (aB (rowOf E sz enc (.slice ca (List.replicate i.toNat z0).length i.toNat) (List.replicate i.toNat z0)::L)) w1->cK Df n (lk ((d,.slice ca (List.replicate i.toNat z0).length i.toNat)::l) j) a->wpList P ops Q rest a w1):wpList P ops Q (o::rest) a w:=by
 have hb:i.toNat*bytes<=140737488355328:=by
  have h2:=hi.2;have e:((i.toNat*bytes:Nat):Int)=i*bytes:=by rw[Int.natCast_mul,Int.toNat_of_nonneg hi.1]
  omega
 refine Ur (c:=i.toNat) z0 hw hd hn hr ho hx hy (by have:=hi.1;omega) he hty qK hz hb Mw hF λg w1 a h Io => ?_;have hl:(List.replicate i.toNat z0).length=i.toNat:=mo;refine k (some ⟨g,0,none⟩) w1 a (h.Ob rfl) ?_;rw[hl];exact Io
theorem KG{s x:Operand}{cb:fO}{n1 cd:Nat}{ys:List α}(hw:tL o ops a)(hd:o.dst=some d)(hn:Nat.blt d n=true)(hr:cK Df n (lk l j) a)
 (ho:o.op= .call {callee:=.builtin .copy,args:=#[s,x],argTypes:=#[t,t]}) (hs:eM (lk l j) s= .slice ca n0 cc) (hx:eM (lk l j) x= .slice cb n1 cd)
 (he:sF enc sz) (hty:P.underlying t=some (.slice E)) (hsz:(P.info? E).map (·.size)=some sz) (hlen:ys.length=xs.length)
 (hF:Fit w0 (aB (rowOf E sz enc (.slice ca n0 cc) xs::rowOf E sz enc (.slice cb n1 cd) ys::L)) w)
 (k:∀w1 a,Fit w0 (aB (rowOf E sz enc (.slice ca n0 cc) ys::rowOf E sz enc (.slice cb n1 cd) ys::L)) w1->cK Df n (lk ((d,.int .i64 ((xs.length:Nat):Int))::l) j) a->wpList P ops Q rest a w1):wpList P ops Q (o::rest) a w:=by
 have GZ:=hF.p7;have Mx:=(hF.pick 1).p7;rcases hF.rows with ⟨e1,e2,BV⟩ | ⟨g,cap,e1,_,BV⟩
 ·simp only[Value.slice.injEq]at e1;obtain⟨rfl,rfl,rfl⟩:=e1;subst e2;obtain rfl:ys=[]:=Ew hlen;subst Mx;refine qX (w1:=w) (v:=.int .i64 0) hw hd hn hr ?_ (λa hr=>k w a hF (by simpa using hr));have hcells:(Builtin.firstCells sz 0 (.slice cb 0 cd)).run P w= .ok #[] w:=by
   have:=hF.pick 1;rcases(hF.pick 1).rows with ⟨e3,_,_⟩ | ⟨g',cap',e3,_,_⟩<;>simp only[Value.slice.injEq]at e3<;>rw[e3.1]
   ·have:=run_firstCells_none (P:=P) w sz 0 0 cd;simpa using this
   ·have:=run_firstCells_some (P:=P) w sz 0 ⟨g',0,none⟩ 0 cd [] (by simp) (by intro j u hu;simp at hu);simpa using this
  unfold execOp;cases wz:P.info? E with
  | none=>simp[wz]at hsz
  | some q =>
   simp[wz]at hsz;simp only[ho,resolve,invoke,builtin,mV,sO,mW,Ey,zF,Ai,hs,hx];simp[Builtin.copy_,run_underlying hty,Builtin.lenOf,sizeOf,typeInfo,wz,hsz,hcells,goInt]
 ·simp only[Value.slice.injEq]at e1;obtain⟨rfl,_,rfl⟩:=e1;exact Us hw hd hn hr ho hs hx GZ he hty hsz hlen BV λw1 a h Io=>k w1 a (h.Ob I) Io
theorem _root_.Go.Proofs.YtpikpffbcjpmcaaGreatDoor.SL.Fit.dn{w0 w:World}(k:Nat){L:List aZ}(h:Fit w0 (aB L) w):Fit w0 (aB (L.drop k)) w:=by
 induction k generalizing L with
 | zero=>exact h
 | succ k ih =>
  cases L with
  | nil=>exact h
  | cons P L=>exact ih h.drop
def bE{α:Type}(L:List aZ)(sz:Nat)(enc:α->List Value)(va:fO)(l:List α):Prop:=
 ∀i x,l[i]? = some x->va=some ⟨dW va,j6 va,none⟩/\∀f u,(enc x)[f]? = some u->∀z w,Fit z (aB L) w->w.cell? ⟨dW va,j6 va+i*sz+f,none⟩=some u
theorem bE.nil{va:fO}:bE L sz enc va ([]:List α):=λi x h=>by simp at h
theorem bE.up(k:Nat){L':List aZ}{va:fO}{l:List α}(h:bE (L'.drop k) sz enc va l):bE L' sz enc va l:=
 λi x hx=>⟨(h i x hx).1,λf u hu z w hw=>(h i x hx).2 f u hu z w (hw.dn k)⟩
theorem bE.FU{z0:World}{L' L'' L3:List aZ}{n cc:Nat}{l:List α}(he:sF enc sz)(h0:Fit z0 (aB (rowOf E sz enc (.slice ca n cc) l::L'')) w)
 (f:∀{z w},Fit z (aB L') w->Fit z (aB (rowOf E sz enc (.slice ca n cc) l::L3)) w):bE L' sz enc ca l:=by
 intro i x hx;have hlt:i<l.length:=(List.getElem?_eq_some_iff.1 hx).1;have hca:=(h0.rW I).1;have ho:j6 ca=0:=by rw[hca];rfl
 refine⟨by rw[ho];exact hca,λq u hu z w hw => ?_⟩;rw[ho,Ag];exact(f hw).bL he hx hu
theorem bE.take{va:fO}{l:List α}(h:bE L sz enc va l)(k:Nat):bE L sz enc va (l.take k):=by
 intro i x hx;refine h i x ?_;rw[List.getElem?_take]at hx;split at hx
 ·exact hx
 ·cases hx
theorem Wf{x y:Operand}{k:IntKind}{i:Int}{n0:Nat}{L:List aZ}{va:fO}[Inhabited α]{l:List α}(ho:o.op= .indexAddr t x y)(hx:eM e x= .slice va n0 cc)(hy:eM e y= .int k i)(GZ:n0=l.length)
 (ht:P.underlying t=some (.slice E)) (hs:(P.info? E).map (·.size)=some sz) (hF:bE L sz enc va l) (hi:bG i l.length):(execOp (eM e) o).run P w= .ok (.value (.pointer (some ⟨dW va,j6 va+i.toNat*sz,none⟩))) w:=by
 have h0:=hi.1;have h1:=hi.2;exact rie (hF _ _ (aT hi)).1 ho hx hy ht hs h0 I
theorem bE.cell{z:World}{L:List aZ}{va:fO}[Inhabited α]{l:List α}{i:Int}(hF:bE L sz enc va l)(hi:bG i l.length)(h:Fit z (aB L) w)(f:Nat){u:Value}(hu:(enc (J l i.toNat))[f]? = some u):w.cell? ⟨dW va,j6 va+i.toNat*sz+f,none⟩=some u:=
 (hF _ _ (aT hi)).2 f u hu z w h
theorem FV:∀(n:Nat) (L:List aZ),aB ((List.range n).map (λi=>L.getD i Mv)++L.drop n)=aB L
 | 0,L=>by simp
 | n+1,[]=>by
  have e:∀n,aB ((List.range n).map (λi=>([]:List aZ).getD i Mv))=aB []:=by
   intro n
   induction n with
   | zero=>rfl
   | succ n ih =>
    rw[List.range_succ,FF,An,ih];show sep Mv (sep Mv Mv)=Mv;rw[Fk,Fk]
  simpa using e (n+1)
 | n+1,P::L=>by
  rw[List.range_succ_eq_map,zF,List.map_map];have ih:=FV n L;show sep P (aB (List.map ((λi=>(P::L).getD i Mv)∘Nat.succ) (List.range n)++L.drop n))=sep P (aB L);rw[<-ih]
  rfl
def aay(n:Nat)(is:List Nat):Bool:=(is++(List.range n).filter (λi => !is.contains i)).isPerm (List.range n)
theorem _root_.Go.Proofs.YtpikpffbcjpmcaaGreatDoor.SL.Fit.Zw{w0 w:World}{L L':List aZ}(h:Fit w0 (aB L) w)(n:Nat)(is:List Nat)(hB:aay n is=true)(e:is.map (λi=>L.getD i Mv)++L.drop n=L'):Fit w0 (aB L') w:=by
 subst e;have hp:=(List.isPerm_iff.1 hB).map (λi=>L.getD i Mv);have h1:Fit w0 (aB ((List.range n).map (λi=>L.getD i Mv)++L.drop n)) w:=h.eq (FV n L).symm;rw[FF]at hp;have h2:=h1.perm (hp.symm.append_right (L.drop n));have h3:=h2.perm (List.perm_append_comm.append_right (L.drop n));rw[pS]at h3;generalize ((List.range n).filter (λi => !is.contains i)).map (λi=>L.getD i Mv)=X at h3;clear h h1 h2 hp hB
 induction X with
 | nil=>exact h3
 | cons x X ih=>exact ih h3.drop
theorem Cf{f:FuncId}{args:Array Value}(hw:tL o ops a)(hd:o.dst=some d)(hn:Nat.blt d n=true)(hr:cK Df n (lk l j) a)
 (hrun:(execOp (eM (lk l j)) o).run P w= .ok (.enter f args) w) (hc:Calls P f args w λe w1 =>∃v,e= .returned v/\∀a,cK Df n (lk ((d,v)::l) j) a->wpList P ops Q rest a w1):wpList P ops Q (o::rest) a w:=
 s9 hw hd hn hr hrun hc λe w1 h=>h
theorem FW{fn:Func}{R:Ending->World->Prop}{t1 t2 t3:Nat}{v1 v2 v3:Value}(hres:fn.results=#[.tmp t1,.tmp t2,.tmp t3])(hr:kI n e a)(h1:e t1=v1)(h2:e t2=v2)(h3:e t3=v3)(h:R (.returned (.tuple #[v1,v2,v3])) w):bodyPost P fn R .ret a w:=by
 refine bodyPost_ret ?_ hr.defers h;have g1:=hr.get t1;have g2:=hr.get t2;have g3:=hr.get t3;rw[h1,w8]at g1;rw[h2,w8]at g2;rw[h3,w8]at g3;simp[results,hres,g1,g2,g3]
variable {md:Region.Mode}
def eH(P:Program)(md:Region.Mode)(ops:Array Oper)(Q:Exit->Act->World->Prop)(D:World->Prop)(E:List Nat):Nat->Array Bool->Act->World->Prop
 | 0,aK,a,w=>Region.ready md ops aK=[]/\Q .normal a w
 | fuel+1,aK,a,w=>(Region.ready md ops aK=[]->Q .normal a w)/\
  ∀i∈Region.ready md ops aK,wpOp P ops Q i (λa w=>(i∈E->D w)/\eH P md ops Q D E fuel (aK.setIfInBounds i true) a w) a w
theorem FX{D:World->Prop}{E:List Nat}:∀(fuel:Nat) (aK:Array Bool) (a:Act) (w:World),eH P md ops Q D E fuel aK a w->wpAny P md ops Q fuel aK a w
 | 0,_,_,_,h=>h
 | f+1,aK,a,w,h=>⟨h.1,λi hi=>wpOp_mono (λa w k=>FX f _ a w k.2) (h.2 i hi)⟩
def BZ(md:Region.Mode)(ops:Array Oper)(E:List Nat)(aK:Array Bool)(i:Nat):Bool:=
 (List.range ops.size).all λk=>k==i||aK.getD k true || !KF md ops aK i ops.size k||E.contains k||match ops[k]? with | some ok=>DI ok | none=>true
theorem PR{D D':World->Prop}{E E':List Nat}{k:Nat}{oi ok:Oper}(hk:ops[k]? = some ok)(hap:oi.apart ops ok=true)(T5:wB Q)
 (hsi:∀cs b,oi.op≠.select cs b) (hsk:∀cs b,ok.op≠.select cs b) (Q7:∀k∈E',k∈E/\∀w,D w->D' w) (hDk:∀w w',oV w w'->D' w->D' w') (KH:(∀w,D' w)∨DI ok=true∨k∈E') (hD:D' w) {K:Act->World->Prop}
 (hy:YD P ops D' oi v a) (h:wpOp P ops Q k (λa w=>(k∈E->D w)/\K a w) (a.put oi.dst v) w):wpOp P ops Q k (λa w=>(k∈E->D w)/\D' w/\YD P ops D' oi v a/\K (a.put oi.dst v) w) a w:=by
 obtain⟨h1,h2,h3⟩:=Oper.apart_spec hap;have keep:∀(a:Act),YD P ops D' oi v a->∀u,YD P ops D' oi v (a.put ok.dst u):=λa hy u=>hy.of_same (execOp_put oi hsi a ok.dst u h3) (wanted_put oi a ok.dst u h3);unfold wpOp at *;simp only[hk]at *;rw[wanted_put ok a oi.dst v h1]at h;by_cases hw:Region.wanted ok (yielded ops a.tmps)=true
 ·rw[aP hw]at h⊢;rcases h with h | h
  ·left
   unfold Oper.wp at *;rw[execOp_put ok hsk a oi.dst v h1]at h;have hkeep:=λ(hb:DI ok=true) x w' hr=>KC (P:=P) hb a.eval w w' x hr;generalize (execOp a.eval ok).run P w=r at *;cases r with
   | ok x w' =>
    have hD':(k∈E->D w')->D' w':=by
     intro hE;rcases KH with yt | hb | hb
     ·exact yt w'
     ·exact hDk w w' (hkeep hb x w' rfl).2 hD
     ·exact(Q7 k hb).2 _ (hE (Q7 k hb).1)
    cases x<;>simp only[Oper.upon]at h⊢
    case value u=>exact⟨h.1,hD' h.1,keep a hy u,by rw[<-Act.put_comm a v u h2];exact h.2⟩
    case skip=>exact⟨h.1,hD' h.1,keep a hy _,by rw[<-Act.put_comm a v undef h2];exact h.2⟩
    case defer df =>
     refine⟨h.1,hD' h.1,?_,?_⟩
     ·have:YD P ops D' oi v ({a with defers:=df::a.defers}:Act):=hy;exact keep _ this _
     ·have e:=Act.put_comm ({a with defers:=df::a.defers}:Act) v undef h2;rw[<-e];have e2:({(a.put oi.dst v)with defers:=df::(a.put oi.dst v).defers}:Act)=({a with defers:=df::a.defers}:Act).put oi.dst v:=by cases oi.dst<;>rfl
      rw[<-e2];exact h.2
    case enter f args =>
     have hpr:∀w'',(k∈E->D w'')->D' w'':=by
      intro w'' hE;rcases KH with yt | hb | hb
      ·exact yt w''
      ·obtain⟨⟨u,hu⟩,_⟩:=hkeep hb _ _ rfl;cases hu
      ·exact(Q7 k hb).2 _ (hE (Q7 k hb).1)
     refine h.mono λe w'' he => ?_;cases e with
     | returned u=>exact⟨he.1,hpr _ he.1,keep a hy u,by rw[<-Act.put_comm a v u h2];exact he.2⟩
     | panicked ch=>exact T5 ch a w'' _ _ he
     | outgrown=>exact he
    case row rw' args =>
     have hpr:∀w'',(k∈E->D w'')->D' w'':=by
      intro w'' hE;rcases KH with yt | hb | hb
      ·exact yt w''
      ·obtain⟨⟨u,hu⟩,_⟩:=hkeep hb _ _ rfl;cases hu
      ·exact(Q7 k hb).2 _ (hE (Q7 k hb).1)
     refine h.mono λu w'' he => ?_;exact⟨he.1,hpr _ he.1,keep a hy u,by rw[<-Act.put_comm a v u h2];exact he.2⟩
   | halt x w' =>
    cases x<;>simp only[Oper.upon]at h⊢;exact T5 _ a w' _ _ h
  ·right
   refine⟨?_,h.2⟩;have:=h.1;unfold Oper.asks at *;rw[execOp_put ok hsk a oi.dst v h1]at this;exact this
 ·rw[ct hw]at h⊢;exact⟨h.1,hD,keep a hy _,by rw[<-Act.put_comm a v undef h2];exact h.2⟩
theorem tT{D D':World->Prop}{E E':List Nat}{i:Nat}{oi:Oper}(hi:ops[i]? = some oi)(T5:wB Q)(hsel:∀(k:Nat) (o:Oper) cs b,ops[k]? = some o->o.op≠.select cs b)(hiD:i∈E->∀w,D' w->D w)(Q7:∀k∈E',k∈E/\∀w,D w->D' w)(hDk:∀w w',oV w w'->D' w->D' w')
 (sq:Array Bool) (KH:(∀w,D' w)∨BZ md ops E' sq i=true) :
 ∀(fuel:Nat) (aK:Array Bool) (a:Act) (w:World),
   (∀k ok,ops[k]? = some ok->k≠i->aK.getD k true=false->(∀e∈ok.after,Region.binds md e=true->e.on≠i)->oi.apart ops ok=true)->
   (∀k,aK.getD k true=false->sq.getD k true=false)->
   (∀k,aK.getD k false=true->sq.getD k false=true∨∀f,KF md ops sq i f k=true)->
   i∈Region.ready md ops aK->D' w->YD P ops D' oi v a->
   eH P md ops Q D E fuel (aK.setIfInBounds i true) (a.put oi.dst v) w->eH P md ops Q D E (fuel+1) aK a w:=by
 intro fuel;have hcan:∀(aK:Array Bool),(∀k,aK.getD k false=true->sq.getD k false=true∨∀f,KF md ops sq i f k=true)->∀k ok,ops[k]? = some ok->k≠i->(∀e∈ok.after,Region.binds md e=true->aK.getD e.on false=true)->∀f,KF md ops sq i f k=true:=by
  intro aK hl k ok hk I7 yt f;cases f with
  | zero=>rfl
  | succ f =>
   simp only[KF,hk,lP,bne_iff_ne,ne_eq,I7,not_false_eq_true,true_and];rw[Array.all_eq_true_iff_forall_mem];intro e he;by_cases hb:Region.binds md e=true
   ·rcases hl _ (yt e he hb)with h | h
    ·simp[h]
    ·simp[h f]
   ·simp[hb]
 have hp:∀(aK:Array Bool),(∀k,aK.getD k true=false->sq.getD k true=false)->(∀k,aK.getD k false=true->sq.getD k false=true∨∀f,KF md ops sq i f k=true)->∀k ok,ops[k]? = some ok->k≠i->aK.getD k true=false->(∀e∈ok.after,Region.binds md e=true->aK.getD e.on false=true)->(∀w,D' w)∨DI ok=true∨k∈E':=by
  intro aK hl0 hl k ok hk I7 hun yt;rcases KH with h | h
  ·exact .inl h
  ·right
   have hc:=hcan aK hl k ok hk I7 yt ops.size;have h1:=List.all_eq_true.1 h k (List.mem_range.2 (Array.getElem?_eq_some_iff.1 hk).1);simp only[hk,xb,vJ,I7,false_or,hl0 k hun,Ih,hc,Bool.not_true,List.contains_iff_mem]at h1;exact h1.symm
 induction fuel with
 | zero =>
  intro aK a w _ _ _ hr hD hy H;refine⟨λh=>(by rw[h]at hr;cases hr),λk hk => ?_⟩;by_cases I7:k=i
  ·subst I7;exact hy.wpOp hi hD ⟨λh=>hiD h _ hD,H⟩
  ·have:=ready_mono hk I7;rw[H.1]at this;cases this
 | succ fuel ih =>
  intro aK a w hfree hl0 hl hr hD hy H;refine⟨λh=>(by rw[h]at hr;cases hr),λk hk => ?_⟩;by_cases I7:k=i
  ·subst I7;exact hy.wpOp hi hD ⟨λh=>hiD h _ hD,H⟩
  ·have h1:=H.2 k (ready_mono hk I7);obtain⟨Uw,ok,hok,yt⟩:=mem_ready.1 hk;have hnot:∀e∈ok.after,Region.binds md e=true->e.on≠i:=λe he hb heq=>by
    have h1:=yt e he hb;have h0:=(mem_ready.1 hr).1;rw[heq]at h1;rcases zG i aK.size with h' | h'
    ·simp[h']at h0 h1;rw[h0]at h1;cases h1
    ·simp[Array.getElem?_eq_none h']at h1
   have h2:=PR (D:=D) (E:=E) (E':=E') hok (hfree k ok hok I7 Uw hnot) T5 (λcs b=>hsel i oi cs b hi) (λcs b=>hsel k ok cs b hok) Q7 hDk (hp aK hl0 hl k ok hok I7 Uw yt) hD hy h1;have Xo:∀m om,ops[m]? = some om->m≠i->(aK.setIfInBounds k true).getD m true=false->
    (∀e∈om.after,Region.binds md e=true->e.on≠i)->oi.apart ops om=true:=λm om hm hmi hun hno=>by
    refine hfree m om hm hmi ?_ hno;by_cases hkm:k=m
    ·subst hkm;exact Uw
    ·rw[getD_set_ne true hkm]at hun;exact hun
   have acS:∀m,(aK.setIfInBounds k true).getD m true=false->sq.getD m true=false:=λm hm=>by
    by_cases hkm:k=m
    ·subst hkm;exact hl0 k Uw
    ·rw[getD_set_ne true hkm]at hm;exact hl0 m hm
   have hl':∀m,(aK.setIfInBounds k true).getD m false=true->sq.getD m false=true∨∀f,KF md ops sq i f m=true:=λm hm=>by
    by_cases hkm:k=m
    ·subst hkm;exact .inr (hcan aK hl k ok hok I7 yt)
    ·rw[getD_set_ne false hkm]at hm;exact hl m hm
   refine wpOp_mono (λa' w' h3=>⟨h3.1,ih (aK.setIfInBounds k true) a' w' Xo acS hl' (ready_mono hr (Ne.symm I7)) h3.2.1 h3.2.2.1 ?_⟩) h2;rw[Array.setIfInBounds_comm _ _ I7];exact h3.2.2.2
theorem aaz{id:Nat}{lo:List Oper}{H:aZ}(D:World->Prop)(E:List Nat)(hF:Fit w0 H w)(hm:P.follows .mixedOrders=true)(k:∀w,Fit w0 H w->eH P .any lo.toArray Q D E lo.toArray.size (Array.replicate lo.toArray.size false) a w) :
 (Code.region id lo.toArray true).wp P Q a w:=Ut hF hm λw h=>FX _ _ _ _ (k w h)
theorem e_val{D:World->Prop}{E:List Nat}{fuel i:Nat}{aK:Array Bool}(T5:wB Q)(hi:ops[i]? = some o)(PS:Region.noSelect ops=true)(hrd:(Region.ready .any ops aK).contains i=true)(hfr:Region.free .any ops aK i=true)
 (hiE:E.contains i=false) (hw:tL o ops a) (hd:o.dst=some d) (hn:Nat.blt d n=true) (hr:cK Df n (lk l j) a) (hrun:∀w,(execOp (eM (lk l j)) o).run P w= .ok (.value v) w)
 (k:∀a,cK Df n (lk ((d,v)::l) j) a->eH P .any ops Q D E fuel (aK.setIfInBounds i true) a w):eH P .any ops Q D E (fuel+1) aK a w:=by
 refine tT (D:=D) (D':=λ_=>True) (E:=E) (E':=[]) (v:=v) hi T5 (Ko PS) (λh=>absurd h (by simpa using hiE)) (λ_ h=>nomatch h) (λ_ _ _ _=>trivial) aK (.inl λ_=>trivial) fuel aK a w (Region.free_spec hi hfr) (λ_ h=>h) (λ_ h=>.inl h) (by simpa using hrd) trivial ?_ ?_
 ·exact .inl ⟨hw,λw _=>by rw[hr.eval];exact hrun w⟩
 ·rw[hd];exact k _ (hr.put d v hn)
theorem e_off{D:World->Prop}{E:List Nat}{fuel i:Nat}{aK:Array Bool}(T5:wB Q)(hi:ops[i]? = some o)(PS:Region.noSelect ops=true)(hrd:(Region.ready .any ops aK).contains i=true)(hfr:Region.free .any ops aK i=true)
 (hiE:E.contains i=false) (hw:Region.wanted o (yielded ops a.tmps)=false) (hd:o.dst=some d) (hn:Nat.blt d n=true) (hr:cK Df n (lk l j) a)
 (k:∀a,cK Df n (lk ((d,undef)::l) j) a->eH P .any ops Q D E fuel (aK.setIfInBounds i true) a w):eH P .any ops Q D E (fuel+1) aK a w:=by
 refine tT (D:=D) (D':=λ_=>True) (E:=E) (E':=[]) (v:=undef) hi T5 (Ko PS) (λh=>absurd h (by simpa using hiE)) (λ_ h=>nomatch h) (λ_ _ _ _=>trivial) aK (.inl λ_=>trivial) fuel aK a w (Region.free_spec hi hfr) (λ_ h=>h) (λ_ h=>.inl h) (by simpa using hrd) trivial ?_ ?_
 ·exact .inr ⟨hw,rfl⟩
 ·rw[hd];exact k _ (hr.put d undef hn)
theorem FY:∀(cs:List Value) (b off:Nat) (w w':World),oV w w'->qJ w b off cs->qJ w' b off cs
 | [],_,_,_,_,_,_=>trivial
 | _::cs,b,off,w,w',hg,h=>⟨hg _ _ h.1,FY cs b (off+1) w w' hg h.2⟩
theorem Xp{D:World->Prop}{E:List Nat}(E':List Nat){fuel i:Nat}{aK:Array Bool}{b off:Nat}{cs:List Value}(T5:wB Q)(Q7:∀k∈E',k∈E/\∀w,D w->qJ w b off cs)(hi:ops[i]? = some o)(PS:Region.noSelect ops=true)(hrd:(Region.ready .any ops aK).contains i=true)(hfr:Region.free .any ops aK i=true)
 (hpr:BZ .any ops E' aK i=true) (hiE:E.contains i=false) (hw:tL o ops a) (hd:o.dst=some d) (hn:Nat.blt d n=true) (hr:cK Df n (lk l j) a)
 (hc:qJ w b off cs) (hrun:∀w,qJ w b off cs->(execOp (eM (lk l j)) o).run P w= .ok (.value v) w)
 (k:∀a,cK Df n (lk ((d,v)::l) j) a->eH P .any ops Q D E fuel (aK.setIfInBounds i true) a w):eH P .any ops Q D E (fuel+1) aK a w:=by
 refine tT (D:=D) (D':=λw=>qJ w b off cs) (E:=E) (E':=E') (v:=v) hi T5 (Ko PS) (λh=>absurd h (by simpa using hiE)) Q7 (λw w'=>FY cs b off w w') aK (.inr hpr) fuel aK a w (Region.free_spec hi hfr) (λ_ h=>h) (λ_ h=>.inl h) (by simpa using hrd) hc ?_ ?_
 ·exact .inl ⟨hw,λw h=>by rw[hr.eval];exact hrun w h⟩
 ·rw[hd];exact k _ (hr.put d v hn)
theorem mz{D:World->Prop}{E:List Nat}{fuel:Nat}{aK:Array Bool}(r:List Nat)(hrd:Region.ready .any ops aK=r)(hne:r.isEmpty=false)
 (k:I4 (λi =>∃o,ops[i]? = some o/\wpList P ops (Exit.then (λa w=>(i∈E->D w)/\eH P .any ops Q D E fuel (aK.setIfInBounds i true) a w) Q) [o] a w) r):eH P .any ops Q D E (fuel+1) aK a w:=by
 refine⟨(λh=>by rw[hrd]at h;rw[h]at hne;cases hne),λk' hk' => ?_⟩;rw[hrd]at hk';obtain⟨o,hi,k⟩:=I4.mem k k' hk';unfold wpOp;simp only[hi];unfold wpList at k;have hlo:LetsOut (Exit.then (λa w=>(k'∈E->D w)/\eH P .any ops Q D E fuel (aK.setIfInBounds k' true) a w) Q)->LetsOut Q:=λ⟨a,w,h⟩=>⟨a,w,h⟩;have hmo:∀{x:Act} {y:World} {K:Act->World->Prop},o.wp P x y K (Exit.then (λa w=>(k'∈E->D w)/\eH P .any ops Q D E fuel (aK.setIfInBounds k' true) a w) Q)->o.wp P x y K Q:=by
  intro x y K h;unfold Oper.wp at *;generalize (execOp x.eval o).run P y=r at *;cases r with
  | ok z w' =>
   cases z<;>simp only[Oper.upon]at h⊢<;> first
    | exact h
    | (refine h.mono λe w'' he => ?_
       cases e with
       | returned u=>exact he
       | panicked ch=>exact he
       | outgrown=>exact hlo he)
  | halt z w'=>cases z<;>simp only[Oper.upon]at h⊢<;> exact h
 split
 ·rename_i hw;rw[aP hw]at k;rcases k with k | k
  ·exact .inl (Oper.wp_mono (λ_ _ h=>h) (hmo k))
  ·exact .inr ⟨k.1,hlo k.2⟩
 ·rename_i hw;rw[ct hw]at k;exact k
theorem aaA{D:World->Prop}{E:List Nat}{fuel i:Nat}{aK:Array Bool}(hrd:Region.ready .any ops aK=[i])(hi:ops[i]? = some o)
 (k:wpList P ops (Exit.then (λa w=>(i∈E->D w)/\eH P .any ops Q D E fuel (aK.setIfInBounds i true) a w) Q) [o] a w):eH P .any ops Q D E (fuel+1) aK a w:=
 mz [i] hrd rfl (cT ⟨o,hi,k⟩ iy)
theorem aaB{D:World->Prop}{E:List Nat}{fuel:Nat}{aK:Array Bool}(hrd:Region.ready .any ops aK=[])(k:Q .normal a w):eH P .any ops Q D E fuel aK a w:=by
 cases fuel with
 | zero=>exact⟨hrd,k⟩
 | succ f=>exact⟨λ_=>k,λi hi=>by rw[hrd]at hi;cases hi⟩
theorem qY{c:Code}(afv:Act->World->Prop)(h:c.wp P (Exit.then afv Q) a w)(k:∀a w,afv a w->Q .normal a w):c.wp P Q a w:=
 Code.wp_mono (λe a w q=>by
  cases e with
  | normal=>exact k a w q
  | _=>exact q) h
class PI (Q:Exit->Act->World->Prop):Prop where
 pi:wB Q
instance acN {fn:Func} {R:Ending->World->Prop}:PI (bodyPost P fn R):=⟨KD⟩
instance acO {K:Act->World->Prop} [h:PI Q]:PI (Exit.then K Q):=⟨KE h.pi⟩
instance aaC {i:Nat} [h:PI Q]:PI (Exit.inBlock i Q):=⟨I3 h.pi⟩
def okB(ops:Array Oper)(E:List Nat)(aK:Array Bool)(i:Nat):Bool:=Region.noSelect ops&&(Region.ready .any ops aK).contains i&&Region.free .any ops aK i && !E.contains i
theorem RB{E:List Nat}{aK:Array Bool}{i:Nat}(h:okB ops E aK i=true):Region.noSelect ops=true/\(Region.ready .any ops aK).contains i=true/\Region.free .any ops aK i=true/\E.contains i=false:=by
 unfold okB at h;simp only[lP,Bool.not_eq_true']at h;exact⟨h.1.1.1,h.1.1.2,h.1.2,h.2⟩
theorem ev{D:World->Prop}{E:List Nat}{aK:Array Bool}[hp:PI Q](fuel i:Nat)(hi:ops[i]? = some o)(hB:okB ops E aK i=true)(hw:tL o ops a)(hr:cK Df n (lk l j) a)(v:Value)
 (hrun:∀w,(execOp (eM (lk l j)) o).run P w= .ok (.value v) w) (k:∀a,cK Df n (lk ((d,v)::l) j) a->eH P .any ops Q D E fuel (aK.setIfInBounds i true) a w) (hd:o.dst=some d:=by rfl) (hn:Nat.blt d n=true:=by rfl) :
 eH P .any ops Q D E (fuel+1) aK a w:=
 have hb:=RB hB
 e_val hp.pi hi hb.1 hb.2.1 hb.2.2.1 hb.2.2.2 hw hd hn hr hrun k
theorem eo{D:World->Prop}{E:List Nat}{aK:Array Bool}[hp:PI Q](fuel i:Nat)(hi:ops[i]? = some o)(hB:okB ops E aK i=true)(hw:Region.wanted o (yielded ops a.tmps)=false)(hr:cK Df n (lk l j) a)
 (k:∀a,cK Df n (lk ((d,undef)::l) j) a->eH P .any ops Q D E fuel (aK.setIfInBounds i true) a w) (hd:o.dst=some d:=by rfl) (hn:Nat.blt d n=true:=by rfl) :
 eH P .any ops Q D E (fuel+1) aK a w:=
 have hb:=RB hB
 e_off hp.pi hi hb.1 hb.2.1 hb.2.2.1 hb.2.2.2 hw hd hn hr k
def okP(ops:Array Oper)(E:List Nat)(aK:Array Bool)(i:Nat):Bool:=Region.noSelect ops&&(Region.ready .any ops aK).contains i&&Region.free .any ops aK i&&BZ .any ops E aK i
theorem Wg{E:List Nat}{aK:Array Bool}{i:Nat}(h:okP ops E aK i=true):Region.noSelect ops=true/\(Region.ready .any ops aK).contains i=true/\Region.free .any ops aK i=true/\BZ .any ops E aK i=true:=by
 unfold okP at h;simp only[lP]at h;exact⟨h.1.1.1,h.1.1.2,h.1.2,h.2⟩
theorem evD{D:World->Prop}{E:List Nat}{aK:Array Bool}[hp:PI Q](hgo:∀w w',oV w w'->D w->D w')(hDw:D w)(fuel i:Nat)(hi:ops[i]? = some o)(hB:okP ops E aK i=true)(hw:tL o ops a)(hr:cK Df n (lk l j) a)(v:Value)
 (hrun:∀w,(execOp (eM (lk l j)) o).run P w= .ok (.value v) w) (k:∀a,cK Df n (lk ((d,v)::l) j) a->eH P .any ops Q D E fuel (aK.setIfInBounds i true) a w) (hd:o.dst=some d:=by rfl) (hn:Nat.blt d n=true:=by rfl) :
 eH P .any ops Q D E (fuel+1) aK a w:=by
 have hb:=Wg hB;refine tT (D:=D) (D':=D) (E:=E) (E':=E) (v:=v) hi hp.pi (Ko hb.1) (λ_ _ h=>h) (λk hk=>⟨hk,λ_ h=>h⟩) hgo aK (.inr hb.2.2.2) fuel aK a w (Region.free_spec hi hb.2.2.1) (λ_ h=>h) (λ_ h=>.inl h) (by simpa using hb.2.1) hDw ?_ ?_
 ·exact .inl ⟨hw,λw _=>by rw[hr.eval];exact hrun w⟩
 ·rw[hd];exact k _ (hr.put d v hn)
theorem eoD{D:World->Prop}{E:List Nat}{aK:Array Bool}[hp:PI Q](hgo:∀w w',oV w w'->D w->D w')(hDw:D w)(fuel i:Nat)(hi:ops[i]? = some o)(hB:okP ops E aK i=true)(hw:Region.wanted o (yielded ops a.tmps)=false)(hr:cK Df n (lk l j) a)
 (k:∀a,cK Df n (lk ((d,undef)::l) j) a->eH P .any ops Q D E fuel (aK.setIfInBounds i true) a w) (hd:o.dst=some d:=by rfl) (hn:Nat.blt d n=true:=by rfl) :
 eH P .any ops Q D E (fuel+1) aK a w:=by
 have hb:=Wg hB;refine tT (D:=D) (D':=D) (E:=E) (E':=E) (v:=undef) hi hp.pi (Ko hb.1) (λ_ _ h=>h) (λk hk=>⟨hk,λ_ h=>h⟩) hgo aK (.inr hb.2.2.2) fuel aK a w (Region.free_spec hi hb.2.2.1) (λ_ h=>h) (λ_ h=>.inl h) (by simpa using hb.2.1) hDw ?_ ?_
 ·exact .inr ⟨hw,rfl⟩
 ·rw[hd];exact k _ (hr.put d undef hn)
theorem el{D:World->Prop}{E:List Nat}{aK:Array Bool}(E':List Nat){b off:Nat}{cs:List Value}[hp:PI Q](Q7:∀k∈E',k∈E/\∀w,D w->qJ w b off cs)(fuel i:Nat)(hi:ops[i]? = some o)(hB:(okB ops E aK i&&BZ .any ops E' aK i)=true)(hw:tL o ops a)(hr:cK Df n (lk l j) a)(v:Value)
 (hc:qJ w b off cs) (hrun:∀w,qJ w b off cs->(execOp (eM (lk l j)) o).run P w= .ok (.value v) w)
 (k:∀a,cK Df n (lk ((d,v)::l) j) a->eH P .any ops Q D E fuel (aK.setIfInBounds i true) a w) (hd:o.dst=some d:=by rfl) (hn:Nat.blt d n=true:=by rfl) :
 eH P .any ops Q D E (fuel+1) aK a w:=by
 rw[lP]at hB;have hb:=RB hB.1;exact Xp E' hp.pi Q7 hi hb.1 hb.2.1 hb.2.2.1 hB.2 hb.2.2.2 hw hd hn hr hc hrun k
theorem ov(hr:cK Df n (lk l j) a)(v:Value)(hrun:(execOp (eM (lk l j)) o).run P w= .ok (.value v) w)(k:∀a,cK Df n (lk ((d,v)::l) j) a->wpList P ops Q rest a w)
 (hg:o.guard=none:=by rfl) (hd:o.dst=some d:=by rfl) (hn:Nat.blt d n=true:=by rfl):wpList P ops Q (o::rest) a w:=yR (wn hg) hd hn hr hrun k
def KI(P:Program):List Oper->List Value->List (Nat×Value)->(Nat->Value)->World->List (Option Nat×Option (Nat×Bool)×Result Next)
 | o::os,v::vs,l,j,w=>(o.dst,o.guard,(execOp (eM (lk l j)) o).run P w)::KI P os vs ((o.dst.getD 0,v)::l) j w
 | _,_,_,_,_=>[]
def KJ:List Nat->List Value->World->List (Option Nat×Option (Nat×Bool)×Result Next)
 | d::ds,v::vs,w=>(some d,none,.ok (.value v) w)::KJ ds vs w
 | _,_,_=>[]
def RC:List Nat->List Value->List (Nat×Value)->List (Nat×Value)
 | d::ds,v::vs,l=>RC ds vs ((d,v)::l)
 | _,_,l=>l
theorem ovs:∀(ds:List Nat) (vs:List Value) {os:List Oper} {a:Act} {l:List (Nat×Value)} (hr:cK Df n (lk l j) a) (hl:ds.length=vs.length/\ds.all (λd=>Nat.blt d n)=true) (hrun:KI P (os.take ds.length) vs l j w=KJ ds vs w)
 (k:∀a,cK Df n (lk (RC ds vs l) j) a->wpList P ops Q (os.drop ds.length) a w),wpList P ops Q os a w
 | [],[],os,a,l,hr,_,_,k=>k a hr
 | d::ds,v::vs,[],a,l,hr,hl,hrun,k=>by simp[KI,KJ]at hrun
 | d::ds,v::vs,o::os,a,l,hr,hl,hrun,k=>by
  simp only[zS,oI,KI,KJ,List.cons.injEq,Prod.mk.injEq]at hrun;obtain⟨⟨h1,h2,h3⟩,h4⟩:=hrun;obtain⟨GY,EM⟩:=hl;simp only[List.all_cons,lP]at EM;refine yR (wn h2) h1 EM.1 hr h3 λa hr => ?_;rw[h1]at h4;exact ovs ds vs hr ⟨by simpa using GY,EM.2⟩ h4 k
theorem _root_.Go.Proofs.YtpikpffbcjpmcaaGreatDoor.GX.cK.aaD{e:Nat->Value}(h:cK Df n e a)(l:List (Nat×Value))(hl:l.map (λp=>e p.1)=l.map (·.2)) :∃j,cK Df n (lk l j) a:=by
 refine h.fold l ?_
 induction l with
 | nil=>trivial
 | cons p l ih=>simp only[zF,List.cons.injEq]at hl;exact⟨hl.1,ih hl.2⟩
theorem fV{c:Operand}{x y:Code}{e:Nat->Value}(hr:cK Df n e a){b:Bool}(hb:b=true)(h:x.wp P Q a w)(hc:eM e c= .bool b:=by kernel_rfl):(Code.cond c x y).wp P Q a w:=FN hr hc hb h
theorem iO{c:Operand}{x y:Code}{e:Nat->Value}(hr:cK Df n e a){b:Bool}(hb:b=false)(h:y.wp P Q a w)(hc:eM e c= .bool b:=by kernel_rfl):(Code.cond c x y).wp P Q a w:=FO hr hc hb h
end
end GX
end
section
namespace SL
open Go Go.RowKit
structure mB(sz:Nat) where
 cs:List Value
 len:cs.length=sz
 one:∀u∈cs,u.oneCell'=true
theorem Fm{sz:Nat}(h:0<sz):sF (mB.cs (sz:=sz)) sz:=⟨λx=>x.len,λx=>x.one,h⟩
def su{α:Type}(e:TypeId)(sz:Nat)(own:α->List Value->aZ)(v:Value)(l:List α):aZ:=
 exs λcss:List (mB sz)=>aB (PG (css.length=l.length)::rowOf e sz mB.cs v css::List.zipWith (λx c=>own x c.cs) l css)
def As{α:Type}(e:TypeId)(sz:Nat)(own:α->List Value->aZ)(v:Value)(l:List α)(i:Nat)(cs:List Value):aZ:=
 exs λcss:List (mB sz)=>aB (PG (css.length=l.length/\(css[i]?).map mB.cs=some cs)::rowOf e sz mB.cs v css::(List.zipWith (λx c=>own x c.cs) l css).eraseIdx i)
section
variable {w0 w:World}{L:List aZ}{α:Type}{e:TypeId}{sz n cc i:Nat}{own:α->List Value->aZ}{v:Value}{l:List α}{ca:fO}{cs:List Value}{x y:α}
theorem Fit.Bi(h:Fit w0 (aB (su e sz own v l::L)) w) :∃css:List (mB sz),css.length=l.length/\Fit w0 (aB (rowOf e sz mB.cs v css::(List.zipWith (λx c=>own x c.cs) l css++L))) w:=by
 obtain⟨css,h⟩:=h.mZ;have h:=h.sn;obtain⟨hl,h⟩:=h.yl;exact⟨css,hl,h⟩
theorem Fit.Bj{css:List (mB sz)}(hl:css.length=l.length)(h:Fit w0 (aB (rowOf e sz mB.cs v css::(List.zipWith (λx c=>own x c.cs) l css++L))) w):Fit w0 (aB (su e sz own v l::L)) w:=by
 refine Fit.jD css ?_;refine Fit.rI (PG (css.length=l.length)::rowOf e sz mB.cs v css::List.zipWith (λx c=>own x c.cs) l css) L ?_;exact h.wo hl
theorem Fit.Bk(h:Fit w0 (aB (As e sz own v l i cs::L)) w) :∃css:List (mB sz),css.length=l.length/\(css[i]?).map mB.cs=some cs/\Fit w0 (aB (rowOf e sz mB.cs v css::((List.zipWith (λx c=>own x c.cs) l css).eraseIdx i++L))) w:=by
 obtain⟨css,h⟩:=h.mZ;have h:=h.sn;obtain⟨hl,h⟩:=h.yl;exact⟨css,hl.1,hl.2,h⟩
theorem Fit.Og{css:List (mB sz)}(hl:css.length=l.length)(hi:(css[i]?).map mB.cs=some cs)(h:Fit w0 (aB (rowOf e sz mB.cs v css::((List.zipWith (λx c=>own x c.cs) l css).eraseIdx i++L))) w):Fit w0 (aB (As e sz own v l i cs::L)) w:=by
 refine Fit.jD css ?_;refine Fit.rI (PG (css.length=l.length/\(css[i]?).map mB.cs=some cs)::rowOf e sz mB.cs v css::(List.zipWith (λx c=>own x c.cs) l css).eraseIdx i) L ?_;exact h.wo ⟨hl,hi⟩
theorem Fit.CM(h:Fit w0 (aB L) w):Fit w0 (aB (su e sz own (.slice none 0 0) ([]:List α)::L)) w:=
 Fit.Bj (css:=[]) rfl (Fit.fU h)
theorem Fit.MO(h:Fit w0 (aB (su e sz own (.slice ca n cc) l::L)) w):n=l.length:=by
 obtain⟨css,hl,h⟩:=h.Bi;rw[<-hl];exact h.p7
theorem Fit.Xq(h:Fit w0 (aB (As e sz own (.slice ca n cc) l i cs::L)) w):n=l.length:=by
 obtain⟨css,hl,_,h⟩:=h.Bk;rw[<-hl];exact h.p7
theorem Fit.me(h:Fit w0 (aB (su e sz own v l::L)) w)(hi:l[i]? = some x) :∃cs,Fit w0 (aB (As e sz own v l i cs::own x cs::L)) w:=by
 obtain⟨css,hl,h⟩:=h.Bi;have EL:i<css.length:=by rw[hl];exact(List.getElem?_eq_some_iff.1 hi).1
 have hc:css[i]? = some css[i]:=List.getElem?_eq_getElem EL;refine⟨css[i].cs,Fit.Og hl (by rw[hc];rfl) ?_⟩;have hz:(List.zipWith (λx c=>own x c.cs) l css)[i]? = some (own x css[i].cs):=by
  rw[List.getElem?_zipWith,hi,hc]
 have h2:Fit w0 (aB (List.zipWith (λx c=>own x c.cs) l css++(rowOf e sz mB.cs v css::L))) w:=h.perm (by
  refine(wm (l₁:=List.zipWith (λx c=>own x c.cs) l css) (a:=rowOf e sz mB.cs v css) (l₂:=L)).symm)
 have h3:=Fit.rI _ _ h2;have h4:Fit w0 (aB (aB (own x css[i].cs::(List.zipWith (λx c=>own x c.cs) l css).eraseIdx i)::rowOf e sz mB.cs v css::L)) w:=by
  refine h3.head λq hq => ?_;have:=DG i (List.zipWith (λx c=>own x c.cs) l css);unfold SL.pick at this;rw[hz]at this;show aB _ q;rw[this];exact hq
 have h5:=h4.sn;refine h5.perm ?_;simp only[sP];refine((wm (l₁:=(List.zipWith (λx c=>own x c.cs) l css).eraseIdx i) (a:=rowOf e sz mB.cs v css) (l₂:=L)).cons _).trans ?_;refine(List.Perm.swap _ _ _).trans (List.Perm.cons _ ?_);exact(wm (l₁:=(List.zipWith (λx c=>own x c.cs) l css).eraseIdx i) (a:=own x css[i].cs) (l₂:=L)).symm
theorem Fit.RD(hi:i<l.length)(h:Fit w0 (aB (As e sz own v l i cs::own y cs::L)) w):Fit w0 (aB (su e sz own v (l.set i y)::L)) w:=by
 obtain⟨css,hl,hc,h⟩:=h.Bk;have EL:i<css.length:=by rw[hl];exact hi
 have Iq:css[i]? = some css[i]:=List.getElem?_eq_getElem EL;rw[Iq]at hc;simp only[uw,Option.some.injEq]at hc;refine Fit.Bj (css:=css) (by rw[gY];exact hl) ?_;have hz:(List.zipWith (λx c=>own x c.cs) (l.set i y) css)[i]? = some (own y cs):=by
  rw[List.getElem?_zipWith,List.getElem?_set_self hi,Iq,<-hc]
 have he:(List.zipWith (λx c=>own x c.cs) (l.set i y) css).eraseIdx i=(List.zipWith (λx c=>own x c.cs) l css).eraseIdx i:=by
  have h1:List.zipWith (λx c=>own x c.cs) (l.set i y) css=(List.zipWith (λx c=>own x c.cs) l css).set i (own y css[i].cs):=by
   apply yh
   intro k;rw[List.getElem?_zipWith];by_cases hk:i=k
   ·subst hk;rw[List.getElem?_set_self hi,Iq,List.getElem?_set_self (by rw[List.length_zipWith];omega)]
   ·rw[List.getElem?_set_ne hk,List.getElem?_set_ne hk,List.getElem?_zipWith]
  rw[h1]
  apply yh
  intro k;rw[List.getElem?_eraseIdx,List.getElem?_eraseIdx];split
  ·rw[List.getElem?_set_ne I]
  ·rw[List.getElem?_set_ne I]
 have h2:Fit w0 (aB ((own y cs::(List.zipWith (λx c=>own x c.cs) (l.set i y) css).eraseIdx i)++(rowOf e sz mB.cs v css::L))) w:=by
  rw[he];refine h.perm ?_;simp only[sP];refine(List.Perm.cons _ (wm (l₁:=(List.zipWith (λx c=>own x c.cs) l css).eraseIdx i) (a:=own y cs) (l₂:=L))).trans ?_;refine(List.Perm.swap _ _ _).trans (List.Perm.cons _ ?_);exact(wm (l₁:=(List.zipWith (λx c=>own x c.cs) l css).eraseIdx i) (a:=rowOf e sz mB.cs v css) (l₂:=L)).symm
 have h3:=Fit.rI _ _ h2;have h4:Fit w0 (aB (aB (List.zipWith (λx c=>own x c.cs) (l.set i y) css)::rowOf e sz mB.cs v css::L)) w:=by
  refine h3.head λq hq => ?_;have:=DG i (List.zipWith (λx c=>own x c.cs) (l.set i y) css);unfold SL.pick at this;rw[hz]at this;rw[<-this];exact hq
 exact h4.sn.perm (wm (l₁:=List.zipWith (λx c=>own x c.cs) (l.set i y) css) (a:=rowOf e sz mB.cs v css) (l₂:=L))
theorem Fit.oP(h:Fit w0 (aB (As e sz own (.slice ca n cc) l i cs::L)) w)(hp:0<sz){f:Nat}{u:Value}(hf:cs[f]? = some u):w.cell? ⟨GX.dW ca,i*sz+f,none⟩=some u:=by
 obtain⟨css,hl,hc,h⟩:=h.Bk;cases Iq:css[i]? with
 | none=>rw[Iq]at hc;simp at hc
 | some c =>
  rw[Iq]at hc;simp only[uw,Option.some.injEq]at hc;exact h.bL (Fm hp) Iq (by rw[hc];exact hf)
theorem Fit.Oh(h:Fit w0 (aB (As e sz own v l i cs::L)) w):i<l.length:=by
 obtain⟨css,hl,hc,_⟩:=h.Bk;cases Iq:css[i]? with
 | none=>rw[Iq]at hc;simp at hc
 | some c=>have:=(List.getElem?_eq_some_iff.1 Iq).1;omega
theorem Fit.yu(h:Fit w0 (aB (As e sz own v l i cs::own y cs::L)) w):Fit w0 (aB (su e sz own v (l.set i y)::L)) w:=h.RD h.Oh
theorem Fit.ig[Inhabited α](h:Fit w0 (aB (As e sz own v l i cs::own (GX.J l i) cs::L)) w):Fit w0 (aB (su e sz own v l::L)) w:=by
 have hi:=h.Oh;have h:=h.yu;have e1:l.set i (GX.J l i)=l:=by
  apply yh
  intro k;by_cases hk:i=k
  ·subst hk;rw[List.getElem?_set_self hi,GX.get_at hi]
  ·rw[List.getElem?_set_ne hk]
 rw[e1]at h;exact h
theorem Fit.Ir(h:Fit w0 (aB (su e sz own (.slice ca n cc) l::L)) w)(hl:0<l.length):ca=some ⟨GX.dW ca,0,none⟩:=by
 obtain⟨css,hl',h⟩:=h.Bi;exact(h.rW I).1
theorem Fit.PT(h:Fit w0 (aB (As e sz own (.slice ca n cc) l i cs::L)) w):ca=some ⟨GX.dW ca,0,none⟩:=by
 obtain⟨css,hl',hc,h⟩:=h.Bk;have:0<css.length:=by
  cases Iq:css[i]? with
  | none=>rw[Iq]at hc;simp at hc
  | some c=>have:=(List.getElem?_eq_some_iff.1 Iq).1;omega
 exact(h.rW this).1
theorem Fit.Bl{enc:α->List Value}{b:Nat}{cs:Array Value}{T:TypeId}(hl:l.length=n)(hc:cs.toList=l.flatMap enc)(he:sF enc sz)(hm:n<=maxLen)(h:Fit w0 (aB (pts b (.cells cs T)::L)) w) :
 Fit w0 (aB (rowOf T sz enc (.slice (some ⟨b,0,none⟩) n n) l::L)) w:=by
 subst hl;refine h.head λz hz=>.inr ⟨b,l.length,cs,rfl,j5 _,hm,?_,?_,hz⟩
 ·rw[<-tO,hc,he.flat]
 ·rw[hc];exact Et (by rw[he.flat];exact j5 _)
end
end SL
namespace GX
open Go Go.RowKit SL
section
variable {P:Program}{ops:Array Oper}{Q:Exit->Act->World->Prop}{a:Act}{w w0 w1:World}{rest:List Oper}{o:Oper}{n d t:Nat}{v:Value}{l:List (Nat×Value)}{j e:Nat->Value}{L:List aZ}{H:aZ}{Df:List Deferred}
variable {α:Type}{E:TypeId}{sz n0 cc:Nat}{enc:α->List Value}{xs:List α}{ca:fO}{own:α->List Value->aZ}
theorem Fo{w':World}{x y:Operand}{k:IntKind}{i:Int}(ho:o.op= .indexAddr t x y)(hx:eM e x= .slice ca n cc)(hy:eM e y= .int k i)
 (ht:P.underlying t=some (.slice E)) (hs:(P.info? E).map (·.size)=some sz) (hF:Fit w0 (aB (su E sz own (.slice ca n cc) xs::L)) w) (hi:bG i xs.length):(execOp (eM e) o).run P w'= .ok (.value (.pointer (some ⟨dW ca,i.toNat*sz,none⟩))) w':=by
 have hn:=hF.MO;have h0:=hi.1;have h1:=hi.2;exact Xe (hF.Ir I) ho hx hy ht hs h0 I
theorem vR{w':World}{x y:Operand}{k:IntKind}{i:Int}{i0:Nat}{cs:List Value}(ho:o.op= .indexAddr t x y)(hx:eM e x= .slice ca n cc)(hy:eM e y= .int k i)
 (ht:P.underlying t=some (.slice E)) (hs:(P.info? E).map (·.size)=some sz) (hF:Fit w0 (aB (As E sz own (.slice ca n cc) xs i0 cs::L)) w) (hi:bG i xs.length):(execOp (eM e) o).run P w'= .ok (.value (.pointer (some ⟨dW ca,i.toNat*sz,none⟩))) w':=by
 have hn:=hF.Xq;have h0:=hi.1;have h1:=hi.2;exact Xe hF.PT ho hx hy ht hs h0 I
theorem MP{x y:Operand}{k:IntKind}{i:Int}{b N:Nat}{w':World}(ho:o.op= .indexAddr t x y)(hx:eM e x= .pointer (some ⟨b,0,none⟩))(hy:eM e y= .int k i)
 (ht:P.underlying t=some (.array N E)) (hs:(P.info? E).map (·.size)=some sz) (hN:xs.length=N) (hi:bG i xs.length):(execOp (eM e) o).run P w'= .ok (.value (.pointer (some ⟨dW (some ⟨b,0,none⟩),i.toNat*sz,none⟩))) w':=by
 unfold execOp;have h0:=hi.1;have h1:=hi.2;simp only[ho,hx,hy];subst hN;cases hq:P.info? E with
 | none=>simp[hq]at hs
 | some q =>
  simp[hq]at hs;simp[Instr.indexAt,Instr.sureAddr,run_underlying ht,asIntOf,h0,h1,sizeOf,typeInfo,hq,hs,u3,dW]
theorem B3{x y:Operand}{i f:Nat}{cs:List Value}(hw:tL o ops a)(hd:o.dst=none)(hr:cK Df n (lk l j) a)(ho:o.op= .store t x y)
 (hx:eM (lk l j) x= .pointer (some ⟨dW ca,i*sz+f,none⟩)) (hy:eM (lk l j) y=v) (hv:v.cells=#[v]) (h1:v.oneCell'=true) (hs:(P.info? t).map (·.size)=some 1) (hp:Nat.blt 0 sz=true)
 (hF:Fit w0 (aB (As E sz own (.slice ca n0 cc) xs i cs::L)) w) (hf:f<sz)
 (k:∀w1,Fit w0 (aB (As E sz own (.slice ca n0 cc) xs i (cs.set f v)::L)) w1->wpList P ops Q rest a w1):wpList P ops Q (o::rest) a w:=by
 obtain⟨css,hl,hc,h⟩:=hF.Bk;have hp':0<sz:=oH hp;cases Iq:css[i]? with
 | none=>rw[Iq]at hc;simp at hc
 | some c =>
  rw[Iq]at hc;simp only[uw,Option.some.injEq]at hc;have hlt:i<css.length:=(List.getElem?_eq_some_iff.1 Iq).1
  let q:mB sz:=⟨c.cs.set f v,by rw[gY];exact c.len,λu hu=>by
   rcases List.mem_or_eq_of_mem_set hu with h | h
   ·exact c.one u h
   ·subst h;exact h1⟩
  refine oW hw hd hr ho hx hy hv h1 hs (Fm hp') h (p:=c) (q:=q) Iq hf rfl λw1 h=>k w1 ?_;refine Fit.Og (css:=css.set i q) (by rw[gY];exact hl) (by rw[List.getElem?_set_self hlt,<-hc];rfl) ?_;have he:(List.zipWith (λx c=>own x c.cs) xs (css.set i q)).eraseIdx i=(List.zipWith (λx c=>own x c.cs) xs css).eraseIdx i:=by
   apply yh
   intro k;rw[List.getElem?_eraseIdx,List.getElem?_eraseIdx];split
   ·rw[List.getElem?_zipWith,List.getElem?_zipWith,List.getElem?_set_ne I]
   ·rw[List.getElem?_zipWith,List.getElem?_zipWith,List.getElem?_set_ne I]
  rw[he];exact h
theorem Au{bytes:Nat}{s x:Operand}{ad:Addr}{c:Nat}{y:α}{cs:List Value}(hw:tL o ops a)(hd:o.dst=some d)(hn:Nat.blt d n=true)(hr:cK Df n (lk l j) a)
 (ho:o.op= .call {callee:=.builtin .append,args:=#[s,x],argTypes:=#[t,t]}) (hs:eM (lk l j) s= .slice ca n0 cc) (hx:eM (lk l j) x= .slice (some ad) 1 c)
 (hty:P.underlying t=some (.slice E)) (qK:(P.info? E).map (λi=>(i.size,i.bytes,i.zero.map (·.cells.size)))=some (sz,bytes,some sz))
 (hsz:cs.length=sz) (hone:cs.all (·.oneCell')=true) (hp:Nat.blt 0 sz=true)
 (hF:Fit w0 (aB (su E sz own (.slice ca n0 cc) xs::own y cs::L)) w) (hnews:∀j u,cs[j]? = some u->w.cell? (ad.add j)=some u)
 (hb:(xs.length+1)*bytes<=140737488355328) (Mw:Nat.blt 0 bytes=true)
 (k:∀ca cc w1 a,Fit w0 (aB (su E sz own (.slice ca (xs++[y]).length cc) (xs++[y])::L)) w1->cK Df n (lk ((d,.slice ca (xs++[y]).length cc)::l) j) a->wpList P ops Q rest a w1):wpList P ops Q (o::rest) a w:=by
 obtain⟨css,hl,h⟩:=hF.Bi;have hp':0<sz:=oH hp
 let c0:mB sz:=⟨cs,hsz,by simpa using hone⟩
 have hlen:(css++[c0]).length=(xs++[y]).length:=by rw[jM,jM,hl];rfl
 refine kQ (m:=1) (c:=c) (bytes:=bytes) hw hd hn hr ho hs hx (Fm hp') (E:=E) (xs:=css) hty qK h (news:=[c0]) rfl (by simpa using hnews) (by rw[hl];exact hb) Mw λca cc w1 a h Io => ?_;rw[hlen]at h Io;refine k ca cc w1 a (Fit.Bj (css:=css++[c0]) hlen ?_) Io;rw[List.zipWith_append (by rw[hl])];simp only[List.zipWith_cons_cons,List.zipWith_nil_right,pS,sP,yQ];exact h
theorem yU{bytes:Nat}{s x:Operand}{va:fO}{m0 c:Nat}(hw:tL o ops a)(hd:o.dst=some d)(hn:Nat.blt d n=true)(hr:cK Df n (lk l j) a)
 (ho:o.op= .call {callee:=.builtin .append,args:=#[s,x],argTypes:=#[t,t]}) (hs:eM (lk l j) s= .slice ca n0 cc) {news:List α} (hx:eM (lk l j) x= .slice va news.length c)
 (he:sF enc sz) (hty:P.underlying t=some (.slice E)) (qK:(P.info? E).map (λi=>(i.size,i.bytes,i.zero.map (·.cells.size)))=some (sz,bytes,some sz))
 (hF:Fit w0 (aB (rowOf E sz enc (.slice ca n0 cc) xs::L)) w) (hnews:bE L sz enc va news)
 (hb:(xs.length+news.length)*bytes<=140737488355328) (Mw:Nat.blt 0 bytes=true)
 (k:∀ca cc w1 a,Fit w0 (aB (rowOf E sz enc (.slice ca (xs++news).length cc) (xs++news)::L)) w1->cK Df n (lk ((d,.slice ca (xs++news).length cc)::l) j) a->wpList P ops Q rest a w1):wpList P ops Q (o::rest) a w:=by
 by_cases h0:news.length=0
 ·have GZ:news=[]:=Ew h0;subst GZ;have Xr:=hF.p7;simp only[zH]at k;obtain⟨q,z,hq,h1,h2,h3,h4⟩ :∃i z,P.info? E=some i/\i.size=sz/\i.bytes=bytes/\i.zero=some z/\z.cells.size=sz:=by
   cases hi:P.info? E with
   | none=>simp[hi]at qK
   | some i =>
    simp only[hi,uw,Option.some.injEq,Prod.mk.injEq]at qK;cases hz:i.zero with
    | none=>simp[hz]at qK
    | some z=>exact⟨i,z,rfl,qK.1,qK.2.1,hz,by simpa [hz]using qK.2.2⟩
  obtain⟨a',c',e1,_,Q8⟩:=hF.Fl;simp only[Value.slice.injEq]at e1;obtain⟨rfl,_,rfl⟩:=e1;refine qX (w1:=w) (v:=.slice ca xs.length cc) hw hd hn hr ?_ (λa hr=>k ca cc w a (Xr▸ hF) hr);unfold execOp;have hle:n0<=cc:=by omega
  simp only[ho,resolve,invoke,builtin,mV,sO,mW,Ey,zF,Ai,hs,hx];subst Xr;cases ca with
  | none=>cases va<;>simp[Builtin.append_,run_underlying hty,sizeOf,typeInfo,hq,Builtin.lenOf,Builtin.firstCells,loadCells,loadCellsFrom,Q8]
  | some ac=>cases va<;>simp[Builtin.append_,run_underlying hty,sizeOf,typeInfo,hq,Builtin.lenOf,Builtin.firstCells,loadCells,loadCellsFrom,Q8,storeCells]
 ·obtain⟨y,hy⟩ :∃y,news[0]? = some y:=⟨_,List.getElem?_eq_getElem I⟩;have hva:=(hnews 0 y hy).1;rw[hva]at hx;refine kQ (m:=news.length) (c:=c) (bytes:=bytes) hw hd hn hr ho hs hx he hty qK hF (news:=news) rfl (λi u hu => ?_) hb Mw k;have hlt:=(List.getElem?_eq_some_iff.1 hu).1;rw[he.flat]at hlt;have hp:=he.pos;have hdiv:i/sz<news.length:=(Nat.div_lt_iff_lt_mul hp).2 hlt;have hm:i%sz<sz:=Nat.mod_lt _ hp;have hyi:news[i/sz]? = some (news[i/sz]'hdiv):=List.getElem?_eq_getElem hdiv;have hg:=he.get news (i/sz) (i%sz) _ hyi hm;rw[show i/sz*sz+i%sz=i by rw[Nat.mul_comm];exact Nat.div_add_mod i sz,hu]at hg;have:=(hnews _ _ hyi).2 (i%sz) u hg.symm w0 w hF.drop;rw[u3];rw[show j6 va+i=j6 va+i/sz*sz+i%sz by rw[Ii,Nat.mul_comm,Nat.div_add_mod]];exact this
end
end GX
end
section
namespace Ar
open Go Go.RowKit SL GX
structure Acc where
 who:Int
 kind:Int
 addr:Int
 a:Int
 b:Int
 ok:Bool
deriving Inhabited,DecidableEq
def iS(x:Int):List Value:=[.int .i64 x]
def FZ(x:Acc):List Value:=[.int .i64 x.who,.int .i64 x.kind,.int .i64 x.addr,.int .i64 x.a,.int .i64 x.b,.bool x.ok]
structure Dz where
 size:Int
 cells:List Int
 log:List Acc
 sG:Int
 on:Bool
def acT(on:Bool)(log:List Acc)(x:Acc):List Acc:=if on=true then log++[x]else log
def Dz.note(S:Dz)(k i x y:Int)(ok:Bool):Dz:={S with log:=acT S.on S.log ⟨S.sG,k,i,x,y,ok⟩}
def Ux(mk ad:Int):Bool:=decide (ad>=0)&&decide (ad<mk)
def Dz.load(S:Dz)(i:Int):(Int×Int)×Dz:=
 if Ux S.cells.length i=true then((J S.cells i.toNat,0),S.note 0 i (J S.cells i.toNat) 0 true)else((0,20),S)
def Dz.store(S:Dz)(i v:Int):Int×Dz:=
 if Ux S.cells.length i=true then(0,{S with cells:=S.cells.set i.toNat v}.note 1 i v 0 true)else(20,S)
def Dz.cas(S:Dz)(i x y:Int):(Bool×Int)×Dz:=
 if Ux S.cells.length i=true then
  if J S.cells i.toNat=x then((true,0),{S with cells:=S.cells.set i.toNat y}.note 2 i x y true)
  else ((false,0),S.note 2 i x y false)
 else ((false,20),S)
def Dz.add(S:Dz)(i d:Int):(Int×Int)×Dz:=
 if Ux S.cells.length i=true then
  ((IntKind.i64.wrap (J S.cells i.toNat+d),0),{S with cells:=S.cells.set i.toNat (IntKind.i64.wrap (J S.cells i.toNat+d))}.note 3 i d (IntKind.i64.wrap (J S.cells i.toNat+d)) true)
 else ((0,20),S)
def Dz.reserve(S:Dz)(n:Int):(Int×Int)×Dz:=
 if n<1 then((0,21),S)
 else if n>S.size-S.cells.length then((0,22),S)
 else ((((S.cells.length:Nat):Int),0),{S with cells:=S.cells++List.replicate n.toNat 0}.note 4 S.cells.length n 0 true)
def Dz.done(S:Dz)(k i x y:Int):(Int×Bool×Int)×Dz:=
 if k=0 then(((S.load i).1.1,(S.load i).1.2==0,(S.load i).1.2),(S.load i).2)
 else if k=1 then((0,(S.store i x).1==0,(S.store i x).1),(S.store i x).2)
 else if k=2 then((0,(S.cas i x y).1.1,(S.cas i x y).1.2),(S.cas i x y).2)
 else if k=3 then(((S.add i x).1.1,(S.add i x).1.2==0,(S.add i x).1.2),(S.add i x).2)
 else (((S.reserve x).1.1,(S.reserve x).1.2==0,(S.reserve x).1.2),(S.reserve x).2)
def Dz.new(n:Int):Dz:={size:=n,cells:=[],log:=[],sG:=0,on:=false}
def Oi(S:Dz)(ca:fO)(cc:Nat)(la:fO)(lc:Nat):Obj:=
 .cells #[.int .i64 S.size,.int .i64 ((S.cells.length:Nat):Int),.slice ca S.cells.length cc,.slice la S.log.length lc,.int .i64 S.sG,.bool S.on] 92
def Cg(A:Nat)(S:Dz):aZ:=exs λca=>exs λcc=>exs λla=>exs λlc =>
 aB [pts A (Oi S ca cc la lc),rowOf 2 1 iS (.slice ca S.cells.length cc) S.cells,rowOf 159 6 FZ (.slice la S.log.length lc) S.log]
section
variable {z w:World}{L:List aZ}{A:Nat}{S:Dz}
theorem Cg.op(h:Fit z (aB (Cg A S::L)) w) :∃ca cc la lc,Fit z (aB (pts A (Oi S ca cc la lc)::rowOf 2 1 iS (.slice ca S.cells.length cc) S.cells::rowOf 159 6 FZ (.slice la S.log.length lc) S.log::L)) w:=by
 obtain⟨ca,h⟩:=h.mZ;obtain⟨cc,h⟩:=h.mZ;obtain⟨la,h⟩:=h.mZ;obtain⟨lc,h⟩:=h.mZ;exact⟨ca,cc,la,lc,h.sn⟩
theorem Cg.sh{n m:Nat}{q:Int}{ca cc la lc}(h:Fit z (aB (pts A (.cells #[.int .i64 S.size,.int .i64 q,.slice ca n cc,.slice la m lc,.int .i64 S.sG,.bool S.on] 92)::rowOf 2 1 iS (.slice ca n cc) S.cells::rowOf 159 6 FZ (.slice la m lc) S.log::L)) w)
 (hq:q=((n:Nat):Int)) (hn:n=S.cells.length) (hm:m=S.log.length):Fit z (aB (Cg A S::L)) w:=by
 subst hq;subst hn;subst hm;exact Fit.jD ca (Fit.jD cc (Fit.jD la (Fit.jD lc (Fit.rI [_,_,_] L h))))
theorem Cg.mk{n:Int}(h:Fit z (aB (pts A (.cells #[.int .i64 n,.int .i64 0,.slice none 0 0,.slice none 0 0,.int .i64 0,.bool false] 92)::L)) w):Fit z (aB (Cg A (Dz.new n)::L)) w:=by
 have h1:Fit z (aB (rowOf 159 6 FZ (.slice none 0 0) ([]:List Acc)::pts A _::L)) w:=h.fU;have h2:Fit z (aB (rowOf 2 1 iS (.slice none 0 0) ([]:List Int)::rowOf 159 6 FZ (.slice none 0 0) ([]:List Acc)::pts A _::L)) w:=h1.fU;exact Cg.sh (S:=Dz.new n) (h2.pick 2) rfl rfl rfl
end
end Ar
end
section
namespace RK
open Go Go.RowKit Go.ChangeShapes Go.WideShapes Go.Deep SL GX Ar
section
variable {H:Type}{enc:TypeId×Value->H}{P:Program}{w afs:World}{base:Nat}{spare:Nat->Bool}{held:Bool}{r:Reach}{b0:Nat}{t e:TypeId}{v:Value}{d:DataW H}{ps:List MemPlace}
theorem B4(hl:laidOutB P=true){W':World}(hb:Below afs.heap.size afs W'):∀{ts:List TypeId} {vs:List Value} {ds:List (DataW H)} {ps:List MemPlace},
 ts.all (λt=>P.readableRec t&&decide (t<P.types.size))=true->DataW.TrodAll enc P afs 0 (λ_=>true) true ts vs ds ps->DataW.TrodAll enc P W' 0 (λb=>decide (b<afs.heap.size)) true ts vs ds ps
 | [],[],[],_,_,h=>h
 | t::ts,v::vs,d::ds,_,hts,⟨p,q,h1,h2,e⟩=>by
  simp only[List.all_cons,lP,Aj]at hts;refine⟨p,q,Below.trod hl hts.1.1 hts.1.2 h1 hb ?_,B4 hl hb hts.2 h2,e⟩;obtain⟨n,hn⟩:=h1;exact DataW.trod_lt n _ _ _ hn
theorem wf_i64{x:Int}(h:(Lit.int .i64 x).wf=true):-9223372036854775808<=x/\x<=9223372036854775807:=by
 simp only[Lit.wf,lP,Aj]at h;exact⟨h.1,h.2⟩
end
open Go Go.RowKit Go.ChangeShapes Go.WideShapes Go.Deep SL GX
theorem KL{H:Type}(d:DataW H):1<=Rows.uptoBulk d:=by
 cases d with
 | lit l=>cases l<;>simp[Rows.uptoBulk]
 | nil=>simp[Rows.uptoBulk]
 | ptr d=>simp[Rows.uptoBulk]
 | slice elems spare=>simp[Rows.uptoBulk]
 | agg parts=>simp[Rows.uptoBulk]
 | iface t d=>simp[Rows.uptoBulk]
 | map entries=>simp[Rows.uptoBulk]
 | held h=>simp[Rows.uptoBulk]
theorem Is{H:Type}{d:DataW H}{l:List (DataW H)}(h:d∈l):Rows.uptoBulk d<=Rows.uptoBulkAll l:=by
 induction l with
 | nil=>cases h
 | cons x r ih =>
  simp only[Rows.uptoBulkAll];cases List.mem_cons.1 h with
  | inl e=>subst e;omega
  | inr e=>have:=ih e;omega
theorem RE{H:Type}(l:List (DataW H)):l.length<=Rows.uptoBulkAll l:=by
 induction l with
 | nil=>simp
 | cons x r ih=>have:=KL x;simp only[Rows.uptoBulkAll,zS];omega
def F1(x:Int):Prop:=-9223372036854775808<=x/\x<=9223372036854775807
end RK
end
section
namespace GX
open Go Go.RowKit SL
abbrev Z(x:Int):Value:=.int .i64 x
abbrev vB(x:Bool):Value:=.bool x
abbrev pN:Value:=.pointer none
abbrev pA(b off:Nat):Value:=.pointer (some ⟨b,off,none⟩)
section
variable {P:Program}{ops:Array Oper}{Q:Exit->Act->World->Prop}{a:Act}{w w0 w1:World}{rest:List Oper}{o:Oper}{n d t T:Nat}{v u:Value}{l:List (Nat×Value)}{j e:Nat->Value}{L:List aZ}{Df:List Deferred}
theorem mT{i:Nat}{b x c r:Bool}(hr:cK Df n e a)(pf:x=c)(hg:o.guard=some (i,b):=by rfl)(hi:(ops[i]?).bind (·.dst)=some t:=by rfl)(ht:Nat.blt t n=true:=by rfl)(he:e t= .bool x:=by kernel_rfl)(hc:(c==b)=r:=by rfl) :
 Region.wanted o (yielded ops a.tmps)=r:=by
 subst pf hc;exact wg hr hg hi ht he
theorem acU(hw:Region.wanted o (yielded ops a.tmps)=false)(hr:cK Df n (lk l j) a)(k:∀a,cK Df n (lk ((d,undef)::l) j) a->wpList P ops Q rest a w)(hd:o.dst=some d:=by rfl)(hn:Nat.blt d n=true:=by rfl):wpList P ops Q (o::rest) a w:=ML hw hd hn hr k
theorem My(hw:tL o ops a)(hr:cK Df n (lk l j) a)(v:Value)(hrun:(execOp (eM (lk l j)) o).run P w= .ok (.value v) w)(k:∀a,cK Df n (lk ((d,v)::l) j) a->wpList P ops Q rest a w)(hd:o.dst=some d:=by rfl)(hn:Nat.blt d n=true:=by rfl):wpList P ops Q (o::rest) a w:=yR hw hd hn hr hrun k
theorem ld{x:Operand}{ad:Addr}(hw:tL o ops a)(hr:cK Df n (lk l j) a)(v:Value)(hc:w.cell? ad=some v)(k:∀a,cK Df n (lk ((d,v)::l) j) a->wpList P ops Q rest a w)
 (hd:o.dst=some d:=by rfl) (hn:Nat.blt d n=true:=by rfl) (ho:o.op= .load T x:=by rfl) (hx:eM (lk l j) x= .pointer (some ad):=by kernel_rfl) (hu:wu (P.underlying T)=true:=by kernel_rfl):wpList P ops Q (o::rest) a w:=yR hw hd hn hr (rl ho hx hu hc) k
theorem ldm{x:Operand}{b off:Nat}{cs:List Value}(hw:tL o ops a)(hr:cK Df n (lk l j) a)(v:Value)(hc:qJ w b off cs)(k:∀a,cK Df n (lk ((d,v)::l) j) a->wpList P ops Q rest a w)(hv: .agg cs.toArray=v:=by rfl)
 (hd:o.dst=some d:=by rfl) (hn:Nat.blt d n=true:=by rfl) (ho:o.op= .load T x:=by rfl) (hx:eM (lk l j) x= .pointer (some ⟨b,off,none⟩):=by kernel_rfl) (hu:tQ (P.underlying T)=true:=by kernel_rfl) (hs:(P.info? T).map (·.size)=some cs.length:=by kernel_rfl):wpList P ops Q (o::rest) a w:=by
 subst hv;exact yR hw hd hn hr (rlm ho hx hu hs hc) k
theorem _root_.Go.Proofs.YtpikpffbcjpmcaaGreatDoor.SL.Fit.held{z:World}{b:Nat}{cs:Array Value}{t:TypeId}{q:Nat×Nat}(h:Fit z (aB (pts b (.cells cs t q)::L)) w)(off:Nat){xs:List Value}(hx:(cs.toList.drop off).take xs.length=xs):qJ w b off xs:=by
 have hg:∀k u,xs[k]? = some u->w.cell? ⟨b,off+k,none⟩=some u:=by
  intro k u hk;refine h.cell (off+k) ?_;rw[<-hx,List.getElem?_take]at hk;split at hk
  ·rw[List.getElem?_drop]at hk;simpa using hk
  ·cases hk
 clear hx
 induction xs generalizing off with
 | nil=>trivial
 | cons x xs ih =>
  refine⟨hg 0 x rfl,ih (off+1) λk u hk => ?_⟩;have:=hg (k+1) u (by simpa using hk);rw[show off+1+k=off+(k+1) by omega];exact this
theorem sr{RF:Nat}{y:Code}{os:List Oper}(h:wpList P os.toArray (Exit.then (y.wp P Q) Q) os a w):(Code.seq (.region RF os.toArray false) y).wp P Q a w:=wp_seq (wp_region_lit h)
theorem evs{D:World->Prop}{E:List Nat}{aK:Array Bool}[hp:PI Q](fuel i:Nat)(hi:ops[i]? = some o)(hw:tL o ops a)(hr:cK Df n (lk l j) a)(v:Value)
 (k:∀a,cK Df n (lk ((d,v)::l) j) a->eH P .any ops Q D E fuel (aK.setIfInBounds i true) a w) (hB:okB ops E aK i=true:=by kernel_rfl)
 (hrun:∀w,(execOp (eM (lk l j)) o).run P w= .ok (.value v) w:=by intro w;kernel_rfl) (hd:o.dst=some d:=by rfl) (hn:Nat.blt d n=true:=by rfl) :
 eH P .any ops Q D E (fuel+1) aK a w:=ev fuel i hi hB hw hr v hrun k hd hn
theorem Wh{D:World->Prop}{E:List Nat}{aK:Array Bool}[hp:PI Q](fuel i:Nat)(hi:ops[i]? = some o)(hw:Region.wanted o (yielded ops a.tmps)=false)(hr:cK Df n (lk l j) a)
 (k:∀a,cK Df n (lk ((d,undef)::l) j) a->eH P .any ops Q D E fuel (aK.setIfInBounds i true) a w) (hB:okB ops E aK i=true:=by kernel_rfl) (hd:o.dst=some d:=by rfl) (hn:Nat.blt d n=true:=by rfl) :
 eH P .any ops Q D E (fuel+1) aK a w:=eo fuel i hi hB hw hr k hd hn
abbrev nb(b:Nat):Value:=pA b 0
theorem o1(hr:cK Df n (lk l j) a)(v:Value)(k:∀a,cK Df n (lk ((d,v)::l) j) a->wpList P ops Q rest a w)(hrun:(execOp (eM (lk l j)) o).run P w= .ok (.value v) w:=by kernel_rfl)(hg:o.guard=none:=by rfl)(hd:o.dst=some d:=by rfl)(hn:Nat.blt d n=true:=by rfl):wpList P ops Q (o::rest) a w:=ov hr v hrun k hg hd hn
theorem oo(ds:List Nat)(vs:List Value){os:List Oper}(hr:cK Df n (lk l j) a)(k:∀a,cK Df n (lk (RC ds vs l) j) a->wpList P ops Q (os.drop ds.length) a w)(hl:ds.length=vs.length/\ds.all (λd=>Nat.blt d n)=true:=by exact⟨rfl,rfl⟩)(hrun:KI P (os.take ds.length) vs l j w=KJ ds vs w:=by kernel_rfl):wpList P ops Q os a w:=ovs ds vs hr hl hrun k
theorem cl{f:FuncId}{args:Array Value}{R:Ending->World->Prop}(hw:tL o ops a)(hr:cK Df n (lk l j) a)(hc:Calls P f args w R)
 (k:∀e w1,R e w1->∃v,e= .returned v/\∀a,cK Df n (lk ((d,v)::l) j) a->wpList P ops Q rest a w1) (hrun:(execOp (eM (lk l j)) o).run P w= .ok (.enter f args) w:=by kernel_rfl) (hd:o.dst=some d:=by rfl) (hn:Nat.blt d n=true:=by rfl):wpList P ops Q (o::rest) a w:=s9 hw hd hn hr hrun hc k
theorem Xs(hw:tL o ops a)(hr:cK Df n (lk l j) a)(hF:Fit w0 (aB L) w)(vf:Nat->Value)(cs:Array Value)(T:TypeId)
 (k:∀b w1 a,Fit w0 (aB (pts b (.cells cs T)::L)) w1->cK Df n (lk ((d,vf b)::l) j) a->wpList P ops Q rest a w1) (hrun:(execOp (eM (lk l j)) o).run P w= .ok (.value (vf w.heap.size)) (w.alloc (.cells cs T)):=by kernel_rfl) (hd:o.dst=some d:=by rfl) (hn:Nat.blt d n=true:=by rfl):wpList P ops Q (o::rest) a w:=MM hw hd hn hr hF hrun k
theorem EN{α:Type}{E:TypeId}{sz n0 cc:Nat}{enc:α->List Value}{xs:List α}{ca:fO}{x y:Operand}(hw:tL o ops a)(hr:cK Df n (lk l j) a)(he:sF enc sz)(hF:Fit w0 (aB (rowOf E sz enc (.slice ca n0 cc) xs::L)) w)(i f:Nat)(v:Value)(p q:α)(hp:xs[i]? = some p)
 (k:∀w1,Fit w0 (aB (rowOf E sz enc (.slice ca n0 cc) (xs.set i q)::L)) w1->wpList P ops Q rest a w1) (hd:o.dst=none:=by rfl) (ho:o.op= .store T x y:=by rfl) (hx:eM (lk l j) x= .pointer (some ⟨dW ca,i*sz+f,none⟩):=by kernel_rfl) (hy:eM (lk l j) y=v:=by kernel_rfl)
 (hv:v.cells=#[v]:=by rfl) (h1:v.oneCell'=true:=by rfl) (hs:(P.info? T).map (·.size)=some 1:=by kernel_rfl) (hf:f<sz:=by decide) (hq:enc q=(enc p).set f v:=by rfl):wpList P ops Q (o::rest) a w:=oW hw hd hr ho hx hy hv h1 hs he hF hp hf hq k
theorem ln{K:Act->World->Prop}(h:K a w):wpList P ops (Exit.then K Q) [] a w:=wpList_nil (Kv h)
end
end GX
end
section
namespace SL
open Go Go.RowKit
section
variable {z w:World}{L L':List aZ}
theorem Fit.m1{A0 A1:aZ}(h:Fit z (aB (A0::A1::L)) w):Fit z (aB (A1::A0::L)) w:=h.pick 1
theorem Fit.m2{A0 A1 A2:aZ}(h:Fit z (aB (A0::A1::A2::L)) w):Fit z (aB (A2::A0::A1::L)) w:=h.pick 2
theorem Fit.m3{A0 A1 A2 A3:aZ}(h:Fit z (aB (A0::A1::A2::A3::L)) w):Fit z (aB (A3::A0::A1::A2::L)) w:=h.pick 3
theorem Fit.m4{A0 A1 A2 A3 A4:aZ}(h:Fit z (aB (A0::A1::A2::A3::A4::L)) w):Fit z (aB (A4::A0::A1::A2::A3::L)) w:=h.pick 4
theorem Fit.m5{A0 A1 A2 A3 A4 A5:aZ}(h:Fit z (aB (A0::A1::A2::A3::A4::A5::L)) w):Fit z (aB (A5::A0::A1::A2::A3::A4::L)) w:=h.pick 5
theorem Fit.m6{A0 A1 A2 A3 A4 A5 A6:aZ}(h:Fit z (aB (A0::A1::A2::A3::A4::A5::A6::L)) w):Fit z (aB (A6::A0::A1::A2::A3::A4::A5::L)) w:=h.pick 6
theorem Fit.m7{A0 A1 A2 A3 A4 A5 A6 A7:aZ}(h:Fit z (aB (A0::A1::A2::A3::A4::A5::A6::A7::L)) w):Fit z (aB (A7::A0::A1::A2::A3::A4::A5::A6::L)) w:=h.pick 7
theorem Fit.m8{A0 A1 A2 A3 A4 A5 A6 A7 A8:aZ}(h:Fit z (aB (A0::A1::A2::A3::A4::A5::A6::A7::A8::L)) w):Fit z (aB (A8::A0::A1::A2::A3::A4::A5::A6::A7::L)) w:=h.pick 8
theorem Fit.m9{A0 A1 A2 A3 A4 A5 A6 A7 A8 A9:aZ}(h:Fit z (aB (A0::A1::A2::A3::A4::A5::A6::A7::A8::A9::L)) w):Fit z (aB (A9::A0::A1::A2::A3::A4::A5::A6::A7::A8::L)) w:=h.pick 9
theorem Fit.Mz{A0 A1 A2 A3 A4 A5 A6 A7 A8 A9 A10:aZ}(h:Fit z (aB (A0::A1::A2::A3::A4::A5::A6::A7::A8::A9::A10::L)) w):Fit z (aB (A10::A0::A1::A2::A3::A4::A5::A6::A7::A8::A9::L)) w:=h.pick 10
theorem Fit.m11{A0 A1 A2 A3 A4 A5 A6 A7 A8 A9 A10 A11:aZ}(h:Fit z (aB (A0::A1::A2::A3::A4::A5::A6::A7::A8::A9::A10::A11::L)) w):Fit z (aB (A11::A0::A1::A2::A3::A4::A5::A6::A7::A8::A9::A10::L)) w:=h.pick 11
theorem Fit.F2{n m:Nat}(e:n=m)(F:Nat->aZ)(h:Fit z (aB (F n::L)) w):Fit z (aB (F m::L)) w:=e▸ h
theorem Fit.Oj{α:Type}{e sz cc n:Nat}{enc:α->List Value}{ca:fO}{l:List α}{P:aZ}(h:Fit z (aB (rowOf e sz enc (.slice ca n cc) l::P::L)) w)(f:Nat->aZ)(hp:P=f n:=by rfl):Fit z (aB (rowOf e sz enc (.slice ca l.length cc) l::f l.length::L)) w:=by
 have hn:=h.p7;subst hn;exact hp▸ h
theorem Fit.se(h:Fit z (aB L) w)(n:Nat)(is:List Nat)(hB:GX.aay n is=true:=by kernel_rfl)(e:is.map (λi=>L.getD i Mv)++L.drop n=L':=by kernel_rfl):Fit z (aB L') w:=h.Zw n is hB e
end
end SL
namespace GX
open Go Go.RowKit SL
section
variable {P:Program}{ops:Array Oper}{Q:Exit->Act->World->Prop}{a:Act}{w w0 w1:World}{rest os:List Oper}{o:Oper}{n d t T:Nat}{v u:Value}{l:List (Nat×Value)}{j e:Nat->Value}{L:List aZ}{Df:List Deferred}
theorem cK.fj{X:Prop}(h:cK Df n e a)(hX:X)(hl:l.map (λp=>e p.1)=l.map (·.2):=by kernel_rfl) :∃j,cK Df n (lk l j) a/\X:=let ⟨j,h⟩:=h.aaD l hl;⟨j,h,hX⟩
theorem cK.re(h:cK Df n (lk l j) a)(t:Nat){v v':Value}(e:v=v')(hv:lk l j t=v:=by kernel_rfl):cK Df n (lk ((t,v')::l) j) a:=by
 obtain⟨h1,h2,h3⟩:=h;refine⟨h1,λq => ?_,h3⟩;rw[h2 q];show lk l j q=bif Nat.beq q t then v' else lk l j q;cases hb:Nat.beq q t with
 | false=>rfl
 | true=>have:=N6 hb;subst this;rw[hv,e];rfl
def HL:List (Nat×Nat×List Value)->World->Prop
 | [],_=>True
 | p::r,w=>qJ w p.1 p.2.1 p.2.2/\HL r w
theorem RG:∀D w w',oV w w'->HL D w->HL D w'
 | [],_,_,_,_=>trivial
 | p::r,w,w',g,h=>⟨FY _ _ _ _ _ g h.1,RG r w w' g h.2⟩
theorem F3:∀{D:List (Nat×Nat×List Value)} {k:Nat} {p:Nat×Nat×List Value},D[k]? = some p->HL D w->qJ w p.1 p.2.1 p.2.2
 | [],k,p,e,_=>by simp at e
 | q::r,0,p,e,h=>by simp at e;subst e;exact h.1
 | q::r,k+1,p,e,h=>F3 (D:=r) (k:=k) (by simpa using e) h.2
variable {D:List (Nat×Nat×List Value)}{E:List Nat}{aK:Array Bool}{N:Nat}
theorem Ch{id:Nat}{lo:List Oper}{H:aZ}(D:List (Nat×Nat×List Value))(E:List Nat)(N:Nat)(hF:Fit w0 H w)(hd:∀{w},Fit w0 H w->HL D w)
 (k:∀w,Fit w0 H w->HL D w->eH P .any lo.toArray Q (HL D) E N (Array.replicate N false) a w) (hm:P.follows .mixedOrders=true:=by kernel_rfl) (hN:lo.toArray.size=N:=by rfl) :
 (Code.region id lo.toArray true).wp P Q a w:=by
 subst hN;exact aaz (HL D) E hF hm λw h=>k w h (hd h)
def Wi(ops:Array Oper)(E:List Nat)(aK:Array Bool)(i:Nat):Bool:=okB ops E aK i||okP ops E aK i
theorem e1[hp:PI Q](hd:HL D w)(fuel i:Nat)(hi:ops[i]? = some o)(hB:Wi ops E aK i=true)(hw:tL o ops a)(hr:cK Df n (lk l j) a)(v:Value)
 (hrun:∀w,(execOp (eM (lk l j)) o).run P w= .ok (.value v) w) (k:∀a,cK Df n (lk ((d,v)::l) j) a->eH P .any ops Q (HL D) E fuel (aK.setIfInBounds i true) a w) (h1:o.dst=some d) (hn:Nat.blt d n=true) :
 eH P .any ops Q (HL D) E (fuel+1) aK a w:=by
 unfold Wi at hB;rw[xb]at hB;rcases hB with hB | hB
 ·exact ev fuel i hi hB hw hr v hrun k h1 hn
 ·exact evD (RG D) hd fuel i hi hB hw hr v hrun k h1 hn
theorem e0[hp:PI Q](hd:HL D w)(fuel i:Nat)(hi:ops[i]? = some o)(hB:Wi ops E aK i=true)(hw:Region.wanted o (yielded ops a.tmps)=false)(hr:cK Df n (lk l j) a)
 (k:∀a,cK Df n (lk ((d,undef)::l) j) a->eH P .any ops Q (HL D) E fuel (aK.setIfInBounds i true) a w) (h1:o.dst=some d) (hn:Nat.blt d n=true) :
 eH P .any ops Q (HL D) E (fuel+1) aK a w:=by
 unfold Wi at hB;rw[xb]at hB;rcases hB with hB | hB
 ·exact eo fuel i hi hB hw hr k h1 hn
 ·exact eoD (RG D) hd fuel i hi hB hw hr k h1 hn
theorem eof[hp:PI Q](hd:HL D w)(f i:Nat)(hi:ops[i]? = some o)(hw:Region.wanted o (yielded ops a.tmps)=false)(hr:cK Df n (lk l j) a)
 (k:∀a,cK Df n (lk ((d,undef)::l) j) a->eH P .any ops Q (HL D) E f (aK.setIfInBounds i true) a w) (hB:Wi ops E aK i=true:=by kernel_rfl) (h1:o.dst=some d:=by rfl) (hn:Nat.blt d n=true:=by rfl) :
 eH P .any ops Q (HL D) E (f+1) aK a w:=e0 hd f i hi hB hw hr k h1 hn
theorem DA[hp:PI Q](hd:HL D w)(f i:Nat)(hi:ops[i]? = some o)(hw:tL o ops a)(hr:cK Df n (lk l j) a)(v:Value)
 (k:∀a,cK Df n (lk ((d,v)::l) j) a->eH P .any ops Q (HL D) E f (aK.setIfInBounds i true) a w) (hB:Wi ops E aK i=true:=by kernel_rfl) (hrun:∀w,(execOp (eM (lk l j)) o).run P w= .ok (.value v) w:=by intro w;kernel_rfl) (h1:o.dst=some d:=by rfl) (hn:Nat.blt d n=true:=by rfl) :
 eH P .any ops Q (HL D) E (f+1) aK a w:=e1 hd f i hi hB hw hr v hrun k h1 hn
def RH:List (Nat×Nat×Value)->Array Bool->Array Bool
 | [],s=>s
 | p::r,s=>RH r (s.setIfInBounds p.1 true)
def RI:List (Nat×Nat×Value)->List (Nat×Value)->List (Nat×Value)
 | [],l=>l
 | p::r,l=>RI r ((p.2.1,p.2.2)::l)
def I8(P:Program)(ops:Array Oper):List (Nat×Nat×Value)->List (Nat×Value)->(Nat->Value)->World->List (Option (Option Nat×Option (Nat×Bool))×Result Next)
 | [],_,_,_=>[]
 | p::r,l,j,w=>((ops[p.1]?).map λo=>(o.dst,o.guard),(match ops[p.1]? with | some o=>(execOp (eM (lk l j)) o).run P w | none=>.ok .skip w))::I8 P ops r ((p.2.1,p.2.2)::l) j w
def CN:List (Nat×Nat×Value)->World->List (Option (Option Nat×Option (Nat×Bool))×Result Next)
 | [],_=>[]
 | p::r,w=>(some (some p.2.1,none),.ok (.value p.2.2) w)::CN r w
def Zx(ops:Array Oper)(E:List Nat)(n:Nat):List (Nat×Nat×Value)->Array Bool->Bool
 | [],_=>true
 | p::r,s=>Wi ops E s p.1&&Nat.blt p.2.1 n&&Zx ops E n r (s.setIfInBounds p.1 true)
theorem evl[hp:PI Q](hd:HL D w)(f:Nat):∀(is:List (Nat×Nat×Value)) {aK:Array Bool} {a:Act} {l:List (Nat×Value)} (hr:cK Df n (lk l j) a)
 (k:∀a,cK Df n (lk (RI is l) j) a->eH P .any ops Q (HL D) E f (RH is aK) a w) (hB:Zx ops E n is aK=true:=by kernel_rfl) (hrun:∀w,I8 P ops is l j w=CN is w:=by intro w;kernel_rfl),
 eH P .any ops Q (HL D) E (f+is.length) aK a w
 | [],aK,a,l,hr,k,_,_=>k a hr
 | p::is,aK,a,l,hr,k,hB,hrun=>by
  simp only[Zx,lP]at hB;obtain⟨⟨h1,h2⟩,h3⟩:=hB;have aaE:∀w,I8 P ops is ((p.2.1,p.2.2)::l) j w=CN is w:=λw=>by have:=hrun w;simp only[I8,CN,List.cons.injEq]at this;exact this.2
  cases ho:ops[p.1]? with
  | none=>have:=hrun w;simp only[I8,CN,ho,List.cons.injEq]at this;simp at this
  | some o =>
   have h4:∀w,(o.dst=some p.2.1/\o.guard=none)/\(execOp (eM (lk l j)) o).run P w= .ok (.value p.2.2) w:=λw=>by
    have:=hrun w;simp only[I8,CN,ho,List.cons.injEq,uw,Prod.mk.injEq,Option.some.injEq]at this;exact this.1
   have h5:=(h4 w).1;exact e1 hd (f+is.length) p.1 ho h1 (wn h5.2) hr p.2.2 (λw=>(h4 w).2) (λa hr=>evl hd f is hr k h3 aaE) h5.1 h2
theorem acV[hp:PI Q](hd:HL D w)(f:Nat)(is:List (Nat×Nat×Value))(hr:cK Df n (lk l j) a)(k:∀a,cK Df n (lk (RI is l) j) a->eH P .any ops Q (HL D) E f (RH is aK) a w)
 (hN:f+is.length=N:=by rfl) (hB:Zx ops E n is aK=true:=by kernel_rfl) (hrun:∀w,I8 P ops is l j w=CN is w:=by intro w;kernel_rfl):eH P .any ops Q (HL D) E N aK a w:=by
 subst hN;exact evl hd f is hr k hB hrun
theorem Xt[hp:PI Q](hd:HL D w)(q f i:Nat){b off:Nat}{x:Operand}(hr:cK Df n (lk l j) a)(hw:tL o ops a)(hi:ops[i]? = some o)(hq:D[q]? = some (b,off,[v]))
 (k:∀a,cK Df n (lk ((d,v)::l) j) a->eH P .any ops Q (HL D) E f (aK.setIfInBounds i true) a w) (hB:(okB ops E aK i&&BZ .any ops E aK i)=true:=by kernel_rfl)
 (ho:o.op= .load T x:=by rfl) (hx:eM (lk l j) x= .pointer (some ⟨b,off,none⟩):=by kernel_rfl) (hu:wu (P.underlying T)=true:=by kernel_rfl) (h1:o.dst=some d:=by rfl) (hn:Nat.blt d n=true:=by rfl) :
 eH P .any ops Q (HL D) E (f+1) aK a w:=
 el E (b:=b) (off:=off) (cs:=[v]) (λ_ hk=>⟨hk,λw h=>F3 hq h⟩) f i hi hB hw hr v (F3 hq hd) (λw hc=>rl ho hx hu hc.1) k h1 hn
theorem elm[hp:PI Q](hd:HL D w)(q f i:Nat){b off:Nat}{cs:List Value}{x:Operand}(hr:cK Df n (lk l j) a)(hw:tL o ops a)(hi:ops[i]? = some o)(hq:D[q]? = some (b,off,cs))
 (k:∀a,cK Df n (lk ((d,.agg cs.toArray)::l) j) a->eH P .any ops Q (HL D) E f (aK.setIfInBounds i true) a w) (hB:(okB ops E aK i&&BZ .any ops E aK i)=true:=by kernel_rfl)
 (ho:o.op= .load T x:=by rfl) (hx:eM (lk l j) x= .pointer (some ⟨b,off,none⟩):=by kernel_rfl) (hu:tQ (P.underlying T)=true:=by kernel_rfl) (hs:(P.info? T).map (·.size)=some cs.length:=by kernel_rfl) (h1:o.dst=some d:=by rfl) (hn:Nat.blt d n=true:=by rfl) :
 eH P .any ops Q (HL D) E (f+1) aK a w:=
 el E (b:=b) (off:=off) (cs:=cs) (λ_ hk=>⟨hk,λw h=>F3 hq h⟩) f i hi hB hw hr _ (F3 hq hd) (λw hc=>rlm ho hx hu hs hc) k h1 hn
theorem eE{p X afr:Prop}(hd:afr)(k:afr->X):(p->afr)/\X:=⟨λ_=>hd,k hd⟩
theorem xE{i:Nat}{X afr:Prop}(k:X)(hB:¬i∈E:=by decide):(i∈E->afr)/\X:=⟨λh=>absurd h hB,k⟩
theorem lM(i:Nat){D:World->Prop}{fuel:Nat}(hi:ops[i]? = some o)(k:wpList P ops (Exit.then (λa w=>(i∈E->D w)/\eH P .any ops Q D E fuel (aK.setIfInBounds i true) a w) Q) [o] a w)
 (hrd:Region.ready .any ops aK=[i]:=by kernel_rfl):eH P .any ops Q D E (fuel+1) aK a w:=aaA hrd hi k
theorem yb{D:World->Prop}{fuel:Nat}(k:Q .normal a w)(hrd:Region.ready .any ops aK=[]:=by kernel_rfl):eH P .any ops Q D E fuel aK a w:=aaB hrd k
section
variable {β:Type}{p:Prop}[Decidable p]{X afr r:Option β}{c:Operand}{x y:Code}
theorem cD(hr:cK Df n e a)(H:(if p then X else afr)=r)(k1:p->X=r->x.wp P Q a w)(k2:¬p->afr=r->y.wp P Q a w)(hc:eM e c= .bool (decide p):=by kernel_rfl):(Code.cond c x y).wp P Q a w:=by
 by_cases h:p
 ·rw[aP h]at H;exact FN hr hc (tP h) (k1 h H)
 ·rw[ct h]at H;exact FO hr hc (Ij h) (k2 h H)
theorem cN(hr:cK Df n e a)(H:(if p then X else afr)=r)(k1:p->X=r->y.wp P Q a w)(k2:¬p->afr=r->x.wp P Q a w)(hc:eM e c= .bool (!decide p):=by kernel_rfl):(Code.cond c x y).wp P Q a w:=by
 by_cases h:p
 ·rw[aP h]at H;exact FO hr hc (by simp[h]) (k1 h H)
 ·rw[ct h]at H;exact FN hr hc (by simp[h]) (k2 h H)
theorem cV{b:Bool}(hr:cK Df n e a)(H:(if b=true then X else afr)=r)(k1:b=true->X=r->x.wp P Q a w)(k2:¬b=true->afr=r->y.wp P Q a w)(hc:eM e c= .bool b:=by kernel_rfl):(Code.cond c x y).wp P Q a w:=by
 by_cases h:b=true
 ·rw[aP h]at H;exact FN hr hc h (k1 h H)
 ·rw[ct h]at H;exact FO hr hc (by simpa using h) (k2 h H)
theorem cM{b:Bool}(hr:cK Df n e a)(H:(if b=true then X else afr)=r)(k1:b=true->X=r->y.wp P Q a w)(k2:¬b=true->afr=r->x.wp P Q a w)(hc:eM e c= .bool (!b):=by kernel_rfl):(Code.cond c x y).wp P Q a w:=by
 by_cases h:b=true
 ·rw[aP h]at H;exact FO hr hc (by simp[h]) (k1 h H)
 ·rw[ct h]at H;exact FN hr hc (by simpa using h) (k2 h H)
end
def RJ(P:Program)(ops:Array Oper)(n:Nat):List Oper->List Value->List (Nat×Value)->(Nat->Value)->World->List (Option Nat×Option (Bool×Option (Bool×Value))×Result Next)
 | o::os,v::vs,l,j,w=>(o.dst,o.guard.map (λg=>(g.2,((ops[g.1]?).bind (·.dst)).map λt=>(Nat.blt t n,lk l j t))),(execOp (eM (lk l j)) o).run P w)::RJ P ops n os vs ((o.dst.getD 0,v)::l) j w
 | _,_,_,_,_=>[]
def KM(x c:Bool):List Nat->List Value->World->List (Option Nat×Option (Bool×Option (Bool×Value))×Result Next)
 | d::ds,v::vs,w=>(some d,some (c,some (true,.bool x)),.ok (.value v) w)::KM x c ds vs w
 | _,_,_=>[]
theorem wgx{i:Nat}{b x c:Bool}(hr:cK Df n e a)(pf:x=c)(h:o.guard.map (λg=>(g.2,((ops[g.1]?).bind (·.dst)).map λt=>(Nat.blt t n,e t)))=some (b,some (true,.bool x))):Region.wanted o (yielded ops a.tmps)=(c==b):=by
 subst pf;cases hg:o.guard with
 | none=>rw[hg]at h;cases h
 | some g =>
  obtain⟨i,b'⟩:=g;simp only[hg,uw,Option.some.injEq,Prod.mk.injEq]at h;obtain⟨rfl,h⟩:=h;cases ht:(ops[i]?).bind (·.dst)with
  | none=>rw[ht]at h;cases h
  | some t =>
   simp only[ht,uw,Option.some.injEq,Prod.mk.injEq]at h;exact wg hr hg ht h.1 h.2
theorem onl{x c:Bool}(pf:x=c):∀(ds:List Nat) (vs:List Value) {os:List Oper} {a:Act} {l:List (Nat×Value)} (hr:cK Df n (lk l j) a) (k:∀a,cK Df n (lk (RC ds vs l) j) a->wpList P ops Q (os.drop ds.length) a w)
 (hl:ds.length=vs.length/\ds.all (λd=>Nat.blt d n)=true:=by exact⟨rfl,rfl⟩) (hrun:RJ P ops n (os.take ds.length) vs l j w=KM x c ds vs w:=by kernel_rfl),wpList P ops Q os a w
 | [],[],os,a,l,hr,k,_,_=>k a hr
 | [],v::vs,os,a,l,hr,k,hl,_=>by simp at hl
 | d::ds,[],os,a,l,hr,k,hl,_=>by simp at hl
 | d::ds,v::vs,[],a,l,hr,k,hl,hrun=>by simp[RJ,KM]at hrun
 | d::ds,v::vs,o::os,a,l,hr,k,hl,hrun=>by
  simp only[zS,oI,RJ,KM,List.cons.injEq,Prod.mk.injEq]at hrun;obtain⟨⟨h1,h2,h3⟩,h4⟩:=hrun;obtain⟨GY,EM⟩:=hl;simp only[List.all_cons,lP]at EM;refine yR (by unfold tL;rw[wgx (i:=0) hr pf h2];simp) h1 EM.1 hr h3 λa hr => ?_;rw[h1]at h4;exact onl pf ds vs hr k ⟨by simpa using GY,EM.2⟩ h4
def I9(ops:Array Oper)(n:Nat):List Oper->List (Nat×Value)->(Nat->Value)->List (Option Nat×Option (Bool×Option (Bool×Value)))
 | o::os,l,j=>(o.dst,o.guard.map (λg=>(g.2,((ops[g.1]?).bind (·.dst)).map λt=>(Nat.blt t n,lk l j t))))::I9 ops n os ((o.dst.getD 0,undef)::l) j
 | _,_,_=>[]
def CO(b:Bool)(gv:Value):List Nat->List (Option Nat×Option (Bool×Option (Bool×Value)))
 | d::ds=>(some d,some (b,some (true,gv)))::CO b gv ds
 | _=>[]
def RL:List Nat->List (Nat×Value)->List (Nat×Value)
 | d::ds,l=>RL ds ((d,undef)::l)
 | _,l=>l
theorem aaF{x c:Bool}(pf:x=c):∀(ds:List Nat) {os:List Oper} {a:Act} {l:List (Nat×Value)} (hr:cK Df n (lk l j) a) (k:∀a,cK Df n (lk (RL ds l) j) a->wpList P ops Q (os.drop ds.length) a w)
 (hl:ds.all (λd=>Nat.blt d n)=true:=by rfl) (hrun:I9 ops n (os.take ds.length) l j=CO (!c) (.bool x) ds:=by kernel_rfl),wpList P ops Q os a w
 | [],os,a,l,hr,k,_,_=>k a hr
 | d::ds,[],a,l,hr,k,hl,hrun=>by simp[I9,CO]at hrun
 | d::ds,o::os,a,l,hr,k,hl,hrun=>by
  simp only[zS,oI,I9,CO,List.cons.injEq,Prod.mk.injEq]at hrun;obtain⟨⟨h1,h2⟩,h4⟩:=hrun;simp only[List.all_cons,lP]at hl;refine ML (by rw[wgx (i:=0) hr pf h2];cases c<;>rfl) h1 hl.1 hr λa hr => ?_;rw[h1]at h4;exact aaF pf ds hr k hl.2 h4
theorem wux{b:Bool}(hr:cK Df n e a)(h:o.guard.map (λg=>(g.2,((ops[g.1]?).bind (·.dst)).map λt=>(Nat.blt t n,e t)))=some (b,some (true,undef))):Region.wanted o (yielded ops a.tmps)=false:=by
 cases hg:o.guard with
 | none=>rw[hg]at h;cases h
 | some g =>
  obtain⟨i,b'⟩:=g;simp only[hg,uw,Option.some.injEq,Prod.mk.injEq]at h;obtain⟨rfl,h⟩:=h;cases ht:(ops[i]?).bind (·.dst)with
  | none=>rw[ht]at h;cases h
  | some t =>
   simp only[ht,uw,Option.some.injEq,Prod.mk.injEq]at h;exact Rz hr hg ht h.1 h.2
theorem aaG(b:Bool):∀(ds:List Nat) {os:List Oper} {a:Act} {l:List (Nat×Value)} (hr:cK Df n (lk l j) a) (k:∀a,cK Df n (lk (RL ds l) j) a->wpList P ops Q (os.drop ds.length) a w)
 (hl:ds.all (λd=>Nat.blt d n)=true:=by rfl) (hrun:I9 ops n (os.take ds.length) l j=CO b undef ds:=by kernel_rfl),wpList P ops Q os a w
 | [],os,a,l,hr,k,_,_=>k a hr
 | d::ds,[],a,l,hr,k,hl,hrun=>by simp[I9,CO]at hrun
 | d::ds,o::os,a,l,hr,k,hl,hrun=>by
  simp only[zS,oI,I9,CO,List.cons.injEq,Prod.mk.injEq]at hrun;obtain⟨⟨h1,h2⟩,h4⟩:=hrun;simp only[List.all_cons,lP]at hl;refine ML (wux hr h2) h1 hl.1 hr λa hr => ?_;rw[h1]at h4;exact aaG b ds hr k hl.2 h4
theorem st1{x y:Operand}{b:Nat}{cs:Array Value}{T':TypeId}(hw:tL o ops a)(hr:cK Df n (lk l j) a)(hF:Fit w0 (aB (pts b (.cells cs T')::L)) w)(i:Nat)(v:Value)(A:aZ)
 (k:∀w1,Fit w0 (aB (A::L)) w1->wpList P ops Q rest a w1) (hd:o.dst=none:=by rfl) (ho:o.op= .store T x y:=by rfl) (hx:eM (lk l j) x= .pointer (some ⟨b,i,none⟩):=by kernel_rfl) (hy:eM (lk l j) y=v:=by kernel_rfl)
 (hv:v.cells=#[v]:=by rfl) (h1:v.oneCell'=true:=by rfl) (hs:(P.info? T).map (·.size)=some 1:=by kernel_rfl) (hc:(cs[i]?).isSome=true:=by kernel_rfl) (hA:pts b (.cells (cs.setIfInBounds i v) T')=A:=by kernel_rfl):wpList P ops Q (o::rest) a w:=by
 subst hA;cases hu:cs[i]? with
 | none=>rw[hu]at hc;cases hc
 | some u=>exact Ry hw hd hr ho hx hy hv h1 hs hF hu k
theorem Uy{x y:Operand}{b:Nat}{cs:Array Value}{T':TypeId}(hw:tL o ops a)(hr:cK Df n (lk l j) a)(hF:Fit w0 (aB (pts b (.cells cs T')::L)) w)(i:Nat)(vs:List Value)(A:aZ)
 (k:∀w1,Fit w0 (aB (A::L)) w1->wpList P ops Q rest a w1) (hd:o.dst=none:=by rfl) (ho:o.op= .store T x y:=by rfl) (hx:eM (lk l j) x= .pointer (some ⟨b,i,none⟩):=by kernel_rfl) (hy:eM (lk l j) y= .agg vs.toArray:=by kernel_rfl)
 (h1:vs.all (·.oneCell')=true:=by rfl) (hfit:Nat.ble (i+vs.length) cs.size=true:=by rfl) (hs:(P.info? T).map (·.size)=some vs.length:=by kernel_rfl) (hA:pts b (.cells (cs.toList.take i++vs++cs.toList.drop (i+vs.length)).toArray T')=A:=by kernel_rfl):wpList P ops Q (o::rest) a w:=by
 subst hA;exact Ip hw hd hr ho hx hy h1 hfit hs hF rfl k
end
end GX
end
section
namespace GX
open Go Go.RowKit SL
section
variable {P:Program}{w w0 w1 z:World}{ops:Array Oper}{a:Act}{rest:List Oper}{e:Nat->Value}{o:Oper}{t E:TypeId}{n d cc sz rU:Nat}{α β:Type}{l:List (Nat×Value)}{j:Nat->Value}{Df:List Deferred}{L:List aZ}
def yc(L:List aZ)(sz rU:Nat)(enc:fO->Nat->α->List Value)(iS:β->List Value)(um:α->List β)(va:fO)(hs:Nat->Option Addr×Nat)(l:List α):Prop:=
 ∀i x,l[i]? = some x->va=some ⟨dW va,j6 va,none⟩/\(∀f u,(enc (hs i).1 (hs i).2 x)[f]? = some u->∀z w,Fit z (aB L) w->w.cell? ⟨dW va,j6 va+i*sz+f,none⟩=some u)/\bE L rU iS (hs i).1 (um x)
section
variable {enc:fO->Nat->α->List Value}{iS:β->List Value}{um:α->List β}{va:fO}{hs:Nat->Option Addr×Nat}{l:List α}
theorem yc.nil{L:List aZ}:yc L sz rU enc iS um va hs ([]:List α):=λi x h=>by simp at h
theorem yc.up(k:Nat){L':List aZ}(h:yc (L'.drop k) sz rU enc iS um va hs l):yc L' sz rU enc iS um va hs l:=
 λi x hx=>⟨(h i x hx).1,λf u hu z w hw=>(h i x hx).2.1 f u hu z w (hw.dn k),(h i x hx).2.2.up k⟩
theorem yc.take{L:List aZ}(h:yc L sz rU enc iS um va hs l)(k:Nat):yc L sz rU enc iS um va hs (l.take k):=by
 intro i x hx;refine h i x ?_;rw[List.getElem?_take]at hx;split at hx
 ·exact hx
 ·cases hx
theorem yc.cell{z:World}{L:List aZ}[Inhabited α]{i:Int}(hF:yc L sz rU enc iS um va hs l)(hi:bG i l.length)(h:Fit z (aB L) w)(f:Nat){u:Value}(hu:(enc (hs i.toNat).1 (hs i.toNat).2 (J l i.toNat))[f]? = some u):w.cell? ⟨dW va,j6 va+i.toNat*sz+f,none⟩=some u:=
 (hF _ _ (aT hi)).2.1 f u hu z w h
theorem yc.u5{L:List aZ}[Inhabited α]{i:Int}(hF:yc L sz rU enc iS um va hs l)(hi:bG i l.length):bE L rU iS (hs i.toNat).1 (um (J l i.toNat)):=(hF _ _ (aT hi)).2.2
theorem yc.cast{L:List aZ}{l2:List α}(h:yc L sz rU enc iS um va hs l)(e:l=l2):yc L sz rU enc iS um va hs l2:=e▸ h
theorem yc.ne{L:List aZ}(hF:yc L sz rU enc iS um va hs l)(h:0<l.length):va=some ⟨dW va,j6 va,none⟩:=(hF 0 _ (List.getElem?_eq_getElem h)).1
end
theorem bE.ne{L:List aZ}{enc:α->List Value}{va:fO}{l:List α}(hF:bE L sz enc va l)(h:0<l.length):va=some ⟨dW va,j6 va,none⟩:=(hF 0 _ (List.getElem?_eq_getElem h)).1
theorem bE.F4{z:World}{L:List aZ}{enc:α->List Value}{b:Nat}[Inhabited α]{l:List α}{i:Int}(hF:bE L sz enc (some ⟨b,0,none⟩) l)(hi:bG i l.length)(h:Fit z (aB L) w)(f:Nat){u:Value}(hu:(enc (J l i.toNat))[f]? = some u):w.cell? ⟨dW (some ⟨b,0,none⟩),i.toNat*sz+f,none⟩=some u:=by
 have e:=(hF _ _ (aT hi)).2 f u hu z w h;have o:j6 (some ⟨b,0,none⟩:fO)=0:=rfl;rw[o,Ag]at e;exact e
theorem aaH{x y:Operand}{k:IntKind}{i:Int}{n0:Nat}{L:List aZ}{enc:fO->Nat->α->List Value}{iS:β->List Value}{um:α->List β}{va:fO}{hs:Nat->Option Addr×Nat}[Inhabited α]{l:List α}(ho:o.op= .indexAddr t x y)(hx:eM e x= .slice va n0 cc)(hy:eM e y= .int k i)(GZ:n0=l.length)
 (ht:P.underlying t=some (.slice E)) (hs':(P.info? E).map (·.size)=some sz) (hF:yc L sz rU enc iS um va hs l) (hi:bG i l.length):(execOp (eM e) o).run P w= .ok (.value (.pointer (some ⟨dW va,j6 va+i.toNat*sz,none⟩))) w:=by
 have h0:=hi.1;have h1:=hi.2;exact rie (hF _ _ (aT hi)).1 ho hx hy ht hs' h0 I
theorem It(d:Nat){T:TypeId}(b:Addr)(m c n' c':Nat)(h:P.underlying T=some (.slice E)):(Op.equalIn (d+1) T (.slice (some b) m c) (.slice none n' c')).run P w= .ok false w:=by
 simp[Op.equalIn,run_underlying h]
theorem Uz{x y:Operand}{T T':TypeId}{n0:Nat}{va:fO}(ho:o.op= .binOp .eql T x y T')(hx:eM e x= .slice va n0 cc)(hy:eM e y= .slice none 0 0)(ht:P.underlying T=some (.slice E))(hv:va=some ⟨dW va,j6 va,none⟩):(execOp (eM e) o).run P w= .ok (.value (.bool false)) w:=by
 rw[hv]at hx;have h:=It (P:=P) (w:=w) 9999 ⟨dW va,j6 va,none⟩ n0 cc 0 0 ht;unfold execOp;simp only[ho,hx,hy,eqGuard,binOp,Op.equal,Op.maxDepth];simp[h]
theorem RM{x y:Operand}{T T':TypeId}{n0:Nat}{va:fO}(ho:o.op= .binOp .neq T x y T')(hx:eM e x= .slice va n0 cc)(hy:eM e y= .slice none 0 0)(ht:P.underlying T=some (.slice E))(hv:va=some ⟨dW va,j6 va,none⟩):(execOp (eM e) o).run P w= .ok (.value (.bool true)) w:=by
 rw[hv]at hx;have h:=It (P:=P) (w:=w) 9999 ⟨dW va,j6 va,none⟩ n0 cc 0 0 ht;unfold execOp;simp only[ho,hx,hy,eqGuard,binOp,Op.equal,Op.maxDepth];simp[h]
def iI(x y:Int):Int:=IntKind.i64.wrap ((BitVec.ofInt 64 x &&& BitVec.ofInt 64 y).toNat)
def Q9(x y:Int):Int:=IntKind.i64.wrap ((BitVec.ofInt 64 x ||| BitVec.ofInt 64 y).toNat)
theorem rand{x y:Operand}{p q:Int}{T T':TypeId}(ho:o.op= .binOp .and T x y T')(hx:eM e x= .int .i64 p)(hy:eM e y= .int .i64 q):(execOp (eM e) o).run P w= .ok (.value (.int .i64 (iI p q))) w:=by
 unfold execOp;simp[ho,hx,hy,eqGuard,binOp,Op.intBits];rfl
theorem ror{x y:Operand}{p q:Int}{T T':TypeId}(ho:o.op= .binOp .or T x y T')(hx:eM e x= .int .i64 p)(hy:eM e y= .int .i64 q):(execOp (eM e) o).run P w= .ok (.value (.int .i64 (Q9 p q))) w:=by
 unfold execOp;simp[ho,hx,hy,eqGuard,binOp,Op.intBits];rfl
theorem Fit.Wj{Q:aZ}(hz:∀{z w:World} {L:List aZ},Fit z (aB L) w->Fit z (aB (Q::L)) w){L:List aZ}(h:Fit w0 (aB L) w):∀n,Fit w0 (aB (List.replicate n Q++L)) w
 | 0=>h
 | n+1=>by rw[List.replicate_succ];exact hz (Fit.Wj hz h n)
theorem _root_.Go.Proofs.YtpikpffbcjpmcaaGreatDoor.SL.Fit.PU{own:α->List Value->aZ}{v:Value}{z0:α}{c:mB sz}{L:List aZ}(hz:∀{z w:World} {L:List aZ},Fit z (aB L) w->Fit z (aB (own z0 c.cs::L)) w)(n:Nat)(h:Fit w0 (aB (rowOf E sz mB.cs v (List.replicate n c)::L)) w):Fit w0 (aB (su E sz own v (List.replicate n z0)::L)) w:=by
 refine Fit.Bj (css:=List.replicate n c) (by simp) ?_;have e:List.zipWith (λx c=>own x c.cs) (List.replicate n z0) (List.replicate n c)=List.replicate n (own z0 c.cs):=by simp[List.zipWith_replicate']
 rw[e];exact(Fit.Wj hz h n).perm wm
variable {Q:Exit->Act->World->Prop}
theorem CP{x y:Operand}{i:Int}{bytes:Nat}{zc:Array Value}{own:α->List Value->aZ}(z0:α)(hw:tL o ops a)(hd:o.dst=some d)(hn:Nat.blt d n=true)(hr:cK Df n (lk l j) a)
 (ho:o.op= .makeSlice t x y) (hx:eM (lk l j) x= .int .i64 i) (hy:eM (lk l j) y= .int .i64 i) (hi:0<=i/\i*bytes<=140737488355328) (hlen:zc.toList.length=sz) (hone:∀u∈zc.toList,u.oneCell'=true) (hsz:0<sz) (hty:P.underlying t=some (.slice E))
 (qK:(P.info? E).map (λi=>(i.size,i.bytes,i.zero.map (·.cells)))=some (sz,bytes,some zc)) (Mw:Nat.blt 0 bytes=true) (hz:∀{z w:World} {L:List aZ},Fit z (aB L) w->Fit z (aB (own z0 zc.toList::L)) w) (hF:Fit w0 (aB L) w)
 (k:∀ca w1 a,Fit w0 (aB (su E sz own (.slice ca (List.replicate i.toNat z0).length i.toNat) (List.replicate i.toNat z0)::L)) w1->cK Df n (lk ((d,.slice ca (List.replicate i.toNat z0).length i.toNat)::l) j) a->wpList P ops Q rest a w1):wpList P ops Q (o::rest) a w:=
 oX (⟨zc.toList,hlen,hone⟩:mB sz) hw hd hn hr ho hx hy hi (Fm hsz) hty qK rfl Mw hF λca w1 a h Io=>by
  have e:(List.replicate i.toNat (⟨zc.toList,hlen,hone⟩:mB sz)).length=(List.replicate i.toNat z0).length:=by simp
  rw[e]at h Io;exact k ca w1 a (h.PU hz) Io
theorem Ci{β:Type}(F vs:List β)(a s f:Nat)(hf:f+vs.length<=s)(hs:a+s<=F.length) :
 F.take a++(((F.drop a).take s).take f++vs++((F.drop a).take s).drop (f+vs.length))++F.drop (a+s)=F.take (a+f)++vs++F.drop (a+f+vs.length):=by
 have e1:F.take a++((F.drop a).take s).take f=F.take (a+f):=by
  rw[List.take_take,zE I,List.take_add]
 have e2:((F.drop a).take s).drop (f+vs.length)++F.drop (a+s)=F.drop (a+f+vs.length):=by
  have h:=FG s (F.drop a);rw[List.drop_drop]at h;have h2:=mX (List.drop (f+vs.length)) h;rw[Ia (by rw[tN,Ah];omega),List.drop_drop]at h2;rw[h2];congr 1;omega
 rw[<-e1,<-e2];simp only[pS]
theorem gJ{x y:Operand}{vs:List Value}{f:Nat}{α:Type}{sz n0 cc:Nat}{enc:α->List Value}{xs:List α}{ca:fO}(hw:tL o ops a)(hd:o.dst=none)(hr:cK Df n (lk l j) a)(ho:o.op= .store t x y)
 {i:Nat} (hx:eM (lk l j) x= .pointer (some ⟨dW ca,i*sz+f,none⟩)) (hy:eM (lk l j) y= .agg vs.toArray) (h1:vs.all (·.oneCell')=true) (hs:(P.info? t).map (·.size)=some vs.length)
 (he:sF enc sz) (hF:Fit w0 (aB (rowOf E sz enc (.slice ca n0 cc) xs::L)) w) {p q:α} (hp:xs[i]? = some p) (hfit:f+vs.length<=sz) (hq:enc q=(enc p).take f++vs++(enc p).drop (f+vs.length))
 (k:∀w1,Fit w0 (aB (rowOf E sz enc (.slice ca n0 cc) (xs.set i q)::L)) w1->wpList P ops Q rest a w1):wpList P ops Q (o::rest) a w:=by
 have hi:i<xs.length:=(List.getElem?_eq_some_iff.1 hp).1;have hn:=hF.p7;obtain⟨hca,BV⟩:=hF.rW I;obtain⟨GY,EM⟩:=BV.xe;obtain⟨cur,Wc,Kz,hP⟩:=BV.oO;have hle:i*sz+sz<=xs.length*sz:=by
  have:(i+1)*sz<=xs.length*sz:=rm _ hi;rw[tM]at this;omega
 have Xg:xs.length*sz<=cc*sz:=rm _ GY;have hst:=run_storeCells_at P (dW ca) (i*sz+f) E vs 0 cur w hP.block I (by simpa using h1);simp only[Ex]at hst;refine CH (w1:=w.setRow (dW ca) (cur.toList.take (i*sz+f)++vs++cur.toList.drop (i*sz+f+vs.length)).toArray) hw hd hr ?_ (k _ (Fit.yq ?_ hca (by rw[gY];exact hn)))
 ·unfold execOp;cases wz:P.info? t with
  | none=>simp[wz]at hs
  | some q =>
   simp[wz]at hs;simp only[ho,hx,hy,Instr.storeAt,Instr.sureAddr,storeVar,mV,sO,mW,sizeOf,typeInfo,run_program,wz,Value.cells];simp[hs,hst]
 ·refine(hP.turn (w':=w.setRow (dW ca) (cur.toList.take (i*sz+f)++vs++cur.toList.drop (i*sz+f+vs.length)).toArray) (setRow_heap w (dW ca) cur _ E (0,0) hP.block) (λk hk _=>setRow_other w (dW ca) k _ hk) rfl rfl rfl (by simp)).head λz hz=>⟨by simpa using GY,EM,_,?_,?_,hz⟩
  ·simp only[BR,jM,tN,Ah,tO];omega
  ·have Wk:((xs.flatMap enc).drop (i*sz)).take sz=enc p:=by
    apply yh
    intro k;rw[List.getElem?_take];by_cases hk:k<sz
    ·rw[aP hk,List.getElem?_drop];exact he.get xs i k p hp hk
    ·rw[ct hk,List.getElem?_eq_none (by rw[he.len];omega)]
   rw[gY,he.set xs i q hi,hq,<-Wk,Ci _ _ _ _ _ hfit (by rw[he.flat];exact hle),<-Kz];have hA:(cur.toList.take (i*sz+f)).length=i*sz+f:=by rw[tN,tO];omega
   have e1:(cur.toList.take (i*sz+f)++vs++cur.toList.drop (i*sz+f+vs.length)).take (xs.length*sz)=cur.toList.take (i*sz+f)++vs++(cur.toList.drop (i*sz+f+vs.length)).take (xs.length*sz-(i*sz+f+vs.length)):=by
    rw[Ib,Et (by rw[jM,hA];omega),jM,hA]
   rw[Ic,e1,List.take_take,zE I,Ie]
structure yw(l:List Value)(n:Nat):Prop where
 len:l.length=n
 one:∀u∈l,u.oneCell'=true
theorem yw.lit{l:List Value}(n:Nat)(h:(Nat.beq l.length n&&l.all (·.oneCell'))=true):yw l n:=by
 simp only[lP,List.all_eq_true]at h;exact⟨N6 h.1,h.2⟩
theorem yw.app{a b:List Value}{m n:Nat}(h:yw a m)(k:yw b n):yw (a++b) (m+n):=
 ⟨by rw[jM,h.len,k.len],λu hu=>(List.mem_append.1 hu).elim (h.one u) (k.one u)⟩
theorem _root_.Go.Proofs.YtpikpffbcjpmcaaGreatDoor.SL.sF.p{enc:α->List Value}(he:sF enc sz)(x:α):yw (enc x) sz:=⟨he.len x,he.one x⟩
theorem yw.enc{enc:α->List Value}{N:Nat}(h:∀x,yw (enc x) N)(hp:0<N)(e:N=sz):sF enc sz:=by
 subst e;exact⟨λx=>(h x).len,λx=>(h x).one,hp⟩
def kO[Inhabited α](N:Nat)(enc:α->List Value)(l:List α):List Value:=(List.range N).flatMap (λi=>enc (J l i))
theorem Fp[Inhabited α](N:Nat){enc:α->List Value}(he:sF enc sz)(l:List α):yw (kO N enc l) (N*sz):=by
 unfold kO;refine⟨?_,λu hu => ?_⟩
 ·have e:(List.range N).flatMap (λi=>enc (J l i))=((List.range N).map (λi=>J l i)).flatMap enc:=by rw[List.flatMap_map]
  rw[e,he.flat];simp
 ·obtain⟨i,_,hi⟩:=List.mem_flatMap.1 hu;exact he.one _ u hi
theorem F5{b:Nat}:∀(xs:List Value) (off:Nat),(∀k u,xs[k]? = some u->w.cell? ⟨b,off+k,none⟩=some u)->qJ w b off xs
 | [],_,_=>trivial
 | x::xs,off,h=>⟨by simpa using h 0 x rfl,F5 xs (off+1) λk u hu=>by have:=h (k+1) u (by simpa using hu);rw[show off+1+k=off+(k+1) by omega];exact this⟩
theorem _root_.Go.Proofs.YtpikpffbcjpmcaaGreatDoor.SL.Fit.F6{L:List aZ}{enc:α->List Value}{ca:fO}{n i f:Nat}{l:List α}{x:α}{xs:List Value}(h:Fit w0 (aB (rowOf E sz enc (.slice ca n cc) l::L)) w)(he:sF enc sz)(hx:l[i]? = some x)(hxs:((enc x).drop f).take xs.length=xs):qJ w (dW ca) (i*sz+f) xs:=by
 refine F5 xs _ λk u hu => ?_;rw[<-hxs,List.getElem?_take]at hu;split at hu
 ·rw[List.getElem?_drop]at hu;rw[show i*sz+f+k=i*sz+(f+k) by omega];exact h.bL he hx hu
 ·cases hu
def CQ[Inhabited α](N:Nat)(ys l:List α):List α:=(List.range N).map (λi=>if i<ys.length then J ys i else J l i)
def qz[Inhabited α](N:Nat)(l:List α)(k:Nat)(y:α):List α:=(List.range N).map (λi=>if i=k then y else J l i)
theorem RN[Inhabited α]{l:List α}{i:Nat}(h:i<l.length):J l i=l[i]:=by
 have:=get_at h;rw[List.getElem?_eq_getElem h]at this;exact(Option.some.inj this).symm
theorem Wl[Inhabited α]{N i:Nat}(f:Nat->α)(h:i<N):J ((List.range N).map f) i=f i:=by
 rw[RN (by simpa using h)];simp
theorem Bm[Inhabited α](N:Nat)(enc:α->List Value)(l:List α):kO N enc l=((List.range N).map (λi=>J l i)).flatMap enc:=by unfold kO;rw[List.flatMap_map]
theorem Ja[Inhabited α]{N:Nat}{enc:α->List Value}(he:sF enc sz){ys l:List α}(h:ys.length<=N):kO N enc (CQ N ys l)=ys.flatMap enc++(kO N enc l).drop (ys.length*sz):=by
 have e1:(List.range N).map (λi=>J (CQ N ys l) i)=ys++((List.range N).map (λi=>J l i)).drop ys.length:=by
  apply Kp
  ·simp;omega
  ·intro i h1 h2;have hi:i<N:=by simpa using h1
   simp only[List.getElem_map,List.getElem_range];unfold CQ;rw[Wl _ hi,List.getElem_append];by_cases c:i<ys.length
   ·rw[aP c,dif_pos c,RN c]
   ·rw[ct c,dif_neg c];simp only[List.getElem_drop,List.getElem_map,List.getElem_range]
    congr 1;omega
 have e2:∀(m:List α) (k:Nat),(m.drop k).flatMap enc=(m.flatMap enc).drop (k*sz):=by
  intro m k;by_cases hk:k<=m.length
  ·have e:(m.take k).flatMap enc++(m.drop k).flatMap enc=m.flatMap enc:=by rw[<-CG,FG]
   have hl:((m.take k).flatMap enc).length=k*sz:=by rw[he.flat,tN,zE hk]
   rw[<-e,<-hl,List.drop_left]
  ·rw[N7 I,N7 (by rw[he.flat];exact rm _ I)];rfl
 rw[Bm,e1,CG,e2,<-Bm]
theorem RP[Inhabited α]{N k:Nat}{enc:α->List Value}(he:sF enc sz){l:List α}{y:α}(h:k<N):kO N enc (qz N l k y)=(kO N enc l).take (k*sz)++enc y++(kO N enc l).drop (k*sz+sz):=by
 have e1:(List.range N).map (λi=>J (qz N l k y) i)=((List.range N).map (λi=>J l i)).set k y:=by
  apply Kp
  ·simp
  ·intro i h1 h2;have hi:i<N:=by simpa using h1
   simp only[List.getElem_map,List.getElem_range];unfold qz;rw[Wl _ hi,List.getElem_set];by_cases c:i=k
   ·rw[aP c,aP c.symm]
   ·rw[ct c,ct (λe=>c e.symm)];simp
 rw[Bm,e1,he.set _ _ _ (by simpa using h),<-Bm]
theorem RQ{A E ys:List Value}{f k:Nat}(hA:A.length=f):A++(ys++E.drop k)=(A++E).take f++ys++(A++E).drop (f+k):=by
 subst hA;rw[Eu,pS,List.drop_append];simp
theorem F7{s x:Operand}{α β:Type}{sz rU n0 cc i f N cv:Nat}{enc:α->List Value}{iS:β->List Value}{xs:List α}{ca va:fO}{ys:List β}{E afv:TypeId}{p q:α}(hw:tL o ops a)(hd:o.dst=some d)(hn:Nat.blt d n=true)(hr:cK Df n (lk l j) a)
 (ho:o.op= .call {callee:=.builtin .copy,args:=#[s,x],argTypes:=#[t,t]}) (hs:eM (lk l j) s= .slice (some ⟨dW ca,i*sz+f,none⟩) N N) (hx:eM (lk l j) x= .slice va ys.length cv)
 (he:sF enc sz) (hi:sF iS rU) (hty:P.underlying t=some (.slice afv)) (hsz:(P.info? afv).map (·.size)=some rU) (hlen:ys.length<=N)
 (hF:Fit w0 (aB (rowOf E sz enc (.slice ca n0 cc) xs::L)) w) (hv:bE L rU iS va ys) (hp:xs[i]? = some p) (hfit:f+ys.length*rU<=sz) (hq:enc q=(enc p).take f++ys.flatMap iS++(enc p).drop (f+ys.length*rU))
 (k:∀w1 a,Fit w0 (aB (rowOf E sz enc (.slice ca n0 cc) (xs.set i q)::L)) w1->cK Df n (lk ((d,.int .i64 ((ys.length:Nat):Int))::l) j) a->wpList P ops Q rest a w1):wpList P ops Q (o::rest) a w:=by
 have EL:i<xs.length:=(List.getElem?_eq_some_iff.1 hp).1;have hn':=hF.p7;obtain⟨hca,BV⟩:=hF.rW I;obtain⟨GY,EM⟩:=BV.xe;obtain⟨cur,Wc,Kz,hP⟩:=BV.oO;have hle:i*sz+sz<=xs.length*sz:=by
  have:(i+1)*sz<=xs.length*sz:=rm _ EL;rw[tM]at this;omega
 have Xg:xs.length*sz<=cc*sz:=rm _ GY;have hfl:(ys.flatMap iS).length=ys.length*rU:=hi.flat ys;have hmin:Nat.min ys.length N=ys.length:=zE hlen;have hcells:(Builtin.firstCells rU ys.length (.slice va ys.length cv)).run P w= .ok (ys.flatMap iS).toArray w:=by
  rcases Nat.eq_zero_or_pos ys.length with h0 | h0
  ·have e:ys=[]:=Ew h0;subst e;cases va with
   | none=>exact run_firstCells_none (P:=P) w rU _ _ _
   | some ad=>exact run_firstCells_some (P:=P) w rU 0 _ _ _ [] (by simp) (by simp)
  ·have hva:=hv.ne h0;rw[hva];refine run_firstCells_some (P:=P) w rU ys.length _ _ _ (ys.flatMap iS) hfl ?_;intro jj u hu;have hj:jj<ys.length*rU:=by rw[<-hfl];exact(List.getElem?_eq_some_iff.1 hu).1
   have hpos:0<rU:=hi.pos;have h1:jj/rU<ys.length:=Nat.div_lt_of_lt_mul (by rw[Nat.mul_comm];exact hj);have h2:jj%rU<rU:=Nat.mod_lt _ hpos;have h3:jj/rU*rU+jj%rU=jj:=by rw[Nat.mul_comm];exact Nat.div_add_mod jj rU
   have h4:=hi.get ys (jj/rU) (jj%rU) ys[jj/rU] (List.getElem?_eq_getElem h1) h2;rw[h3,hu]at h4;have h5:=(hv _ _ (List.getElem?_eq_getElem h1)).2 _ _ h4.symm _ _ hF.drop;rw[u3,show j6 va+jj=j6 va+jj/rU*rU+jj%rU by omega];exact h5
 have hst:=run_storeCells_at P (dW ca) (i*sz+f) E (ys.flatMap iS) 0 cur w hP.block (by rw[hfl];omega) (hi.ym ys);simp only[Ex]at hst;refine qX (w1:=w.setRow (dW ca) (cur.toList.take (i*sz+f)++ys.flatMap iS++cur.toList.drop (i*sz+f+(ys.flatMap iS).length)).toArray) (v:=.int .i64 ((ys.length:Nat):Int)) hw hd hn hr ?_ (λa hr=>k _ a (Fit.yq ?_ hca (by rw[gY];exact hn')) hr)
 ·unfold execOp;cases wz:P.info? afv with
  | none=>simp[wz]at hsz
  | some q =>
   simp[wz]at hsz;simp only[ho,resolve,invoke,builtin,mV,sO,mW,Ey,zF,Ai,hs,hx];simp[Builtin.copy_,run_underlying hty,Builtin.lenOf,sizeOf,typeInfo,wz,hsz,hmin,hcells,hst,goInt]
 ·refine(hP.turn (w':=w.setRow (dW ca) (cur.toList.take (i*sz+f)++ys.flatMap iS++cur.toList.drop (i*sz+f+(ys.flatMap iS).length)).toArray) (setRow_heap w (dW ca) cur _ E (0,0) hP.block) (λk hk _=>setRow_other w (dW ca) k _ hk) rfl rfl rfl (by simp)).head λz hz=>⟨by simpa using GY,EM,_,?_,?_,hz⟩
  ·simp only[BR,jM,tN,Ah,tO];omega
  ·have Wk:((xs.flatMap enc).drop (i*sz)).take sz=enc p:=by
    apply yh
    intro k;rw[List.getElem?_take];by_cases hk:k<sz
    ·rw[aP hk,List.getElem?_drop];exact he.get xs i k p hp hk
    ·rw[ct hk,List.getElem?_eq_none (by rw[he.len];omega)]
   rw[<-hfl]at hq hfit;generalize ys.flatMap iS=vs at hq hfit hst⊢;rw[gY,he.set xs i q EL,hq,<-Wk,Ci _ _ _ _ _ hfit (by rw[he.flat];exact hle),<-Kz];have hA:(cur.toList.take (i*sz+f)).length=i*sz+f:=by rw[tN,tO];omega
   have e1:(cur.toList.take (i*sz+f)++vs++cur.toList.drop (i*sz+f+vs.length)).take (xs.length*sz)=cur.toList.take (i*sz+f)++vs++(cur.toList.drop (i*sz+f+vs.length)).take (xs.length*sz-(i*sz+f+vs.length)):=by
    rw[Ib,Et (by rw[jM,hA];omega),jM,hA]
   rw[Ic,e1,List.take_take,zE I,Ie]
def F8(cn:fO->Nat->α->List Value)(afv:TypeId)(rU:Nat)(iS:β->List Value)(um:α->List β)(p:α×(Option Addr×Nat))(cs:List Value):aZ:=
 aB [PG (cs=cn p.2.1 p.2.2 p.1),rowOf afv rU iS (.slice p.2.1 (um p.1).length p.2.2) (um p.1)]
section
variable {cn:fO->Nat->α->List Value}{afv:TypeId}{iS:β->List Value}{um:α->List β}{own:α->List Value->aZ}{v:Value}
theorem Fq{p:α×(Option Addr×Nat)}{cs:List Value}{L:List aZ}(h:Fit z (aB (F8 cn afv rU iS um p cs::L)) w):cs=cn p.2.1 p.2.2 p.1/\Fit z (aB (rowOf afv rU iS (.slice p.2.1 (um p.1).length p.2.2) (um p.1)::L)) w:=by
 have h:=h.sn;obtain⟨e,h⟩:=h.yl;exact⟨e,h⟩
theorem UA{p:α×(Option Addr×Nat)}{L:List aZ}(h:Fit z (aB (rowOf afv rU iS (.slice p.2.1 (um p.1).length p.2.2) (um p.1)::L)) w):Fit z (aB (F8 cn afv rU iS um p (cn p.2.1 p.2.2 p.1)::L)) w:=by
 refine Fit.rI (PG (cn p.2.1 p.2.2 p.1=cn p.2.1 p.2.2 p.1)::[rowOf afv rU iS (.slice p.2.1 (um p.1).length p.2.2) (um p.1)]) L ?_;exact h.wo rfl
theorem Ok(hown:∀{z w:World} {L:List aZ} {x:α} {cs:List Value},Fit z (aB (own x cs::L)) w->∃(ca:fO) (cc:Nat),cs=cn ca cc x/\Fit z (aB (rowOf afv rU iS (.slice ca (um x).length cc) (um x)::L)) w) :
 ∀(l:List α) (css:List (mB sz)) (M:List aZ),css.length=l.length->Fit z (aB (List.zipWith (λx c=>own x c.cs) l css++M)) w->∃l':List (α×(Option Addr×Nat)),l'.map Prod.fst=l/\l'.length=css.length/\Fit z (aB (List.zipWith (λx c=>F8 cn afv rU iS um x c.cs) l' css++M)) w
 | [],css,M,hl,h=>⟨[],rfl,by simpa using hl.symm,by simpa using h⟩
 | x::l,[],M,hl,h=>by simp at hl
 | x::l,c::css,M,hl,h=>by
  obtain⟨ca,cc,e,h⟩:=hown h;have h:=UA (cn:=cn) (p:=(x,(ca,cc))) h;rw[<-e]at h;have h2:=h.perm (wm (l₁:=List.zipWith (λx c=>own x c.cs) l css) (a:=F8 cn afv rU iS um (x,(ca,cc)) c.cs) (l₂:=M)).symm;obtain⟨l',e1,e2,h3⟩:=Ok (λh=>hown h) l css _ (by simpa using hl) h2;exact⟨(x,(ca,cc))::l',by simp[e1],by simp[e2],h3.perm wm⟩
theorem Iu(hsh:∀{z w:World} {L:List aZ} {x:α} {ca:fO} {cc:Nat},Fit z (aB (rowOf afv rU iS (.slice ca (um x).length cc) (um x)::L)) w->Fit z (aB (own x (cn ca cc x)::L)) w) :
 ∀(l':List (α×(Option Addr×Nat))) (css:List (mB sz)) (M:List aZ),css.length=l'.length->Fit z (aB (List.zipWith (λx c=>F8 cn afv rU iS um x c.cs) l' css++M)) w->Fit z (aB (List.zipWith (λx c=>own x c.cs) (l'.map Prod.fst) css++M)) w
 | [],css,M,hl,h=>by simpa using h
 | p::l,[],M,hl,h=>by simp at hl
 | p::l,c::css,M,hl,h=>by
  obtain⟨e,h⟩:=Fq h;have h:=hsh h;rw[<-e]at h;have h2:=h.perm (wm (l₁:=List.zipWith (λx c=>F8 cn afv rU iS um x c.cs) l css) (a:=own p.1 c.cs) (l₂:=M)).symm;have h3:=Iu (λh=>hsh h) l css _ (by simpa using hl) h2;exact h3.perm wm
theorem RR(hown:∀{z w:World} {L:List aZ} {x:α} {cs:List Value},Fit z (aB (own x cs::L)) w->∃(ca:fO) (cc:Nat),cs=cn ca cc x/\Fit z (aB (rowOf afv rU iS (.slice ca (um x).length cc) (um x)::L)) w){l:List α}{L:List aZ}
 (h:Fit z (aB (su E sz own v l::L)) w) :∃l':List (α×(Option Addr×Nat)),l'.map Prod.fst=l/\Fit z (aB (su E sz (F8 cn afv rU iS um) v l'::L)) w:=by
 obtain⟨css,hl,h⟩:=h.Bi;have h:=h.perm (wm (l₁:=List.zipWith (λx c=>own x c.cs) l css) (a:=rowOf E sz mB.cs v css) (l₂:=L)).symm;obtain⟨l',e1,e2,h⟩:=Ok (own:=own) (cn:=cn) (λh=>hown h) l css _ hl h;exact⟨l',e1,Fit.Bj (css:=css) e2.symm (h.perm wm)⟩
theorem MQ(hsh:∀{z w:World} {L:List aZ} {x:α} {ca:fO} {cc:Nat},Fit z (aB (rowOf afv rU iS (.slice ca (um x).length cc) (um x)::L)) w->Fit z (aB (own x (cn ca cc x)::L)) w){l':List (α×(Option Addr×Nat))}{L:List aZ}
 (h:Fit z (aB (su E sz (F8 cn afv rU iS um) v l'::L)) w) {l:List α} (e:l'.map Prod.fst=l):Fit z (aB (su E sz own v l::L)) w:=by
 subst e;obtain⟨css,hl,h⟩:=h.Bi;have h:=h.perm (wm (l₁:=List.zipWith (λx c=>F8 cn afv rU iS um x c.cs) l' css) (a:=rowOf E sz mB.cs v css) (l₂:=L)).symm;have h:=Iu (own:=own) (λh=>hsh h) l' css _ hl h;exact Fit.Bj (css:=css) (by simpa using hl) (h.perm wm)
theorem yc.UB[Inhabited α]{l':List (α×(Option Addr×Nat))}{L' L'' L3:List aZ}{ca:fO}{n cc:Nat}(heI:sF iS rU)(hsz:0<sz)(h0:Fit z (aB (su E sz (F8 cn afv rU iS um) (.slice ca n cc) l'::L'')) w)
 (f:∀{z w:World},Fit z (aB L') w->Fit z (aB (su E sz (F8 cn afv rU iS um) (.slice ca n cc) l'::L3)) w):yc L' sz rU cn iS um ca (λi=>(J l' i).2) (l'.map Prod.fst):=by
 intro i x hx;rw[List.getElem?_map]at hx;cases hp:l'[i]? with
 | none=>simp[hp]at hx
 | some p =>
  simp[hp]at hx;subst hx;have EL:i<l'.length:=(List.getElem?_eq_some_iff.1 hp).1;have hat:J l' i=p:=by
   have:=get_at EL;rw[hp]at this;exact(Option.some.inj this).symm
  have hca:=h0.Ir I;have ho:j6 ca=0:=by rw[hca];rfl
  simp only[hat];refine⟨by rw[ho];exact hca,λg u hu z w hw => ?_,?_⟩
  ·rw[ho,Ag];obtain⟨cs,h⟩:=(f hw).me hp;obtain⟨e,_⟩:=Fq (h.pick 1);subst e;exact h.oP hsz hu
  ·intro k y hy;have main:∀{z w:World},Fit z (aB L') w->∃M,Fit z (aB (rowOf afv rU iS (.slice p.2.1 (um p.1).length p.2.2) (um p.1)::M)) w:=λhw=>by
    obtain⟨cs,h⟩:=(f hw).me hp;obtain⟨_,h⟩:=Fq (h.pick 1);exact⟨_,h⟩
   have hkl:k<(um p.1).length:=(List.getElem?_eq_some_iff.1 hy).1;have h1 :∃M,Fit z (aB (rowOf afv rU iS (.slice p.2.1 (um p.1).length p.2.2) (um p.1)::M)) w:=by
    obtain⟨cs,h⟩:=h0.me hp;obtain⟨_,h⟩:=Fq (h.pick 1);exact⟨_,h⟩
   obtain⟨M,h1⟩:=h1;have hc:=(h1.rW I).1;have ho2:j6 p.2.1=0:=by rw[hc];rfl
   refine⟨by rw[ho2];exact hc,λg u hu z w hw => ?_⟩;obtain⟨M,h2⟩:=main hw;rw[ho2,Ag];exact h2.bL heI hy hu
end
end
end GX
end
section
namespace RK
open Go Go.RowKit Go.ChangeShapes Go.WideShapes Go.Deep SL GX
section
variable {H:Type}{DK:TypeId×Value->H}{P:Program}{afs:World}{base:Nat}{spare:Nat->Bool}{held:Bool}{t e:TypeId}{n:Nat}{cs:List Value}{y:DataW H×List MemPlace}
theorem Ol{l:List (DataW H)}{d:DataW H}(h:d∈l):Rows.uptoBulk d<=Rows.uptoBulkAll l:=Is h
theorem qa{fs:Array Field}(hs:P.underlying t=some (.struct fs))(h:DataW.trod DK P afs base spare held n t cs=some y)(i:Nat){f:Field}(hf:fs[i]? = some f) :
 ∃m z,DataW.trod DK P afs base spare held m f.type ((cs.drop f.offset).take (P.cellsOf f.type))=some z/\Rows.uptoBulk z.1<=Rows.uptoBulk y.1:=by
 obtain⟨xs,m,_,hx,_,hl,hg⟩:=DataW.trod_struct hs h;have hi:i<fs.size:=(Array.getElem?_eq_some_iff.1 hf).1;have hg:=hg i f hf;rw[List.getElem?_eq_getElem I]at hg;refine⟨m,_,hg,?_⟩;rw[hx];simp only[Rows.uptoBulk];have:=Ol (l:=xs.map (·.1)) (List.mem_map.2 ⟨_,List.getElem_mem (show i<xs.length by omega),rfl⟩);omega
theorem Xu{fs:Array Field}(hs:P.underlying t=some (.struct fs))(h:DataW.trod DK P afs base spare held n t cs=some y):cs.length=P.cellsOf t:=by
 obtain⟨xs,m,_,hx,hl,_⟩:=DataW.trod_struct hs h;exact hl
theorem uE(ht:P.underlying t=some (.int .i64))(h:DataW.trod DK P afs base spare held n t cs=some y) :∃x:Int,cs=[.int .i64 x]/\F1 x:=by
 obtain⟨x,hx,_,hw⟩:=DataW.trod_int ht h;exact⟨x,hx,wf_i64 hw⟩
theorem MR{α:Type}{Q:α->DataW H->Prop}{enc:α->List Value}{sz:Nat}(he:sF enc sz)(ht:P.underlying t=some (.slice e))(hC:P.cellsOf e=sz)
 (RS:∀n cs y,DataW.trod DK P afs base spare held n e cs=some y->cs.length=sz->∃x:α,cs=enc x/\Q x y.1) (h:DataW.trod DK P afs base spare held n t cs=some y) :
 ∃(va:fO) (l:List α) (cap:Nat),cs=[.slice va l.length cap]/\bE [old afs] sz enc va l/\(∀x∈l,∃d,Q x d/\Rows.uptoBulk d<=Rows.uptoBulk y.1)/\l.length+1<=Rows.uptoBulk y.1/\l.length<=cap:=by
 rcases open_slice ht h with ⟨h0,_⟩ | ⟨a',len,cap,m,n,D,Pl,hcs,_,hl,hm,Zj,hx,hi⟩
 ·exact⟨none,[],0,h0,bE.nil,λx h=>by simp at h,by simpa using KL y.1,by simp⟩
 ·have hlm:len<=m:=by rw[Zj];split<;>omega
  rw[hC]at hi;have hex:∀i,i<m->∃x:α,afs.cells? base (a'.add (i*sz)) sz=some (enc x)/\Q x (D i):=λi him=>by
   obtain⟨cs',h1,h2⟩:=hi i him;obtain⟨_,h3,_⟩:=World.cells?_some h1;obtain⟨x,hx,hq⟩:=RS n cs' _ h2 h3;exact⟨x,by rw[h1,hx],hq⟩
  have hlen:∀k,k<=m->∃l:List α,l.length=k/\∀i x,l[i]? = some x->afs.cells? base (a'.add (i*sz)) sz=some (enc x)/\Q x (D i):=by
   intro k
   induction k with
   | zero=>intro _;exact⟨[],rfl,λi x h=>by simp at h⟩
   | succ k ih =>
    intro hk;obtain⟨l,h1,h2⟩:=ih I;obtain⟨x,hx⟩:=hex k I;refine⟨l++[x],by simp[h1],λi y hy => ?_⟩;by_cases hik:i<l.length
    ·rw[List.getElem?_append_left hik]at hy;exact h2 i y hy
    ·rw[List.getElem?_append_right I]at hy;have gP:i=k:=by
      have:=(List.getElem?_eq_some_iff.1 hy).1;simp at this;omega
     subst gP;rw[h1,Nat.sub_self]at hy;simp at hy;subst hy;exact hx
  obtain⟨l,GY,EM⟩:=hlen len hlm;have hd:y.1= .slice ((List.range len).map D) ((List.range (m-len)).map λj=>D (len+j)):=mX Prod.fst hx;refine⟨some a',l,cap,by rw[GY];exact hcs,λi x hx => ?_,λx hx => ?_,?_,I⟩
  ·have hc:=(EM i x hx).1;obtain⟨_,_,hat⟩:=World.cells?_some hc;have hcell:∀f u,(enc x)[f]? = some u->afs.cell? ((a'.add (i*sz)).add f)=some u:=λf u hu=>by
    have hf:f<sz:=by rw[<-he.len x];exact(List.getElem?_eq_some_iff.1 hu).1
    rw[hat f hf,hu]
   have hsp:a'.spot=none:=by
    have hp:=he.pos;have EL:i<l.length:=(List.getElem?_eq_some_iff.1 hx).1;have hx0:l[0]? = some (l[0]' I):=List.getElem?_eq_getElem I;obtain⟨_,_,acW⟩:=World.cells?_some (EM 0 _ hx0).1;have h0:0<(enc (l[0]' I)).length:=by rw[he.len];exact hp
    have h1:afs.cell? ((a'.add (0*sz)).add 0)=some _:=(acW 0 hp).trans (List.getElem?_eq_getElem h0);have h2:=World.cell?_spot h1;rw[Nat.zero_mul,Addr.add,aP rfl,Addr.add,aP rfl]at h2;exact h2
   obtain⟨ab,ao,asp⟩:=a';simp only at hsp;subst hsp;refine⟨rfl,λf u hu z w hw => ?_⟩;refine hw.Ku ?_;have:=hcell f u hu;rw[u3,u3]at this;exact this
  ·obtain⟨i,hi,rfl⟩:=List.getElem_of_mem hx;obtain⟨_,hq⟩:=EM i _ (List.getElem?_eq_getElem hi);refine⟨D i,hq,?_⟩;rw[hd];simp only[Rows.uptoBulk];have:=Ol (l:=(List.range len).map D) (List.mem_map.2 ⟨i,List.mem_range.2 I,rfl⟩);omega
  ·rw[hd,GY];simp only[Rows.uptoBulk];have:=RE ((List.range len).map D);simp only[BS,List.length_range]at this;omega
theorem Jb(ht:P.underlying t=some (.slice e))(he:P.underlying e=some (.int .i64))(hC:P.cellsOf e=1)(h:DataW.trod DK P afs base spare held n t cs=some y) :
 ∃(va:fO) (l:List Int) (cap:Nat),cs=[.slice va l.length cap]/\bE [old afs] 1 cQ va l/\(∀x∈l,F1 x)/\l.length+1<=Rows.uptoBulk y.1/\l.length<=cap:=by
 obtain⟨va,l,cap,h1,h2,h3,h4,h5⟩:=MR (Q:=λx _=>F1 x) aO ht hC (λn cs y h hl=>by
  obtain⟨x,hx,hi⟩:=uE he h;exact⟨x,by rw[hx];rfl,hi⟩) h
 exact⟨va,l,cap,h1,h2,λx hx=>by obtain⟨_,h,_⟩:=h3 x hx;exact h,h4,h5⟩
theorem UC{α β:Type}{Q:α->DataW H->Prop}{enc:fO->Nat->α->List Value}{iS:β->List Value}{um:α->List β}{sz rU:Nat}(he:∀a c,sF (enc a c) sz)(ht:P.underlying t=some (.slice e))(hC:P.cellsOf e=sz)
 (RS:∀n cs y,DataW.trod DK P afs base spare held n e cs=some y->cs.length=sz->∃(a:fO) (c:Nat) (x:α),cs=enc a c x/\bE [old afs] rU iS a (um x)/\Q x y.1) (h:DataW.trod DK P afs base spare held n t cs=some y) :
 ∃(va:fO) (hs:Nat->Option Addr×Nat) (l:List α) (cap:Nat),cs=[.slice va l.length cap]/\yc [old afs] sz rU enc iS um va hs l/\(∀x∈l,∃d,Q x d/\Rows.uptoBulk d<=Rows.uptoBulk y.1)/\l.length+1<=Rows.uptoBulk y.1/\l.length<=cap:=by
 obtain⟨va,l,cap,h1,h2,h3,h4,h5⟩:=MR (α:=(Option Addr×Nat)×α) (Q:=λp d=>bE [old afs] rU iS p.1.1 (um p.2)/\Q p.2 d) (enc:=λp=>enc p.1.1 p.1.2 p.2)
  ⟨λp=>(he _ _).len _,λp u h=>(he _ _).one _ u h,(he none 0).pos⟩ ht hC (λn cs y h hl=>by
   obtain⟨a,c,x,e1,e2,e3⟩:=RS n cs y h hl;exact⟨((a,c),x),e1,e2,e3⟩) h
 refine⟨va,λi=>(l[i]?.map (·.1)).getD (none,0),l.map (·.2),cap,by rw[BS];exact h1,λi x hx => ?_,λx hx => ?_,by rw[BS];exact h4,by rw[BS];exact h5⟩
 ·rw[List.getElem?_map]at hx;cases hq:l[i]? with
  | none=>rw[hq]at hx;cases hx
  | some p =>
   rw[hq]at hx;simp only[uw,Option.some.injEq]at hx;subst hx;obtain⟨a1,a2⟩:=h2 i p hq;obtain⟨_,a3,_⟩:=h3 p (List.mem_of_getElem? hq);simp only[hq,uw,oJ];exact⟨a1,a2,a3.1⟩
 ·obtain⟨p,hp,rfl⟩:=List.mem_map.1 hx;obtain⟨d,a,b⟩:=h3 p hp;exact⟨d,a.2,b⟩
end
theorem KN{P:Program}{afs:World}{α:Type}{enc:α->List Value}{dE:α->DataW Unit}{sz:Nat}{name:String}{g:Nat}{t e:TypeId}{N:Nat}{l:List α}{rest:List (String×DataW Unit)}{ps:List MemPlace}(hsz:0<sz)
 (hg:P.globalNamed name=some g) (hty:(P.globals[g]?).map (·.type)=some t) (ht:P.underlying t=some (.array N e)) (hC:P.cellsOf e=sz) (hCt:P.cellsOf t=N*sz) (hN:N=l.length)
 (hlen:∀x,(enc x).length=sz) (RS:∀m cs y x,DataW.trod (λ_=>()) P afs 0 (λ_=>true) false m e cs=some y->cs.length=sz->y.1=dE x->cs=enc x)
 (h:DataW.LaidVars P afs ((name,.agg (l.map dE))::rest) ps):bE [old afs] sz enc (some ⟨g,0,none⟩) l/\∃qs,DataW.LaidVars P afs rest qs:=by
 obtain⟨g',t',cs,fuel,p,q,Ky,ht',acX,hd,hr,_⟩:=h;obtain rfl:=Option.some.inj (hg.symm.trans Ky);obtain rfl:=Option.some.inj (hty.symm.trans ht');refine⟨λi x hx => ?_,_,hr⟩;have hi:i<l.length:=(List.getElem?_eq_some_iff.1 hx).1;refine⟨rfl,λf u hu z w hw=>hw.Ku ?_⟩;obtain⟨xs,m,_,ex,hlc,hl,hel⟩:=DataW.trod_array ht hd;have hf:f<sz:=by rw[<-hlen x];exact(List.getElem?_eq_some_iff.1 hu).1
 have h1:=hel i I;rw[hC,List.getElem?_eq_getElem I]at h1;have h2:(xs[i]' I).1=dE x:=by
  simp only[Prod.mk.injEq,DataW.agg.injEq]at ex;have:=mX (·[i]?) ex.1;simp only[List.getElem?_map,hx,uw,List.getElem?_eq_getElem (show i<xs.length by omega),Option.some.injEq]at this;exact this.symm
 have hlt:cs.toList.length=N*sz:=by rw[hlc,hCt]
 have h4:i*sz+sz<=N*sz:=by
  have:=rm sz (show i+1<=N by omega);rw[Ez]at this;exact this
 have h3:=RS m _ _ x h1 (by rw[tN,Ah,hlt];omega) h2;have:=World.var?_cell hg acX (i*sz+f);rw[show(j6 (some ⟨g,0,none⟩:fO))=0 from rfl,Ag];show afs.cell? ⟨g,i*sz+f,none⟩=some u;rw[this,<-Array.getElem?_toList];rw[<-h3,List.getElem?_take,aP hf,List.getElem?_drop]at hu;exact hu
end RK
end
section
namespace GX
open Go Go.RowKit SL
def UD(x y:Int):Int:=IntKind.i64.wrap ((BitVec.ofInt 64 x ^^^ BitVec.ofInt 64 y).toNat)
def UE(x y:Int):Int:=IntKind.i64.wrap (x*2 ^ (min y.toNat 64))
def UF(x y:Int):Int:=x.fdiv (2 ^ (min y.toNat 64))
section
variable {P:Program}{ops:Array Oper}{Q:Exit->Act->World->Prop}{a:Act}{w w0 w1:World}{rest:List Oper}{o:Oper}{n d t:Nat}{v v1:Value}{l:List (Nat×Value)}{j e:Nat->Value}{L:List aZ}{Df:List Deferred}{E:TypeId}
theorem acY{x y:Operand}{p q:Int}{T T':TypeId}(ho:o.op= .binOp .xor T x y T')(hx:eM e x= .int .i64 p)(hy:eM e y= .int .i64 q):(execOp (eM e) o).run P w= .ok (.value (.int .i64 (UD p q))) w:=by
 unfold execOp;simp[ho,hx,hy,eqGuard,binOp,Op.intBits];rfl
theorem RT(x:Int):0<=IntKind.u64.wrap x:=by
 simp only[IntKind.wrap,IntKind.min,IntKind.max,IntKind.signed,IntKind.bits];simp;omega
theorem acZ{x y:Operand}{p q:Int}{T T':TypeId}(ho:o.op= .binOp .shl T x y T')(hx:eM e x= .int .i64 p)(hy:eM e y= .int .u64 q)(hq:0<=q):(execOp (eM e) o).run P w= .ok (.value (.int .i64 (UE p q))) w:=by
 have h:¬q<0:=by omega
 unfold execOp;simp[ho,hx,hy,eqGuard,binOp,Op.shift,h];rfl
theorem ac0{x y:Operand}{p q:Int}{T T':TypeId}(ho:o.op= .binOp .shr T x y T')(hx:eM e x= .int .i64 p)(hy:eM e y= .int .u64 q)(hq:0<=q):(execOp (eM e) o).run P w= .ok (.value (.int .i64 (UF p q))) w:=by
 have h:¬q<0:=by omega
 unfold execOp;simp[ho,hx,hy,eqGuard,binOp,Op.shift,h];rfl
theorem Om{x y:Operand}{k:IntKind}{i:Int}{b N off sz:Nat}{w':World}(ho:o.op= .indexAddr t x y)(hx:eM e x= .pointer (some ⟨b,off,none⟩))(hy:eM e y= .int k i)
 (ht:P.underlying t=some (.array N E)) (hs:(P.info? E).map (·.size)=some sz) (hi:bG i N):(execOp (eM e) o).run P w'= .ok (.value (.pointer (some ⟨b,off+i.toNat*sz,none⟩))) w':=by
 unfold execOp;have h0:=hi.1;have h1:=hi.2;simp only[ho,hx,hy];cases hq:P.info? E with
 | none=>simp[hq]at hs
 | some q =>
  simp[hq]at hs;simp[Instr.indexAt,Instr.sureAddr,run_underlying ht,asIntOf,h0,h1,sizeOf,typeInfo,hq,hs,u3]
theorem ac1{x y:Operand}{kd:IntKind}{i j:Int}{v:Value}{w:World}(ho:o.op= .index t x y)(hy:eM e y= .int kd i)(hi:i=j)(hrun:(Instr.index t (eM e x) (.int kd j)).run P w= .ok v w):(execOp (eM e) o).run P w= .ok (.value v) w:=by
 subst hi;unfold execOp;simp[ho,hy,hrun]
theorem Xv{x y:Operand}{k:IntKind}{i:Int}{b N R off sz:Nat}{w':World}(ho:o.op= .indexAddr t x y)(hx:eM e x= .pointer (some ⟨b,R+off,none⟩))(hy:eM e y= .int k i)
 (ht:P.underlying t=some (.array N E)) (hs:(P.info? E).map (·.size)=some sz) (hi:bG i N):(execOp (eM e) o).run P w'= .ok (.value (.pointer (some ⟨b,R+(off+i.toNat*sz),none⟩))) w':=by
 rw[<-Ii];exact Om ho hx hy ht hs hi
end
section
variable {α:Type}[Inhabited α]{enc:α->List Value}{sz N:Nat}{C pre post:List Value}{l:List α}{o:Nat}
theorem sH{i:Int}(h:bG i N):i.toNat<N:=by have h0:=h.1;have h1:=h.2;omega
theorem RU(he:sF enc sz){i f:Nat}(hi:i<N){u:Value}(hu:(enc (J l i))[f]? = some u):(kO N enc l)[i*sz+f]? = some u:=by
 have hf:f<sz:=by rw[<-he.len (J l i)];exact(List.getElem?_eq_some_iff.1 hu).1
 rw[Bm,he.get _ i f (J l i) (by simp[hi]) hf];exact hu
theorem Av(hC:C=pre++(kO N enc l++post))(he:sF enc sz)(ho:pre.length=o){i f:Nat}(hi:i<N){u:Value}(hu:(enc (J l i))[f]? = some u):C[o+i*sz+f]? = some u:=by
 have h1:=RU (N:=N) he hi hu;have h2:i*sz+f<(kO N enc l).length:=(List.getElem?_eq_some_iff.1 h1).1;rw[hC,List.getElem?_append_right I,ho,show o+i*sz+f-o=i*sz+f by omega,List.getElem?_append_left h2];exact h1
theorem UG(hC:C=pre++(kO N enc l++post))(he:sF enc sz)(ho:pre.length=o){i:Nat}(hi:i<N){xs:List Value}(hx:enc (J l i)=xs):(C.drop (o+i*sz)).take xs.length=xs:=by
 subst hx
 apply yh
 intro k;rw[List.getElem?_take];by_cases hk:k<(enc (J l i)).length
 ·rw[aP hk,List.getElem?_drop,Av hC he ho hi (List.getElem?_eq_getElem hk),List.getElem?_eq_getElem hk]
 ·rw[ct hk,List.getElem?_eq_none I]
theorem MS{C':List Value}(hC:C=pre++(kO N enc l++post))(he:sF enc sz)(ho:pre.length=o){i:Nat}(hi:i<N){y:α}{vs:List Value}(hy:enc y=vs)(hC':C'=pre++(kO N enc (qz N l i y)++post)):C'=C.take (o+i*sz)++vs++C.drop (o+i*sz+vs.length):=by
 have hl:=(Fp N he l).len;have hvs:vs.length=sz:=by rw[<-hy];exact he.len y
 have hm:i*sz+sz<=N*sz:=by
  have:=rm sz (show i+1<=N by omega);rw[Ez]at this;exact this
 have e1:(pre++(kO N enc l++post)).take (o+i*sz)=pre++(kO N enc l).take (i*sz):=by
  rw[Ib,Et I,ho,show o+i*sz-o=i*sz by omega,List.take_append_of_le_length I]
 have e2:(pre++(kO N enc l++post)).drop (o+i*sz+sz)=(kO N enc l).drop (i*sz+sz)++post:=by
  rw[List.drop_append,yg I,ho,show o+i*sz+sz-o=i*sz+sz by omega,yQ,Ia I]
 rw[hC',hC,RP he hi,<-hy,he.len y,e1,e2];simp only[pS]
theorem RV(hC:C=pre++(kO N enc l++post))(he:sF enc sz)(ho:pre.length=o){i m:Nat}(hi:i<N)(hm:m<=sz):o+i*sz+m<=C.length:=by
 have hl:=(Fp N he l).len;have:i*sz+sz<=N*sz:=by
  have:=rm sz (show i+1<=N by omega);rw[Ez]at this;exact this
 rw[hC,jM,jM,hl];omega
theorem CR{C':List Value}{v:Value}(hC:C=pre++(kO N enc l++post))(he:sF enc 1)(ho:pre.length=o){i:Nat}(hi:i<N){y:α}(hy:enc y=[v])(hC':C'=pre++(kO N enc (qz N l i y)++post)):C'=C.set (o+i*1) v:=by
 have h:=MS hC he ho hi hy hC';have hl:=RV (m:=1) hC he ho hi (j5 _);rw[h,List.set_eq_take_append_cons_drop,pR];simp
end
section
variable {P:Program}{ops:Array Oper}{Q:Exit->Act->World->Prop}{a:Act}{w w0 w1:World}{rest:List Oper}{o:Oper}{n d t:Nat}{v v1:Value}{l:List (Nat×Value)}{j e:Nat->Value}{L:List aZ}{Df:List Deferred}{E:TypeId}
theorem _root_.Go.Proofs.YtpikpffbcjpmcaaGreatDoor.SL.Fit.RW{b k:Nat}{C xs:List Value}{T:TypeId}(h:Fit w0 (aB (pts b (.cells C.toArray T)::L)) w)(hx:(C.drop k).take xs.length=xs):qJ w b k xs:=by
 refine F5 xs _ λq u hu => ?_;rw[<-hx,List.getElem?_take]at hu;split at hu
 ·rw[List.getElem?_drop]at hu;exact h.cell (k+q) (by simpa using hu)
 ·cases hu
theorem CS{x y:Operand}{b k:Nat}{C C' vs:List Value}{T:TypeId}(hw:tL o ops a)(hd:o.dst=none)(hr:cK Df n (lk l j) a)(ho:o.op= .store t x y)
 (hx:eM (lk l j) x= .pointer (some ⟨b,k,none⟩)) (hy:eM (lk l j) y= .agg vs.toArray) (h1:vs.all (·.oneCell')=true) (hs:(P.info? t).map (·.size)=some vs.length)
 (hF:Fit w0 (aB (pts b (.cells C.toArray T)::L)) w) (hk:k+vs.length<=C.length) (hC:C'=C.take k++vs++C.drop (k+vs.length))
 (K:∀w1,Fit w0 (aB (pts b (.cells C'.toArray T)::L)) w1->wpList P ops Q rest a w1):wpList P ops Q (o::rest) a w:=
 Ip hw hd hr ho hx hy h1 (Nat.ble_eq_true_of_le (by simpa using hk)) hs hF (cs':=C'.toArray) (by rw[hC]) K
end
section
variable {P:Program}{w w0 w1 z:World}{ops:Array Oper}{Q:Exit->Act->World->Prop}{a:Act}{rest:List Oper}{e:Nat->Value}{o:Oper}{n d:Nat}{l:List (Nat×Value)}{j:Nat->Value}{Df:List Deferred}{L:List aZ}{u:Value}
theorem DL{x:Operand}{T:TypeId}(hw:tL o ops a)(hr:cK Df n (lk l j) a)(ho:o.op= .panic x)(hx:eM (lk l j) x= .iface T u)
 (k:Q (.panic [{v:=.iface T u,recovered:=false}]) a w):wpList P ops Q (o::rest) a w:=by
 refine vQ hw ?_;unfold Oper.wp;have h:(execOp (eM (lk l j)) o).run P w= .halt (.panic (.iface T u)) w:=by
  unfold execOp;simp[ho,hx,Instr.panic,goPanic]
 rw[hr.eval,h,Oper.upon_panic];exact k
theorem KO{f:FuncId}{args:Array Value}{R:Ending->World->Prop}(hw:tL o ops a)(hr:cK Df n (lk l j) a)
 (hrun:(execOp (eM (lk l j)) o).run P w= .ok (.enter f args) w) (hc:Calls P f args w R)
 (k:∀e w1,R e w1->∃ch,e= .panicked ch/\Q (.panic ch) a w1):wpList P ops Q (o::rest) a w:=by
 refine vQ hw ?_;unfold Oper.wp;rw[hr.eval,hrun,Oper.upon_enter];refine hc.mono λe w1 h => ?_;obtain⟨ch,rfl,h2⟩:=k e w1 h;exact h2
theorem nG{K:Act->World->Prop}{ch:List PanicEntry}(h:Q (.panic ch) a w):Exit.then K Q (.panic ch) a w:=h
theorem ta{i:Nat}{ch:List PanicEntry}(h:Q (.panic ch) a w):Exit.inBlock i Q (.panic ch) a w:=h
theorem Bn{fn:Func}{R:Ending->World->Prop}{ch:List PanicEntry}(hr:kI n e a)(h:R (.panicked ch) w):bodyPost P fn R (.panic ch) a w:=⟨hr.defers,h⟩
theorem ejR{γ δ:Type}{x y:δ}(h:some (Sum.inr x:γ⊕δ)=some (Sum.inr y)):x=y:=by cases h;rfl
theorem RX(h:Q .ret a w):Exit.noGoto Q .ret a w:=h
instance aeQ [h:PI Q]:PI (Exit.noGoto Q):=⟨λch a w dst v k=>h.pi ch a w dst v k⟩
end
section
variable {P:Program}{w:World}
theorem Jc(em:Bool)(d:Nat)(xs:Array Value):∀(fs:List Field) (i:Nat) (us:List Value),BX P i fs us us=true->(∀j,us[j]? = xs[i+j]?∨us.length<=j)->
 Sem.run P (forIn fs PUnit.unit λf _=>if f.name≠ "_" then do let v<-part f.type xs f.offset;Instr.checkKey em (d+1) f.type v;pure (ForInStep.yield PUnit.unit)else pure (ForInStep.yield PUnit.unit)) w= .ok PUnit.unit w
 | [],_,[],_,_=>by simp
 | f::fs,i,.int k a::us,h,hx=>by
  simp only[BX,lP,bne_iff_ne,ne_eq,vJ]at h;obtain⟨⟨⟨⟨hn,ho⟩,ht⟩,_⟩,hr⟩:=h;have hx0:xs[i]? = some (.int k a):=by rcases hx 0 with h | h;simpa using h.symm;simp at h
  have hty :∃kk,P.underlying f.type=some (.int kk):=by
   revert ht
   cases hq:P.underlying f.type with
   | none=>simp
   | some d=>cases d<;>simp
  obtain⟨kk,hty⟩:=hty;have ih:=Jc em d xs fs (i+1) us hr (λj=>by rcases hx (j+1)with h | h;left;simpa [MK,Ig]using h;right;simpa using h);have pa:=rJ (P:=P) (w:=w) (t:=f.type) (cs:=xs) (i:=f.offset) (v:=.int k a) (by rw[hty]) (by rw[ho];exact hx0);have hc:(Instr.checkKey em (d+1) f.type (.int k a)).run P w= .ok () w:=by simp[Instr.checkKey,run_underlying hty]
  rw[List.forIn_cons];simp only[ne_eq,aP hn,mV,pa,hc,mW,sO]
  simpa using ih
 | f::fs,i,.bool a::us,h,hx=>by
  simp only[BX,lP,bne_iff_ne,ne_eq,vJ]at h;obtain⟨⟨⟨hn,ho⟩,ht⟩,hr⟩:=h;have hx0:xs[i]? = some (.bool a):=by rcases hx 0 with h | h;simpa using h.symm;simp at h
  have hty:P.underlying f.type=some .bool:=by
   revert ht
   cases hq:P.underlying f.type with
   | none=>simp
   | some d=>cases d<;>simp
  have ih:=Jc em d xs fs (i+1) us hr (λj=>by rcases hx (j+1)with h | h;left;simpa [MK,Ig]using h;right;simpa using h);have pa:=rJ (P:=P) (w:=w) (t:=f.type) (cs:=xs) (i:=f.offset) (v:=.bool a) (by rw[hty]) (by rw[ho];exact hx0);have hc:(Instr.checkKey em (d+1) f.type (.bool a)).run P w= .ok () w:=by simp[Instr.checkKey,run_underlying hty]
  rw[List.forIn_cons];simp only[ne_eq,aP hn,mV,pa,hc,mW,sO]
  simpa using ih
theorem RY{em:Bool}{T:TypeId}{us:List Value}(d:Nat)(hu:P.underlying T=some (.struct (P.fieldsOf T)))(hf:BX P 0 (P.fieldsOf T).toList us us=true):(Instr.checkKey em (d+2) T (.agg us.toArray)).run P w= .ok () w:=by
 unfold Instr.checkKey;simp only[run_underlying hu,mV,mW,<-Array.forIn_toList];rw[Jc em d us.toArray _ 0 us hf (λj=>by left;simp)];simp
structure KP{α:Type}[DecidableEq α](P:Program)(kt:TypeId)(ek:α->List Value):Prop where
 hp:P.stoodInHeld kt=false
 hu:P.underlying kt=some (.struct (P.fieldsOf kt))
 hf:∀x y,BX P 0 (P.fieldsOf kt).toList (ek x) (ek y)=true
 eq:∀x y,tR (ek x) (ek y)=decide (x=y)
end
section
variable {α β:Type}[DecidableEq α]
def rB(ek:α->List Value)(ev:β->List Value)(l:List (α×β))(k:Nat):List MapEntry:=(l.zipIdx k).map λp=>{key:=.agg (ek p.1.1).toArray,val:=.agg (ev p.1.2).toArray,born:=p.2}
def mapOf(ek:α->List Value)(ev:β->List Value)(b:Nat)(l:List (α×β)):aZ:=pts b (.map (rB ek ev l 0).toArray l.length)
def wV:List (α×β)->α->Option β
 | [],_=>none
 | p::l,x=>if x=p.1 then some p.2 else wV l x
variable {P:Program}{w w0 w1 z:World}{ops:Array Oper}{Q:Exit->Act->World->Prop}{a:Act}{rest:List Oper}{e:Nat->Value}{o:Oper}{n d:Nat}{l:List (Nat×Value)}{j:Nat->Value}{Df:List Deferred}{L:List aZ}{u:Value}
variable {ek:α->List Value}{ev:β->List Value}{b:Nat}{m:List (α×β)}{t kt et:TypeId}
theorem KQ(hk:KP P kt ek)(x:α):∀(m:List (α×β)) (k i:Nat),((wV m x=none/\(Instr.findAsking kt (.agg (ek x).toArray) (rB ek ev m k) i).run P w= .ok none w)∨∃v q,wV m x=some v/\(Instr.findAsking kt (.agg (ek x).toArray) (rB ek ev m k) i).run P w= .ok (some (q,.agg (ev v).toArray)) w)
 | [],k,i=>by left;exact⟨rfl,by simp[rB,Instr.findAsking]⟩
 | p::m,k,i=>by
  have h1:=run_equalIn_struct (P:=P) w 9999 kt (ek x).toArray (ek p.1).toArray hk.hu hk.hp;rw[I5 (P:=P) (w:=w) 9998 (ek x).toArray (ek p.1).toArray (P.fieldsOf kt).toList 0 (ek x) (ek p.1) (hk.hf x p.1) (λj=>by left;simp) (λj=>by left;simp)]at h1;have h2:(Op.equal kt (.agg (ek x).toArray) (.agg (ek p.1).toArray)).run P w= .ok (decide (x=p.1)) w:=by rw[<-hk.eq];exact h1
  have e:rB ek ev (p::m) k={key:=.agg (ek p.1).toArray,val:=.agg (ev p.2).toArray,born:=k}::rB ek ev m (k+1):=rfl;rw[e];by_cases c:x=p.1
  ·right
   refine⟨p.2,i,by simp[wV,c],?_⟩;rw[Instr.findAsking];simp only[mV,h2,mW];simp[c]
  ·have ih:=KQ hk x m (k+1) (i+1);have e2:(Instr.findAsking kt (.agg (ek x).toArray) ({key:=.agg (ek p.1).toArray,val:=.agg (ev p.2).toArray,born:=k}::rB ek ev m (k+1)) i).run P w=(Instr.findAsking kt (.agg (ek x).toArray) (rB ek ev m (k+1)) (i+1)).run P w:=by
    rw[Instr.findAsking];simp[h2,c]
   rw[e2]
   simpa [wV,c]using ih
theorem Iv(hk:KP P kt ek)(x:α)(m:List (α×β)):((wV m x=none/\(Instr.findKey kt (.agg (ek x).toArray) (rB ek ev m 0)).run P w= .ok none w)∨∃v q,wV m x=some v/\(Instr.findKey kt (.agg (ek x).toArray) (rB ek ev m 0)).run P w= .ok (some (q,.agg (ev v).toArray)) w):=by
 have h:=KQ (P:=P) (w:=w) (ev:=ev) hk x m 0 0;unfold Instr.findKey;simp only[mV,run_underlying hk.hu,mW];cases m with
 | nil=>left;exact⟨rfl,by simp[rB,Instr.findNow]⟩
 | cons p m =>
  have e:Instr.findNow (.struct (P.fieldsOf kt)) (.agg (ek x).toArray) (rB ek ev (p::m) 0) 0=none:=rfl;rw[e];exact h
theorem RZ(hw:tL o ops a)(hd:o.dst=some d)(hn:Nat.blt d n=true)(hr:cK Df n (lk l j) a)(ho:o.op= .makeMap t none)(ek:α->List Value)(ev:β->List Value)(hF:Fit z (aB L) w)
 (k:∀b w a,Fit z (aB (mapOf ek ev b []::L)) w->cK Df n (lk ((d,.map (some b))::l) j) a->wpList P ops Q rest a w):wpList P ops Q (o::rest) a w:=by
 refine qX hw hd hn hr (w1:=w.alloc (.map #[] 0)) (v:=.map (some w.heap.size)) ?_ λa Io=>k _ _ a (hF.alloc _) Io;unfold execOp;simp[ho,Instr.makeMap,newObj]
 rfl
theorem UH{zc:Array Value}(h:(P.info? et).bind (·.zero)=some (.agg zc)):(zeroValue et).run P w= .ok (.agg zc) w:=by
 cases hi:P.info? et with
 | none=>simp[hi]at h
 | some i =>
  simp[hi]at h;simp[zeroValue,typeInfo,hi,h]
theorem UI{x y:Operand}{v0:β}(hw:tL o ops a)(hd:o.dst=some d)(hn:Nat.blt d n=true)(hr:cK Df n (lk l j) a)(ho:o.op= .lookup t x y true)(hx:eM (lk l j) x= .map (some b))(q:α)(hy:eM (lk l j) y= .agg (ek q).toArray)
 (ht:P.underlying t=some (.map kt et)) (hk:KP P kt ek) (hz:(P.info? et).bind (·.zero)=some (.agg (ev v0).toArray)) (hF:Fit z (aB (mapOf ek ev b m::L)) w)
 (k:∀a,cK Df n (lk ((d,.tuple #[.agg (ev ((wV m q).getD v0)).toArray,.bool (wV m q).isSome])::l) j) a->wpList P ops Q rest a w):wpList P ops Q (o::rest) a w:=by
 refine qX hw hd hn hr (w1:=w) ?_ k;unfold execOp;have hb:(getObj b).run P w= .ok (.map (rB ek ev m 0).toArray m.length) w:=N8 hF.block;have hc:∀em,(Instr.checkKey em 10000 kt (.agg (ek q).toArray)).run P w= .ok () w:=λem=>RY 9998 hk.hu (hk.hf q q);have ZV:=UH (P:=P) (w:=w) hz;rcases Iv (P:=P) (w:=w) (ev:=ev) hk q m with ⟨e,h⟩ | ⟨v,i,e,h⟩
 ·simp[ho,hx,hy,Instr.lookup,run_underlying ht,hb,hc,h,e,ZV]
 ·simp[ho,hx,hy,Instr.lookup,run_underlying ht,hb,hc,h,e]
theorem Iw(p:α×β):∀(m:List (α×β)) (k:Nat),rB ek ev (m++[p]) k=rB ek ev m k++[{key:=.agg (ek p.1).toArray,val:=.agg (ev p.2).toArray,born:=k+m.length}]
 | [],k=>rfl
 | q::m,k=>by
  have ih:=Iw p m (k+1);show _::rB ek ev (m++[p]) (k+1)=_::(rB ek ev m (k+1)++_);rw[ih]
  congr 3
  simp;omega
theorem On{o o':Obj}(h:Fit w0 (aB (pts b o::L)) w):Fit w0 (aB (pts b o'::L)) {w with heap:=w.heap.setIfInBounds b o' }:=by
 refine h.turn ?_ (λk hk hlt => ?_) rfl rfl rfl (by simp)
 ·simp[h.lt]
 ·show(w.heap.setIfInBounds b o')[k]? = _;rw[Array.getElem?_setIfInBounds_ne I]
theorem R0{x y v:Operand}(hw:tL o ops a)(hd:o.dst=none)(hr:cK Df n (lk l j) a)(ho:o.op= .mapUpdate t x y v∨o.op= .insert t x y v)(hx:eM (lk l j) x= .map (some b))(q:α)(r:β)(hy:eM (lk l j) y= .agg (ek q).toArray)(hv:eM (lk l j) v= .agg (ev r).toArray)
 (ht:P.underlying t=some (.map kt et)) (hk:KP P kt ek) (hq:wV m q=none) (hF:Fit z (aB (mapOf ek ev b m::L)) w)
 (k:∀w,Fit z (aB (mapOf ek ev b (m++[(q,r)])::L)) w->wpList P ops Q rest a w):wpList P ops Q (o::rest) a w:=by
 have hb:(getObj b).run P w= .ok (.map (rB ek ev m 0).toArray m.length) w:=N8 hF.block;have hc:∀em,(Instr.checkKey em 10000 kt (.agg (ek q).toArray)).run P w= .ok () w:=λem=>RY 9998 hk.hu (hk.hf q q);have hrun:(Instr.mapUpdate t (.map (some b)) (.agg (ek q).toArray) (.agg (ev r).toArray)).run P w= .ok () {w with heap:=w.heap.setIfInBounds b (.map (rB ek ev (m++[(q,r)]) 0).toArray (m++[(q,r)]).length)}:=by
  rcases Iv (P:=P) (w:=w) (ev:=ev) hk q m with ⟨e,h⟩ | ⟨v,i,e,h⟩
  ·rw[Iw];have hs:∀o',(setObj b o').run P w= .ok () {w with heap:=w.heap.setIfInBounds b o' }:=λo'=>by simp[setObj,Sem.run,hF.block]
   simp[Instr.mapUpdate,run_underlying ht,hb,hc,h,hs]
  ·rw[e]at hq;cases hq
 refine vQ hw ?_;unfold Oper.wp;have h2:(execOp (eM (lk l j)) o).run P w= .ok .skip {w with heap:=w.heap.setIfInBounds b (.map (rB ek ev (m++[(q,r)]) 0).toArray (m++[(q,r)]).length)}:=by
  unfold execOp;rcases ho with ho | ho<;>simp[ho,hx,hy,hv,hrun]
 rw[hr.eval,h2,Oper.upon_skip,hd];exact k _ (On hF)
section
variable {ξ γ:Type}
noncomputable def u6(aH:ξ->γ->Option γ)(s0:γ)(l:List ξ):Option γ:=
 open Classical in if h :∃r,∀l':List ξ,l'.Perm l->l'.foldlM (λs x=>aH x s) s0=some r then some h.choose else none
theorem B5{aH:ξ->γ->Option γ}{s0 r:γ}{l l':List ξ}(h:u6 aH s0 l=some r)(p:l'.Perm l):l'.foldlM (λs x=>aH x s) s0=some r:=by
 unfold u6 at h;split at h
 ·rename_i hx;rw[<-Option.some.inj h];exact hx.choose_spec l' p
 ·cases h
theorem KR{aH:ξ->γ->Option γ}{s0 r:γ}{l:List ξ}(h:∀l':List ξ,l'.Perm l->l'.foldlM (λs x=>aH x s) s0=some r):u6 aH s0 l=some r:=by
 unfold u6;have hx :∃r,∀l':List ξ,l'.Perm l->l'.foldlM (λs x=>aH x s) s0=some r:=⟨r,h⟩;rw[dif_pos hx];have e:=hx.choose_spec l (List.Perm.refl l);rw[h l (List.Perm.refl l)]at e;rw[<-Option.some.inj e]
structure Seen(l:List ξ)(aH:ξ->γ->Option γ)(s0:γ)(seen:Array Nat)(s:γ):Prop where
 nd:seen.toList.Nodup
 lt:∀i∈seen.toList,i<l.length
 fold:(seen.toList.filterMap (λi=>l[i]?)).foldlM (λs x=>aH x s) s0=some s
theorem Seen.nil{l:List ξ}{aH:ξ->γ->Option γ}{s0:γ}:Seen l aH s0 #[] s0:=⟨by simp,by simp,rfl⟩
theorem Ix(l:List ξ):(List.range l.length).filterMap (λi=>l[i]?)=l:=by
 apply yh
 intro i;have h:∀(l:List ξ),(List.range l.length).filterMap (λi=>l[i]?)=l:=by
  intro l
  induction l with
  | nil=>rfl
  | cons x l ih =>
   rw[zS,List.range_succ_eq_map,List.filterMap_cons];simp only[List.getElem?_cons_zero,List.filterMap_map]
   congr 1
 rw[h]
theorem uF{n:Nat}{l:List Nat}(h:l.Nodup)(hlt:∀i∈l,i<n)(yt:∀i,i<n->i∈l):l.Perm (List.range n):=
 (List.perm_ext_iff_of_nodup h List.nodup_range).2 λi=>⟨λhi=>List.mem_range.2 (hlt i hi),λhi=>yt i (List.mem_range.1 hi)⟩
theorem Seen.done{l:List ξ}{aH:ξ->γ->Option γ}{s0 s r:γ}{seen:Array Nat}(h:Seen l aH s0 seen s)(H:u6 aH s0 l=some r)(yt:∀i,i<l.length->i∈seen.toList):s=r:=by
 have p:=(uF h.nd h.lt yt).filterMap (λi=>l[i]?);rw[Ix]at p;have e:=B5 H p;rw[h.fold]at e;exact Option.some.inj e
theorem Seen.push{l:List ξ}{aH:ξ->γ->Option γ}{s0 s r:γ}{seen:Array Nat}(h:Seen l aH s0 seen s)(H:u6 aH s0 l=some r){i:Nat}{x:ξ}(hx:l[i]? = some x)(hi:i∉seen.toList) :∃s',aH x s=some s'/\Seen l aH s0 (seen.push i) s':=by
 have EL:i<l.length:=(List.getElem?_eq_some_iff.1 hx).1;have hnd:(seen.toList++[i]).Nodup:=by
  rw[List.nodup_append];exact⟨h.nd,by simp,λa ha b hb=>by simp at hb;subst hb;intro e;subst e;exact hi ha⟩
 have hlt:∀k∈seen.toList++[i],k<l.length:=λk hk=>by
  rcases List.mem_append.1 hk with hk | hk
  ·exact h.lt k hk
  ·simp at hk;omega
 let rest:=(List.range l.length).filter (λk => !(seen.toList++[i]).contains k)
 have p:((seen.toList++[i])++rest).Perm (List.range l.length):=by
  refine uF ?_ ?_ ?_
  ·rw[List.nodup_append];refine⟨hnd,List.nodup_range.filter _,λa ha b hb => ?_⟩;intro e;subst e;have:=(List.mem_filter.1 hb).2;simp at this ha;rcases ha with ha | ha
   ·exact this.1 ha
   ·exact this.2 ha
  ·intro k hk;rcases List.mem_append.1 hk with hk | hk
   ·exact hlt k hk
   ·exact List.mem_range.1 (List.mem_filter.1 hk).1
  ·intro k hk;by_cases c:k∈seen.toList++[i]
   ·exact List.mem_append.2 (.inl c)
   ·refine List.mem_append.2 (.inr (List.mem_filter.2 ⟨List.mem_range.2 hk,?_⟩))
    simpa using c
 have p2:=p.filterMap (λi=>l[i]?);rw[Ix]at p2;have e:=B5 H p2;rw[List.filterMap_append,List.filterMap_append,List.foldlM_append,List.foldlM_append,h.fold]at e;have e1:List.filterMap (λi=>l[i]?) [i]=[x]:=by simp[hx]
 rw[e1]at e;cases hs:aH x s with
 | none=>simp[hs]at e
 | some s' =>
  refine⟨s',rfl,⟨by simpa using hnd,λk hk=>hlt k (by simpa using hk),?_⟩⟩;rw[Array.toList_push,List.filterMap_append,List.foldlM_append,h.fold,e1];simp[hs]
theorem Seen.size{l:List ξ}{aH:ξ->γ->Option γ}{s0 s:γ}{seen:Array Nat}(h:Seen l aH s0 seen s):seen.size<=l.length:=by
 have p:(seen.toList++(List.range l.length).filter (λk => !seen.toList.contains k)).Perm (List.range l.length):=by
  refine uF ?_ ?_ ?_
  ·rw[List.nodup_append];refine⟨h.nd,List.nodup_range.filter _,λa ha b hb => ?_⟩;intro e;subst e;have:=(List.mem_filter.1 hb).2;simp at this ha;exact this ha
  ·intro k hk;rcases List.mem_append.1 hk with hk | hk
   ·exact h.lt k hk
   ·exact List.mem_range.1 (List.mem_filter.1 hk).1
  ·intro k hk;by_cases c:k∈seen.toList
   ·exact List.mem_append.2 (.inl c)
   ·refine List.mem_append.2 (.inr (List.mem_filter.2 ⟨List.mem_range.2 hk,?_⟩))
    simpa using c
 have h1:=p.length_eq;simp at h1;omega
end
theorem MT{ξ γ:Type}{c:Code}(m:List ξ)(aH:ξ->γ->Option γ)(s0:γ)(afv:Array Nat->γ->Act->World->Prop)(h0:afv #[] s0 a w)
 (round:∀seen s a w,Seen m aH s0 seen s->afv seen s a w->c.wp P (Exit.then (λa w =>∃i s',Seen m aH s0 (seen.push i) s'/\afv (seen.push i) s' a w) Q) a w):(Code.loop c).wp P Q a w:=by
 refine dO (λx:Array Nat×γ=>m.length-x.1.size) (λx a w=>Seen m aH s0 x.1 x.2/\afv x.1 x.2 a w) (#[],s0) ⟨Seen.nil,h0⟩ ?_
 rintro ⟨seen,s⟩ a w ⟨hs,hI⟩
 refine Code.wp_mono (λe a w q => ?_) (round seen s a w hs hI);cases e with
 | normal =>
  obtain⟨i,s',h1,h2⟩:=q;refine⟨(seen.push i,s'),⟨h1,h2⟩,?_⟩;have:=h1.size;simp at this⊢;omega
 | _=>exact q
def F9(it b n:Nat)(seen:Array Nat):aZ:=pts it (.mapIter (some b) n seen n)
theorem R3{x:Operand}(hw:tL o ops a)(hd:o.dst=some d)(hn:Nat.blt d n=true)(hr:cK Df n (lk l j) a)(ho:o.op= .range t x)(hx:eM (lk l j) x= .map (some b))(ht:P.underlying t=some (.map kt et))
 (hF:Fit z (aB (mapOf ek ev b m::L)) w)
 (k:∀it w a,Fit z (aB (F9 it b m.length #[]::mapOf ek ev b m::L)) w->cK Df n (lk ((d,.pointer (some ⟨it,0,none⟩))::l) j) a->wpList P ops Q rest a w):wpList P ops Q (o::rest) a w:=by
 refine qX hw hd hn hr (w1:=w.alloc (.mapIter (some b) m.length #[] m.length)) (v:=.pointer (some ⟨w.heap.size,0,none⟩)) ?_ λa Io=>k _ _ a (hF.alloc _) Io;have h:=run_range_map (P:=P) w t kt et b (rB ek ev m 0).toArray m.length ht hF.block;unfold execOp;simp[ho,hx,h]
theorem CT(m:List (α×β))(k i:Nat):(rB ek ev m k)[i]? = (m[i]?).map λp=>{key:=.agg (ek p.1).toArray,val:=.agg (ev p.2).toArray,born:=k+i}:=by
 unfold rB;rw[List.getElem?_map,List.getElem?_zipIdx];cases m[i]? <;> rfl
theorem KS{m:List (α×β)}{x:MapEntry}(h:x∈rB ek ev m 0) :∃p,m[x.born]? = some p/\x={key:=.agg (ek p.1).toArray,val:=.agg (ev p.2).toArray,born:=x.born}:=by
 obtain⟨i,hi⟩:=List.getElem?_of_mem h;rw[CT]at hi;cases hm:m[i]? with
 | none=>simp[hm]at hi
 | some p =>
  simp[hm]at hi;subst hi;exact⟨p,hm,rfl⟩
theorem UJ{x:Operand}{it n0:Nat}{seen:Array Nat}(hw:tL o ops a)(hd:o.dst=some d)(hn:Nat.blt d n=true)(hr:cK Df n (lk l j) a)(ho:o.op= .next x false)(hx:eM (lk l j) x= .pointer (some ⟨it,0,none⟩))(GZ:n0=m.length)
 (hF:Fit z (aB (F9 it b n0 seen::mapOf ek ev b m::L)) w)
 (k0:(∀i,i<m.length->i∈seen.toList)->∀a,cK Df n (lk ((d,.tuple #[.bool false])::l) j) a->wpList P ops Q rest a w)
 (k1:∀i x w a,m[i]? = some x->i∉seen.toList->Fit z (aB (F9 it b n0 (seen.push i)::mapOf ek ev b m::L)) w->cK Df n (lk ((d,.tuple #[.bool true,.agg (ek x.1).toArray,.agg (ev x.2).toArray])::l) j) a->wpList P ops Q rest a w):wpList P ops Q (o::rest) a w:=by
 subst GZ;have hb1:(getObj it).run P w= .ok (.mapIter (some b) m.length seen m.length) w:=by simp[getObj,Sem.run,hF.block]
 have hb2:(getObj b).run P w= .ok (.map (rB ek ev m 0).toArray m.length) w:=N8 (hF.pick 1).block;have hold:∀x∈(rB ek ev m 0).toArray.toList,x.born<m.length:=λx hx=>by
  obtain⟨p,hp,_⟩:=KS (by simpa using hx);exact(List.getElem?_eq_some_iff.1 hp).1
 have aaI:=next_test_false seen (rB ek ev m 0).toArray m.length m.length hold (j5 _);have ac2:∀(w:World) o',w.heap[it]? = some (.mapIter (some b) m.length seen m.length)->(setObj it o').run P w= .ok () {w with heap:=w.heap.setIfInBounds it o' }:=λw o' h=>by simp[setObj,Sem.run,h]
 have hmem:∀x∈(Array.filter (λe => !seen.contains e.born) (rB ek ev m 0).toArray).toList,x.born<m.length:=λx hx=>hold x (by simp at hx⊢;exact hx.1);have hsrc:∀x∈(Array.filter (λe => !seen.contains e.born) (rB ek ev m 0).toArray).toList,∃p,m[x.born]? = some p/\x.born∉seen.toList/\x={key:=.agg (ek p.1).toArray,val:=.agg (ev p.2).toArray,born:=x.born}:=λx hx=>by
  simp at hx;obtain⟨p,h1,h2⟩:=KS hx.1;exact⟨p,h1,by simpa using hx.2,h2⟩
 have yt:(Array.filter (λe => !seen.contains e.born) (rB ek ev m 0).toArray).size=0->∀i,i<m.length->i∈seen.toList:=by
  intro h0 i hi;have h1:Array.filter (λe => !seen.contains e.born) (rB ek ev m 0).toArray=#[]:=Array.eq_empty_of_size_eq_zero h0;rw[Array.filter_eq_empty_iff]at h1;have h2:=h1 {key:=.agg (ek m[i].1).toArray,val:=.agg (ev m[i].2).toArray,born:=i} (by
   have:(rB ek ev m 0)[i]? = some {key:=.agg (ek m[i].1).toArray,val:=.agg (ev m[i].2).toArray,born:=i}:=by rw[CT,List.getElem?_eq_getElem hi];simp
   simpa using List.mem_of_getElem? this)
  simpa using h2
 have hrun:∀ty,(∃i x w1,m[i]? = some x/\i∉seen.toList/\Fit z (aB (F9 it b m.length (seen.push i)::mapOf ek ev b m::L)) w1/\(Instr.next (.pointer (some ⟨it,0,none⟩)) false ty).run P w= .ok (.tuple #[.bool true,.agg (ek x.1).toArray,.agg (ev x.2).toArray]) w1)∨
  ((∀i,i<m.length->i∈seen.toList)/\(Instr.next (.pointer (some ⟨it,0,none⟩)) false ty).run P w= .ok (.tuple #[.bool false]) w):=by
  intro ty;simp only[Instr.next,mV,hb1,hb2,mW,aaI,Ih,if_false];generalize Array.filter (λe => !seen.contains e.born) (rB ek ev m 0).toArray=K at hmem hsrc yt⊢;have e1:K.filter (λx=>decide (x.born<m.length))=K:=Array.filter_eq_self.2 (λx hx=>by simpa using hmem x (by simpa using hx));have e2:K.filter (λx=>decide (x.born>=m.length))=#[]:=by
   rw[Array.filter_eq_empty_iff];intro x hx;have:=hmem x (by simpa using hx);simp;omega
  simp only[e1,e2,Array.append_empty];by_cases h0:K.size=0
  ·right
   have h1:K=#[]:=Array.eq_empty_of_size_eq_zero h0;refine⟨yt h0,?_⟩;subst h1;simp[choose,Sem.run,Question.forced]
  ·left
   have hne:K.isEmpty=false:=by simp[Array.isEmpty,h0]
   simp only[hne,Ih,if_false,Array.empty_append,Array.size_map];have hch :∃(q:Nat) (w1:World),q<K.size/\(w1=w∨w1=w.drew)/\(choose (Question.mapNext K.size)).run P w= .ok q w1:=by
    by_cases hf:K.size<=1
    ·exact⟨0,w,I,.inl rfl,by simp[choose,Sem.run,Question.forced,hf]⟩
    ·exact⟨_,w.drew,Nat.mod_lt _ I,.inr rfl,by
      simp only[choose,Sem.run,Question.forced,Aj,hf,if_false,Question.cut]
      rfl⟩
   obtain⟨q,w1,hq,hw1,hrun⟩:=hch;obtain⟨p,hp1,hp2,hp3⟩:=hsrc K[q] (by simp);have hF1:Fit z (aB (F9 it b m.length seen::mapOf ek ev b m::L)) w1:=by
    rcases hw1 with rfl | rfl
    ·exact hF
    ·exact hF.drew
   refine⟨K[q].born,p,_,hp1,hp2,On (o':=.mapIter (some b) m.length (seen.push K[q].born) m.length) hF1,?_⟩;have hkey:K[q].key= .agg (ek p.1).toArray:=by rw[hp3]
   have hval:K[q].val= .agg (ev p.2).toArray:=by rw[hp3]
   simp only[hrun,Array.getElem?_map,Array.getElem?_eq_getElem hq,uw,mV,ac2 w1 _ hF1.block,mW,hkey,hval]
   rfl
 refine vQ hw ?_;unfold Oper.wp;rcases hrun o.type with ⟨i,y,w1,h1,h2,h3,h4⟩ | ⟨h1,h4⟩
 ·have h5:(execOp (eM (lk l j)) o).run P w= .ok (.value (.tuple #[.bool true,.agg (ek y.1).toArray,.agg (ev y.2).toArray])) w1:=by
   unfold execOp;simp[ho,hx,h4]
  rw[hr.eval,h5,Oper.upon_value,hd];exact k1 i y w1 _ h1 h2 h3 (hr.put d _ hn)
 ·have h5:(execOp (eM (lk l j)) o).run P w= .ok (.value (.tuple #[.bool false])) w:=by
   unfold execOp;simp[ho,hx,h4]
  rw[hr.eval,h5,Oper.upon_value,hd];exact k0 h1 _ (hr.put d _ hn)
theorem R4{x:Operand}{it n0 i:Nat}{seen:Array Nat}{p:α×β}(hw:tL o ops a)(hd:o.dst=some d)(hn:Nat.blt d n=true)(hr:cK Df n (lk l j) a)(ho:o.op= .entry x)(hx:eM (lk l j) x= .pointer (some ⟨it,0,none⟩))(GZ:n0=m.length)
 (hF:Fit z (aB (F9 it b n0 (seen.push i)::mapOf ek ev b m::L)) w) (hp:m[i]? = some p)
 (k:∀a,cK Df n (lk ((d,.tuple #[.agg (ek p.1).toArray,.agg (ev p.2).toArray])::l) j) a->wpList P ops Q rest a w):wpList P ops Q (o::rest) a w:=by
 subst GZ;have hb1:(getObj it).run P w= .ok (.mapIter (some b) m.length (seen.push i) m.length) w:=by simp[getObj,Sem.run,hF.block]
 have hb2:(getObj b).run P w= .ok (.map (rB ek ev m 0).toArray m.length) w:=N8 (hF.pick 1).block;have hf:(rB ek ev m 0).toArray.find? (·.born==i)=some {key:=.agg (ek p.1).toArray,val:=.agg (ev p.2).toArray,born:=i}:=by
  rw[<-Array.find?_toList,Ic];have hmem:{key:=.agg (ek p.1).toArray,val:=.agg (ev p.2).toArray,born:=i}∈rB ek ev m 0:=List.mem_of_getElem? (i:=i) (by rw[CT,hp];simp);have hnd:((rB ek ev m 0).map (·.born)).Nodup:=by
   have e:(rB ek ev m 0).map (·.born)=List.range m.length:=by
    apply yh
    intro k;rw[List.getElem?_map,CT];by_cases c:k<m.length
    ·simp[List.getElem?_eq_getElem c,List.getElem?_range c]
    ·rw[List.getElem?_eq_none I,List.getElem?_eq_none (by simpa using c)];rfl
   rw[e];exact List.nodup_range
  exact find_born _ _ hnd hmem
 refine qX hw hd hn hr (w1:=w) ?_ k;unfold execOp;have h:(Instr.entry (.pointer (some ⟨it,0,none⟩))).run P w= .ok (.tuple #[.agg (ek p.1).toArray,.agg (ev p.2).toArray]) w:=by
  simp only[Instr.entry,mV,hb1,hb2,mW,Array.back?_push,bne_self_eq_false,Ih,if_false,hf]
  rfl
 simp[ho,hx,h]
end
open Go Go.RowKit SL Go.MuLone Go.Conc.Locks
section
variable {P:Program}{ops:Array Oper}{Q:Exit->Act->World->Prop}{a:Act}{w w0 w1 z:World}{rest:List Oper}{o:Oper}{n d t:Nat}{v r u:Value}{l:List (Nat×Value)}{j e:Nat->Value}{L:List aZ}{Df:List Deferred}{f:FuncId}{args:Array Value}
theorem R5{q:Deferred}(hw:tL o ops a)(hd:o.dst=none)(hr:cK Df n (lk l j) a)(hrun:(execOp (eM (lk l j)) o).run P w= .ok (.defer q) w)
 (k:∀a,cK (q::Df) n (lk l j) a->wpList P ops Q rest a w):wpList P ops Q (o::rest) a w:=by
 refine vQ hw ?_;unfold Oper.wp;rw[hr.eval,hrun,Oper.upon_defer,hd];exact k _ ⟨hr.size,hr.get,by show _::a.defers=_;rw[hr.defers]⟩
theorem Xw{fn:Func}{c:Code}{R:Ending->World->Prop}(hf:P.funcs[f]? = some fn)(hb:fn.body=some c)(n:Nat)(hn:fn.ntmps=n)(hs:Nat.ble args.size n=true)
 (l:List (Nat×Value)) (hl:allEq (λt=>args.getD t undef) l) (k:∀j a,kI n (lk l j) a->c.wp P (bodyPostD P fn R) a w):Calls P f args w R:=by
 refine calls_of_wp_defers hf hb (k (λt=>args.getD t undef) _ ?_);rw[u4 hl];refine⟨?_,λt=>FP args _ t,rfl⟩;have:=oH hs;simp[hn];omega
end
open Go Go.RowKit SL
section
variable {P:Program}{w w0 w1 z:World}{a:Act}{o:Oper}{n d:Nat}{l:List (Nat×Value)}{j:Nat->Value}{L:List aZ}{f:FuncId}{args:Array Value}{Q:Exit->Act->List Frame->World->Prop}{cs cs':List Frame}{Df:List Deferred}
theorem R6{fn:Func}{c:Code}{u:FrameMode}{R:Ending->FrameMode->World->Prop}(hf:P.funcs[f]? = some fn)(hb:fn.body=some c)(n:Nat)(hn:fn.ntmps=n)(hs:Nat.ble args.size n=true)
 (l:List (Nat×Value)) (hl:allEq (λt=>args.getD t undef) l) (k:∀(c0:Frame) (cs:List Frame) j a,c0.mode=u->kI n (lk l j) a->c.wpS P (bodyPostS P fn c0 cs R) a (c0::cs) w):CallsD P f args u w R:=by
 refine callsD_of_wpS hf hb λc0 cs hu=>k c0 cs (λt=>args.getD t undef) _ hu ?_;rw[u4 hl];refine⟨?_,λt=>FP args _ t,rfl⟩;have:=oH hs;simp[hn];omega
theorem KT(hg:o.guard=none)(y:Nat->Option Bool):Region.wanted o y=true:=by simp[Region.wanted,hg]
theorem Wm{RF:Nat}{y:Code}{v:Value}(hr:cK Df n (lk l j) a)(hv:recoverD cs=some (v,cs')∨recoverD cs=none/\v= .nilIface/\cs'=cs)(k:∀a,cK Df n (lk ((d,v)::l) j) a->y.wpS P Q a cs' w)
 (hg:o.guard=none) (hd:o.dst=some d) (hn:Nat.blt d n=true) (hrun:(execOp (eM (lk l j)) o).run P w= .ok .recover w):(Code.seq (.region RF #[o] false) y).wpS P Q a cs w:=by
 refine wpS_seq (wpS_region ?_);have e:(List.range (#[o]:Array Oper).size)=[0]:=rfl;rw[e];simp only[wpOpsS,List.getElem?_toArray,List.getElem?_cons_zero];rw[KT hg,aP rfl,hr.eval,hrun];simp only;rcases hv with h | ⟨h,rfl,rfl⟩
 ·rw[h];simp only;rw[hd];exact k _ (hr.put d v hn)
 ·rw[h];simp only;rw[hd];exact k _ (hr.put d _ hn)
end
theorem UK{z w:World}{L:List aZ}{b:Nat}{x y k x0 y0 k0:Int}(h:Fit z (aB (pts b (.cells #[Z x0,Z y0,Z k0] 95)::L)) w) :
 CallsD Tryz.prog 113 #[.pointer (some ⟨b,0,none⟩)] (.panicking [{v:=.iface 194 (.agg #[Z x,Z y,Z k]),recovered:=false}]) w λe u' w'=>e= .returned (.tuple #[])/\u'= .panicking [{v:=.iface 194 (.agg #[Z x,Z y,Z k]),recovered:=true}]/\Fit z (aB (pts b (.cells #[Z x,Z y,Z k] 95)::L)) w':=by
 refine R6 func113 rfl 12 rfl rfl [(0,pA b 0)] ⟨rfl,cz⟩ ?_;intro c0 cs j a hm hr;refine Wm (v:=.iface 194 (.agg #[Z x,Z y,Z k])) (cs':={c0 with mode:=.panicking [{v:=.iface 194 (.agg #[Z x,Z y,Z k]),recovered:=true}]}::cs) hr (.inl (by simp[recoverD,hm])) ?_ rfl rfl rfl bp;clear hr a;intro a hr;refine wpS_of_wp ?_;refine wp_block ?_;refine sr ?_;refine o1 hr (vB false) λa hr => ?_;refine ln ?_;refine iO hr (b:=false) rfl ?_;refine sr ?_;refine oo [7,8,9] [.tuple #[.agg #[Z x,Z y,Z k],vB true],vB true,.agg #[Z x,Z y,Z k]] hr λa hr => ?_;refine ln ?_;refine fV hr (b:=true) rfl ?_;refine sr ?_;refine Xs (wn rfl) hr h nb (#[Z 0,Z 0,Z 0]) 194 λb2 w a h hr => ?_;refine Uy (wn rfl) hr h 0 ([Z x,Z y,Z k]) (pts b2 (.cells #[Z x,Z y,Z k] 194)) λw h => ?_;refine ln ?_;refine wp_region_lit ?_;refine o1 hr (pA b2 0) λa hr => ?_;refine ldm (wn rfl) hr (.agg #[Z x,Z y,Z k]) (cs:=[Z x,Z y,Z k]) (h.held 0 rfl) λa hr => ?_;replace h:=h.m1;refine Uy (wn rfl) hr h 0 ([Z x,Z y,Z k]) (pts b (.cells #[Z x,Z y,Z k] 95)) λw h => ?_;refine wpList_nil ?_;refine FM ?_;exact⟨hr.defers,_,rfl,_,results_none rfl _ _ _,rfl,rfl,h.se 2 [0]⟩
theorem UL{w:World}{b:Nat} :
 CallsD Tryz.prog 113 #[.pointer (some ⟨b,0,none⟩)] .returning w λe u' w'=>e= .returned (.tuple #[])/\u'= .returning/\w'=w:=by
 refine R6 func113 rfl 12 rfl rfl [(0,pA b 0)] ⟨rfl,cz⟩ ?_;intro c0 cs j a hm hr;refine Wm (v:=.nilIface) (cs':=c0::cs) hr (.inr ⟨by simp[recoverD,hm],rfl,rfl⟩) ?_ rfl rfl rfl bp;clear hr a;intro a hr;refine wpS_of_wp ?_;refine wp_block ?_;refine sr ?_;refine o1 hr (vB true) λa hr => ?_;refine ln ?_;refine fV hr (b:=true) rfl ?_;refine wp_region_lit ?_;refine o1 hr (.nilIface) λa hr => ?_;refine wpList_nil ?_;refine FM ?_;refine⟨hr.defers,c0.mode,rfl,_,results_none rfl _ _ _,rfl,hm,rfl⟩
section
variable {P:Program}{w z:World}{a:Act}{n:Nat}{e:Nat->Value}{Df:List Deferred}{L:List aZ}
theorem aaJ{fn:Func}{t T b off:Nat}{cs:List Value}(hres:fn.results=#[.cell t T])(hr:cK Df n e a)(hv:e t= .pointer (some ⟨b,off,none⟩))(hu:tQ (P.underlying T)=true)
 (hs:(P.info? T).map (·.size)=some cs.length) (hc:qJ w b off cs):(results fn a.tmps).run P w= .ok (.agg cs.toArray) w:=by
 have hl:=run_loadCells_list (P:=P) w ⟨b,off,none⟩ cs (v5 hc);cases hi:P.info? T with
 | none=>simp[hi]at hs
 | some q =>
  simp[hi]at hs;have hg:=hr.get t;rw[hv,w8]at hg;simp[results,hres,hg,asAddr,loadVar,uR hu,sizeOf,typeInfo,hi,hs,hl]
abbrev KU(b:Nat):Deferred:={target:=.fn (.func 113) #[.pointer (some ⟨b,0,none⟩)],args:=#[]}
theorem Oo{b:Nat}{w:World}:(invoke (.fn (.func 113) #[.pointer (some ⟨b,0,none⟩)]) #[]).run Tryz.prog w= .ok (.enter 113 #[.pointer (some ⟨b,0,none⟩)]) w:=by kernel_rfl
theorem yV{fn:Func}{R:Ending->World->Prop}{b t:Nat}{x y k:Int}(hr:cK [KU b] n e a)(hres:fn.results=#[.cell t 95])(hv:e t= .pointer (some ⟨b,0,none⟩))(h:Fit z (aB (pts b (.cells #[Z x,Z y,Z k] 95)::L)) w)
 (K:R (.returned (.agg #[Z x,Z y,Z k])) w):bodyPostD Tryz.prog fn R .ret a w:=by
 show Leaves Tryz.prog fn a.tmps R a.defers .returning w;rw[hr.defers];refine leaves_cons (by simp) Oo ?_;refine UL.mono ?_
 rintro e u' w' ⟨rfl,rfl,rfl⟩
 exact⟨_,aaJ hres hr hv bp bp (h.held 0 (xs:=[Z x,Z y,Z k]) rfl),K⟩
theorem Ga{fn:Func}{R:Ending->World->Prop}{b t:Nat}{x y k x0 y0 k0:Int}(hr:cK [KU b] n e a)(hres:fn.results=#[.cell t 95])(hv:e t= .pointer (some ⟨b,0,none⟩))(h:Fit z (aB (pts b (.cells #[Z x0,Z y0,Z k0] 95)::L)) w)
 (K:∀w,Fit z (aB (pts b (.cells #[Z x,Z y,Z k] 95)::L)) w->R (.returned (.agg #[Z x,Z y,Z k])) w):bodyPostD Tryz.prog fn R (.panic [{v:=.iface 194 (.agg #[Z x,Z y,Z k]),recovered:=false}]) a w:=by
 show Leaves Tryz.prog fn a.tmps R a.defers (.panicking [{v:=.iface 194 (.agg #[Z x,Z y,Z k]),recovered:=false}]) w;rw[hr.defers];refine leaves_cons (by simp) Oo ?_;refine(UK h).mono ?_
 rintro e u' w' ⟨rfl,rfl,h⟩
 exact⟨_,aaJ hres hr hv bp bp (h.held 0 (xs:=[Z x,Z y,Z k]) rfl),K _ h⟩
end
def dn(o:Oper):Nat:=o.dst.getD 0
def Cj(o:Oper)(n:Nat):Bool:=match o.dst with | some d=>o.guard.isNone&&Nat.blt d n | none=>false
def Zy(o:Oper)(n:Nat):Bool:=match o.dst with | some d=>Nat.blt d n | none=>false
theorem Oq{o:Oper}{n:Nat}(h:Zy o n=true):o.dst=some (dn o)/\Nat.blt (dn o) n=true:=by
 unfold Zy at h;unfold dn;cases hd:o.dst with
 | none=>rw[hd]at h;cases h
 | some d=>rw[hd]at h;exact⟨rfl,h⟩
theorem jc{o:Oper}{n:Nat}(h:Cj o n=true):(o.dst=some (dn o)/\Nat.blt (dn o) n=true)/\o.guard=none:=by
 unfold Cj at h;unfold dn;cases hd:o.dst with
 | none=>rw[hd]at h;cases h
 | some d =>
  rw[hd]at h;simp only[lP]at h;refine⟨⟨rfl,h.2⟩,?_⟩;cases hg:o.guard with
  | none=>rfl
  | some g=>rw[hg]at h;simp at h
def UM:Nat->List Value->List (Nat×Value)
 | _,[]=>[]
 | k,v::vs=>(k,v)::UM (k+1) vs
theorem Ot(f:Nat->Value):∀(vs:List Value) (k:Nat),(∀i,i<vs.length->f (k+i)=vs.getD i undef)->allEq f (UM k vs)
 | [],_,_=>trivial
 | v::vs,k,h=>⟨by have:=h 0 (by simp);simpa using this,Ot f vs (k+1) λi hi=>by
  have:=h (i+1) (by simpa using hi);rw[show k+(i+1)=k+1+i by omega]at this
  simpa using this⟩
section
variable {P:Program}{ops:Array Oper}{Q:Exit->Act->World->Prop}{a:Act}{w w0 w1:World}{rest:List Oper}{o:Oper}{n d t T:Nat}{v u:Value}{l:List (Nat×Value)}{j e:Nat->Value}{L:List aZ}{Df:List Deferred}
theorem qe{f:FuncId}{fn:Func}{c:Code}{args:Array Value}{R:Ending->World->Prop}(hf:P.funcs[f]? = some fn)(n:Nat)(hb:fn.body=some c)
 (k:∀j a,kI n (lk (UM 0 args.toList) j) a->c.wp P (bodyPost P fn R) a w) (hn:fn.ntmps=n:=by rfl) (hs:Nat.ble args.size n=true:=by rfl):Calls P f args w R:=
 enter hf hb n hn hs _ (Ot _ _ 0 λi hi=>by simp[w8,List.getD_eq_getElem?_getD]) k
theorem qo(hr:cK Df n (lk l j) a)(v:Value)(k:∀a,cK Df n (lk ((dn o,v)::l) j) a->wpList P ops Q rest a w)(ho:Cj o n=true:=by rfl)(hrun:(execOp (eM (lk l j)) o).run P w= .ok (.value v) w:=by kernel_rfl):wpList P ops Q (o::rest) a w:=
 yR (wn (jc ho).2) (jc ho).1.1 (jc ho).1.2 hr hrun k
theorem qp(hr:cK Df n (lk l j) a)(v:Value)(hrun:(execOp (eM (lk l j)) o).run P w= .ok (.value v) w)(k:∀a,cK Df n (lk ((dn o,v)::l) j) a->wpList P ops Q rest a w)(ho:Cj o n=true:=by rfl):wpList P ops Q (o::rest) a w:=
 yR (wn (jc ho).2) (jc ho).1.1 (jc ho).1.2 hr hrun k
theorem qpg(hw:tL o ops a)(hr:cK Df n (lk l j) a)(v:Value)(hrun:(execOp (eM (lk l j)) o).run P w= .ok (.value v) w)(k:∀a,cK Df n (lk ((dn o,v)::l) j) a->wpList P ops Q rest a w)(ho:Zy o n=true:=by rfl):wpList P ops Q (o::rest) a w:=
 yR hw (Oq ho).1 (Oq ho).2 hr hrun k
theorem qT{b:Bool}{c x y:Operand}(hb:b=true)(hr:cK Df n (lk l j) a)(v:Value)(k:∀a,cK Df n (lk ((dn o,v)::l) j) a->wpList P ops Q rest a w)(ho:Cj o n=true:=by rfl)(h1:o.op= .pick c x y:=by rfl)(h2:eM (lk l j) c= .bool b:=by kernel_rfl)(h3:eM (lk l j) x=v:=by kernel_rfl):wpList P ops Q (o::rest) a w:=
 qp hr v (G7 h1 h2 hb h3) k ho
theorem qF{b:Bool}{c x y:Operand}(hb:b=false)(hr:cK Df n (lk l j) a)(v:Value)(k:∀a,cK Df n (lk ((dn o,v)::l) j) a->wpList P ops Q rest a w)(ho:Cj o n=true:=by rfl)(h1:o.op= .pick c x y:=by rfl)(h2:eM (lk l j) c= .bool b:=by kernel_rfl)(h3:eM (lk l j) y=v:=by kernel_rfl):wpList P ops Q (o::rest) a w:=
 qp hr v (I1 h1 h2 hb h3) k ho
theorem getD_some{cs:Array Value}{i:Nat}(h:Nat.blt i cs.size=true):cs[i]? = some (cs.getD i undef):=by
 have h':i<cs.size:=oH h;simp[w8,h']
theorem qL{b:Nat}{cs:Array Value}{T':TypeId}{q:Nat×Nat}{x:Operand}(hr:cK Df n (lk l j) a)(hF:Fit w0 (aB (pts b (.cells cs T' q)::L)) w)(i:Nat)(k:∀a,cK Df n (lk ((dn o,cs.getD i undef)::l) j) a->wpList P ops Q rest a w)
 (h1:Cj o n=true:=by rfl) (hi:Nat.blt i cs.size=true:=by rfl) (ho:o.op= .load T x:=by rfl) (hx:eM (lk l j) x= .pointer (some ⟨b,i,none⟩):=by kernel_rfl) (hu:wu (P.underlying T)=true:=by kernel_rfl):wpList P ops Q (o::rest) a w:=
 qp hr _ (rl ho hx hu (hF.cell i (getD_some hi))) k h1
theorem qLg{b:Nat}{cs:Array Value}{T':TypeId}{q:Nat×Nat}{x:Operand}(hw:tL o ops a)(hr:cK Df n (lk l j) a)(hF:Fit w0 (aB (pts b (.cells cs T' q)::L)) w)(i:Nat)(k:∀a,cK Df n (lk ((dn o,cs.getD i undef)::l) j) a->wpList P ops Q rest a w)
 (h1:Zy o n=true:=by rfl) (hi:Nat.blt i cs.size=true:=by rfl) (ho:o.op= .load T x:=by rfl) (hx:eM (lk l j) x= .pointer (some ⟨b,i,none⟩):=by kernel_rfl) (hu:wu (P.underlying T)=true:=by kernel_rfl):wpList P ops Q (o::rest) a w:=
 qpg hw hr _ (rl ho hx hu (hF.cell i (getD_some hi))) k h1
theorem KV{cs:Array Value}:(cs.toList.drop 0).take cs.toList.length=cs.toList:=by rw[mY];exact List.take_length
theorem qM{b:Nat}{cs:Array Value}{T':TypeId}{q:Nat×Nat}{x:Operand}(hr:cK Df n (lk l j) a)(hF:Fit w0 (aB (pts b (.cells cs T' q)::L)) w)(k:∀a,cK Df n (lk ((dn o,.agg cs)::l) j) a->wpList P ops Q rest a w)
 (h1:Cj o n=true:=by rfl) (ho:o.op= .load T x:=by rfl) (hx:eM (lk l j) x= .pointer (some ⟨b,0,none⟩):=by kernel_rfl) (hu:tQ (P.underlying T)=true:=by kernel_rfl) (hs:(P.info? T).map (·.size)=some cs.size:=by kernel_rfl):wpList P ops Q (o::rest) a w:=
 qp hr _ (by have:=rlm (P:=P) (o:=o) (e:=lk l j) ho hx hu (by rw[tO];exact hs) (hF.held 0 KV);simpa using this) k h1
theorem qN(hr:cK Df n (lk l j) a)(hF:Fit w0 (aB L) w)(cs:Array Value)(T:TypeId)
 (k:∀b w1 a,Fit w0 (aB (pts b (.cells cs T)::L)) w1->cK Df n (lk ((dn o,pA b 0)::l) j) a->wpList P ops Q rest a w1) (h1:Cj o n=true:=by rfl) (hrun:(execOp (eM (lk l j)) o).run P w= .ok (.value (pA w.heap.size 0)) (w.alloc (.cells cs T)):=by kernel_rfl):wpList P ops Q (o::rest) a w:=
 MM (vf:=λb=>pA b 0) (wn (jc h1).2) (jc h1).1.1 (jc h1).1.2 hr hF hrun k
theorem qV(hr:cK Df n (lk l j) a)(hF:Fit w0 (aB L) w)(cs:Array Value)(T:TypeId)
 (k:∀b w1 a,Fit w0 (aB (pts b (.cells cs T)::L)) w1->cK Df n (lk ((dn o,.slice (some ⟨b,0,none⟩) 1 1)::l) j) a->wpList P ops Q rest a w1) (h1:Cj o n=true:=by rfl) (hrun:(execOp (eM (lk l j)) o).run P w= .ok (.value (.slice (some ⟨w.heap.size,0,none⟩) 1 1)) (w.alloc (.cells cs T)):=by kernel_rfl):wpList P ops Q (o::rest) a w:=
 MM (vf:=λb=>.slice (some ⟨b,0,none⟩) 1 1) (wn (jc h1).2) (jc h1).1.1 (jc h1).1.2 hr hF hrun k
theorem qS{x y:Operand}{b:Nat}{cs:Array Value}{T':TypeId}(hr:cK Df n (lk l j) a)(hF:Fit w0 (aB (pts b (.cells cs T')::L)) w)(i:Nat)(A:aZ)
 (k:∀w1,Fit w0 (aB (A::L)) w1->wpList P ops Q rest a w1) (hg:o.guard=none:=by rfl) (hd:o.dst=none:=by rfl) (ho:o.op= .store T x y:=by rfl) (hx:eM (lk l j) x= .pointer (some ⟨b,i,none⟩):=by kernel_rfl)
 (hv:(eM (lk l j) y).cells=#[eM (lk l j) y]:=by kernel_rfl) (h1:(eM (lk l j) y).oneCell'=true:=by kernel_rfl) (hs:(P.info? T).map (·.size)=some 1:=by kernel_rfl) (hc:(cs[i]?).isSome=true:=by kernel_rfl) (hA:pts b (.cells (cs.setIfInBounds i (eM (lk l j) y)) T')=A:=by kernel_rfl):wpList P ops Q (o::rest) a w:=
 st1 (wn hg) hr hF i _ A k hd ho hx rfl hv h1 hs hc hA
theorem qA{x y:Operand}{b:Nat}{cs cs':Array Value}{T':TypeId}(hr:cK Df n (lk l j) a)(hF:Fit w0 (aB (pts b (.cells cs T')::L)) w)(A:aZ)
 (k:∀w1,Fit w0 (aB (A::L)) w1->wpList P ops Q rest a w1) (hA:pts b (.cells cs' T')=A:=by rfl) (hg:o.guard=none:=by rfl) (hd:o.dst=none:=by rfl) (ho:o.op= .store T x y:=by rfl) (hx:eM (lk l j) x= .pointer (some ⟨b,0,none⟩):=by kernel_rfl) (hy:eM (lk l j) y= .agg cs':=by kernel_rfl)
 (h1:cs'.toList.all (·.oneCell')=true:=by rfl) (h2:cs'.size=cs.size:=by rfl) (hs:(P.info? T).map (·.size)=some cs'.size:=by kernel_rfl):wpList P ops Q (o::rest) a w:=by
 refine Uy (wn hg) hr hF 0 cs'.toList A k hd ho hx (by simpa using hy) h1 (by simp[h2]) (by simpa using hs) ?_;subst hA;have:cs.toList.drop (0+cs'.toList.length)=[]:=by simp[h2]
 rw[this];simp
theorem qi{x y:Operand}{i:Int}{α:Type}{E:TypeId}{sz m cc:Nat}{enc:α->List Value}{xs:List α}{ca:fO}(hr:cK Df n (lk l j) a)(hF:Fit w0 (aB (rowOf E sz enc (.slice ca m cc) xs::L)) w)(hi:bG i xs.length)
 (k:∀a,cK Df n (lk ((dn o,pA (dW ca) (i.toNat*sz))::l) j) a->wpList P ops Q rest a w) (h1:Cj o n=true:=by rfl) (ho:o.op= .indexAddr t x y:=by rfl) (hx:eM (lk l j) x= .slice ca m cc:=by kernel_rfl) (hy:eM (lk l j) y= .int .i64 i:=by kernel_rfl)
 (ht:P.underlying t=some (.slice E):=by kernel_rfl) (hs:(P.info? E).map (·.size)=some sz:=by kernel_rfl):wpList P ops Q (o::rest) a w:=qp hr _ (yT ho hx hy ht hs hF hi) k h1
theorem qj{x y:Operand}{i:Int}{α:Type}[Inhabited α]{sz:Nat}{enc:α->List Value}{xs:List α}{va:fO}{L:List aZ}(E:TypeId)(cc:Nat)(hr:cK Df n (lk l j) a)(hF:bE L sz enc va xs)(hi:bG i xs.length)
 (k:∀a,cK Df n (lk ((dn o,pA (dW va) (j6 va+i.toNat*sz))::l) j) a->wpList P ops Q rest a w) (h1:Cj o n=true:=by rfl) (ho:o.op= .indexAddr t x y:=by rfl) (hx:eM (lk l j) x= .slice va xs.length cc:=by kernel_rfl) (hy:eM (lk l j) y= .int .i64 i:=by kernel_rfl)
 (ht:P.underlying t=some (.slice E):=by kernel_rfl) (hs:(P.info? E).map (·.size)=some sz:=by kernel_rfl):wpList P ops Q (o::rest) a w:=qp hr _ (Wf ho hx hy rfl ht hs hF hi) k h1
section
variable {fn:Func}{R:Ending->World->Prop}
theorem qC{t T b:Nat}{cs:Array Value}{T':TypeId}{q:Nat×Nat}(hr:kI n e a)(hF:Fit w0 (aB (pts b (.cells cs T' q)::L)) w)(h:R (.returned (.agg cs)) w)(hres:fn.results=#[.cell t T]:=by rfl)(hv:e t= .pointer (some ⟨b,0,none⟩):=by kernel_rfl)(hu:tQ (P.underlying T)=true:=by kernel_rfl)
 (hs:(P.info? T).map (·.size)=some cs.size:=by kernel_rfl):bodyPost P fn R .ret a w:=
 Rx (cs:=cs.toList) hres hr hv hu (by simpa using hs) (hF.held 0 KV) (by simpa using h)
theorem qn(hr:kI n e a)(h:R (.returned (.tuple #[])) w)(hres:fn.results=#[]:=by rfl):bodyPost P fn R .normal a w:=p9 hres hr h
end
end
theorem nT{b:Bool}(h:b=true):(!b)=false:=by rw[h];rfl
theorem nF{b:Bool}(h:¬b=true):(!b)=true:=by cases b<;>first | rfl | exact absurd rfl h
theorem dT{p:Prop}[Decidable p](h:p):decide p=true:=tP h
theorem dF{p:Prop}[Decidable p](h:¬p):decide p=false:=Ij h
theorem bN{α:Type}[DecidableEq α]{a b:α}(h:¬a=b):(a==b)=false:=beq_eq_false_iff_ne.mpr h
section
variable {afu:Prop}
theorem qh{A:Prop}(x:A)(k:A->afu):afu:=k x
theorem qg{γ:Type}{p:Prop}[Decidable p]{x:Option γ}{r:γ}(h:(if p then x else none)=some r)(k:p->x=some r->afu):afu:=k (gd h).1 (gd h).2
theorem qI{γ:Type}{p:Prop}[Decidable p]{x y:Option γ}{r:γ}(h:(if p then x else y)=some r)(k1:p->x=some r->afu)(k2:¬p->y=some r->afu):afu:=by
 by_cases c:p
 ·exact k1 c (ifT c h)
 ·exact k2 c (ifF c h)
theorem Xx{γ:Type}{o:Option (Unit)}{f:Option γ}{r:γ}(h:MN o f=some r)(k:o=some ()->f=some r->afu):afu:=by
 obtain⟨e,h⟩:=bd0 h;exact k e h
theorem qd0{γ:Type}{o:Option (Unit)}{f:Option γ}{r:γ}(h:MN o f=some r)(k:∀o',o=some o'->kc0 o' f r->afu):afu:=by
 obtain⟨_,e,h⟩:=kd0 h;exact k _ e h
theorem gy{dG:Type}{γ:Type}{o:Option (dG)}{f:dG->Option γ}{r:γ}(h:eV o f=some r)(k:∀x0,o=some x0->f x0=some r->afu):afu:=by
 obtain⟨x0,e,h⟩:=bd1 h;exact k _ e h
theorem DM{dG:Type}{γ:Type}{o:Option (dG)}{f:dG->Option γ}{r:γ}(h:eV o f=some r)(k:∀o',o=some o'->Zk o' f r->afu):afu:=by
 obtain⟨_,e,h⟩:=kd1 h;exact k _ e h
theorem v7{dG eG:Type}{γ:Type}{o:Option (dG×eG)}{f:dG->eG->Option γ}{r:γ}(h:sQ o f=some r)(k:∀x0 x1,o=some (x0,x1)->f x0 x1=some r->afu):afu:=by
 obtain⟨x0,x1,e,h⟩:=bd2 h;exact k _ _ e h
theorem qd2{dG eG:Type}{γ:Type}{o:Option (dG×eG)}{f:dG->eG->Option γ}{r:γ}(h:sQ o f=some r)(k:∀o',o=some o'->Zl o' f r->afu):afu:=by
 obtain⟨_,e,h⟩:=kd2 h;exact k _ e h
theorem tG{dG eG fP:Type}{γ:Type}{o:Option (dG×eG×fP)}{f:dG->eG->fP->Option γ}{r:γ}(h:pL o f=some r)(k:∀x0 x1 x2,o=some (x0,x1,x2)->f x0 x1 x2=some r->afu):afu:=by
 obtain⟨x0,x1,x2,e,h⟩:=bd3 h;exact k _ _ _ e h
theorem qd3{dG eG fP:Type}{γ:Type}{o:Option (dG×eG×fP)}{f:dG->eG->fP->Option γ}{r:γ}(h:pL o f=some r)(k:∀o',o=some o'->Zm o' f r->afu):afu:=by
 obtain⟨_,e,h⟩:=kd3 h;exact k _ e h
theorem MU{dG eG fP gN:Type}{γ:Type}{o:Option (dG×eG×fP×gN)}{f:dG->eG->fP->gN->Option γ}{r:γ}(h:G0 o f=some r)(k:∀x0 x1 x2 x3,o=some (x0,x1,x2,x3)->f x0 x1 x2 x3=some r->afu):afu:=by
 obtain⟨x0,x1,x2,x3,e,h⟩:=bd4 h;exact k _ _ _ _ e h
theorem qb5{dG eG fP gN iA:Type}{γ:Type}{o:Option (dG×eG×fP×gN×iA)}{f:dG->eG->fP->gN->iA->Option γ}{r:γ}(h:ob5 o f=some r)(k:∀x0 x1 x2 x3 x4,o=some (x0,x1,x2,x3,x4)->f x0 x1 x2 x3 x4=some r->afu):afu:=by
 obtain⟨x0,x1,x2,x3,x4,e,h⟩:=bd5 h;exact k _ _ _ _ _ e h
end
abbrev KK(D:List Deferred)(n:Nat)(l:List (Nat×Value))(j:Nat->Value)(X:Act->World->Prop)(w:World):Prop:=∀a,cK D n (lk l j) a->X a w
abbrev U:Value:=.complex .f32 0 0
def Zw(v x:Value):Value:=match v with | .complex _ _ _=>x | v=>v
def av(P:Program)(o:Oper)(e:Nat->Value):Value:=match (execOp (eM e) o).run P default with | .ok (.value v) _=>v | _=>U
def adA(P:Program)(j:Nat->Value):List Oper->List Value->List (Nat×Value)->List (Nat×Value)
 | o::os,v::vs,l=>adA P j os vs ((dn o,Zw v (av P o (lk l j)))::l)
 | _,_,l=>l
def Xy(P:Program)(n:Nat)(j:Nat->Value)(w:World):List Oper->List Value->List (Nat×Value)->List (Bool×Result Next)
 | o::os,v::vs,l=>(Cj o n,(execOp (eM (lk l j)) o).run P w)::Xy P n j w os vs ((dn o,Zw v (av P o (lk l j)))::l)
 | [],_::_,_=>[(false,.ok .skip w)]
 | _,[],_=>[]
def Xz(P:Program)(j:Nat->Value)(w:World):List Oper->List Value->List (Nat×Value)->List (Bool×Result Next)
 | o::os,v::vs,l=>(true,.ok (.value (Zw v (av P o (lk l j)))) w)::Xz P j w os vs ((dn o,Zw v (av P o (lk l j)))::l)
 | [],_::_,_=>[(true,.ok .skip w)]
 | _,[],_=>[]
def gx(ops:Array Oper)(n:Nat)(e:Nat->Value)(o:Oper):Option (Bool×Option (Bool×Value)):=o.guard.map (λg=>(g.2,((ops[g.1]?).bind (·.dst)).map λt=>(Nat.blt t n,e t)))
section
variable {P:Program}{ops:Array Oper}{Q:Exit->Act->World->Prop}{a:Act}{w w0 w1:World}{rest:List Oper}{o:Oper}{n d t T:Nat}{v u:Value}{l:List (Nat×Value)}{j e:Nat->Value}{L:List aZ}{Df:List Deferred}{X:Act->World->Prop}
theorem qq(hr:cK Df n (lk l j) a)(k:KK Df n l j X w):X a w:=k a hr
theorem kwg{x c:Bool}(hr:cK Df n (lk l j) a)(pf:x=c)(hg:gx ops n (lk l j) o=some (c,some (true,.bool x))):Region.wanted o (yielded ops a.tmps)=true:=by
 rw[wgx (i:=0) hr pf hg];cases c<;>rfl
theorem ke{f:FuncId}{fn:Func}{c:Code}{args:Array Value}{R:Ending->World->Prop}(hf:P.funcs[f]? = some fn)(n:Nat)(hb:fn.body=some c)
 (k:∀j,KK [] n (UM 0 args.toList) j (c.wp P (bodyPost P fn R)) w) (hn:fn.ntmps=n:=by rfl) (hs:Nat.ble args.size n=true:=by rfl):Calls P f args w R:=qe hf n hb (λj a r=>k j a r) hn hs
theorem ks{RF:Nat}{y:Code}{os:List Oper}(h:KK Df n l j (wpList P os.toArray (Exit.then (y.wp P Q) Q) os) w):KK Df n l j ((Code.seq (.region RF os.toArray false) y).wp P Q) w:=λa r=>sr (h a r)
theorem G{K:Act->World->Prop}(h:KK Df n l j K w):KK Df n l j (wpList P ops (Exit.then K Q) []) w:=λa r=>ln (h a r)
theorem wq{x y:Code}(h:KK Df n l j (x.wp P (Exit.then (y.wp P Q) Q)) w):KK Df n l j ((Code.seq x y).wp P Q) w:=λa r=>wp_seq (h a r)
theorem wl{RF:Nat}{os:List Oper}(h:KK Df n l j (wpList P os.toArray Q os) w):KK Df n l j ((Code.region RF os.toArray false).wp P Q) w:=λa r=>wp_region_lit (h a r)
theorem wk(h:KK Df n l j (Q .normal) w):KK Df n l j (Code.skip.wp P Q) w:=λa r=>wp_skip (h a r)
theorem wr(h:KK Df n l j (Q .ret) w):KK Df n l j (Code.ret.wp P Q) w:=λa r=>wp_ret (h a r)
theorem wx{i:Nat}(h:KK Df n l j (Q (.exit i)) w):KK Df n l j ((Code.exit i).wp P Q) w:=λa r=>wp_exit (h a r)
theorem wb{i:Nat}{c:Code}(h:KK Df n l j (c.wp P (Exit.inBlock i Q)) w):KK Df n l j ((Code.block i c).wp P Q) w:=λa r=>wp_block (h a r)
theorem tn{K:Act->World->Prop}(h:KK Df n l j K w):KK Df n l j (Exit.then K Q .normal) w:=h
theorem tr{K:Act->World->Prop}(h:KK Df n l j (Q .ret) w):KK Df n l j (Exit.then K Q .ret) w:=h
theorem te{K:Act->World->Prop}{i:Nat}(h:KK Df n l j (Q (.exit i)) w):KK Df n l j (Exit.then K Q (.exit i)) w:=h
theorem bn{i:Nat}(h:KK Df n l j (Q .normal) w):KK Df n l j (Exit.inBlock i Q .normal) w:=h
theorem br{i:Nat}(h:KK Df n l j (Q .ret) w):KK Df n l j (Exit.inBlock i Q .ret) w:=h
theorem bh{i:Nat}(h:KK Df n l j (Q .normal) w):KK Df n l j (Exit.inBlock i Q (.exit i)) w:=λa r=>Rw (h a r)
theorem kl(h:KK Df n l j (Q .normal) w):KK Df n l j (wpList P ops Q []) w:=λa r=>wpList_nil (h a r)
theorem ko:∀(vs:List Value) {os:List Oper} {l:List (Nat×Value)} (k:KK Df n (adA P j os vs l) j (wpList P ops Q (os.drop vs.length)) w) (hrun:Xy P n j w os vs l=Xz P j w os vs l:=by kernel_rfl),KK Df n l j (wpList P ops Q os) w
 | [],os,l,k,_=>by cases os<;>exact k
 | v::vs,[],l,k,hrun=>by simp[Xy,Xz]at hrun
 | v::vs,o::os,l,k,hrun=>by
  simp only[Xy,Xz,List.cons.injEq,Prod.mk.injEq]at hrun;obtain⟨⟨h1,h2⟩,h3⟩:=hrun;exact λa hr=>qo hr _ (λa hr=>ko vs k h3 a hr) h1 h2
theorem kp(v:Value)(hrun:(execOp (eM (lk l j)) o).run P w= .ok (.value v) w)(k:KK Df n ((dn o,v)::l) j (wpList P ops Q rest) w)(ho:Cj o n=true:=by rfl):KK Df n l j (wpList P ops Q (o::rest)) w:=λa hr=>qp hr v hrun k ho
theorem nv{b:Bool}(hb:b=true)(v:Value)(k:KK Df n ((dn o,v)::l) j (wpList P ops Q rest) w){c x y:Operand}(ho:Cj o n=true:=by rfl)(h1:o.op= .pick c x y:=by rfl)(h2:eM (lk l j) c= .bool b:=by kernel_rfl)(h3:eM (lk l j) x=v:=by kernel_rfl):KK Df n l j (wpList P ops Q (o::rest)) w:=λa hr=>qT hb hr v k ho h1 h2 h3
theorem ny{b:Bool}(hb:b=false)(v:Value)(k:KK Df n ((dn o,v)::l) j (wpList P ops Q rest) w){c x y:Operand}(ho:Cj o n=true:=by rfl)(h1:o.op= .pick c x y:=by rfl)(h2:eM (lk l j) c= .bool b:=by kernel_rfl)(h3:eM (lk l j) y=v:=by kernel_rfl):KK Df n l j (wpList P ops Q (o::rest)) w:=λa hr=>qF hb hr v k ho h1 h2 h3
theorem kL{b:Nat}{cs:Array Value}{T':TypeId}{q:Nat×Nat}{x:Operand}(hF:Fit w0 (aB (pts b (.cells cs T' q)::L)) w)(i:Nat)(k:KK Df n ((dn o,cs.getD i undef)::l) j (wpList P ops Q rest) w)
 (h1:Cj o n=true:=by rfl) (hi:Nat.blt i cs.size=true:=by rfl) (ho:o.op= .load T x:=by rfl) (hx:eM (lk l j) x= .pointer (some ⟨b,i,none⟩):=by kernel_rfl) (hu:wu (P.underlying T)=true:=by kernel_rfl):KK Df n l j (wpList P ops Q (o::rest)) w:=λa hr=>qL hr hF i k h1 hi ho hx hu
theorem tc{c' x':Bool}{b:Nat}{cs:Array Value}{T':TypeId}{q:Nat×Nat}{x:Operand}(pf:x'=c')(hF:Fit w0 (aB (pts b (.cells cs T' q)::L)) w)(i:Nat)(k:KK Df n ((dn o,cs.getD i undef)::l) j (wpList P ops Q rest) w)
 (hg:gx ops n (lk l j) o=some (c',some (true,.bool x')):=by kernel_rfl) (h1:Zy o n=true:=by rfl) (hi:Nat.blt i cs.size=true:=by rfl) (ho:o.op= .load T x:=by rfl) (hx:eM (lk l j) x= .pointer (some ⟨b,i,none⟩):=by kernel_rfl) (hu:wu (P.underlying T)=true:=by kernel_rfl):KK Df n l j (wpList P ops Q (o::rest)) w:=λa hr=>qLg (kwg hr pf hg) hr hF i k h1 hi ho hx hu
theorem kM{b:Nat}{cs:Array Value}{T':TypeId}{q:Nat×Nat}{x:Operand}(hF:Fit w0 (aB (pts b (.cells cs T' q)::L)) w)(k:KK Df n ((dn o,.agg cs)::l) j (wpList P ops Q rest) w)
 (h1:Cj o n=true:=by rfl) (ho:o.op= .load T x:=by rfl) (hx:eM (lk l j) x= .pointer (some ⟨b,0,none⟩):=by kernel_rfl) (hu:tQ (P.underlying T)=true:=by kernel_rfl) (hs:(P.info? T).map (·.size)=some cs.size:=by kernel_rfl):KK Df n l j (wpList P ops Q (o::rest)) w:=λa hr=>qM hr hF k h1 ho hx hu hs
theorem kN(hF:Fit w0 (aB L) w)(cs:Array Value)(T:TypeId)
 (k:∀b w1,Fit w0 (aB (pts b (.cells cs T)::L)) w1->KK Df n ((dn o,pA b 0)::l) j (wpList P ops Q rest) w1) (h1:Cj o n=true:=by rfl) (hrun:(execOp (eM (lk l j)) o).run P w= .ok (.value (pA w.heap.size 0)) (w.alloc (.cells cs T)):=by kernel_rfl):KK Df n l j (wpList P ops Q (o::rest)) w:=λa hr=>qN hr hF cs T (λb w a h r=>k b w h a r) h1 hrun
theorem kV(hF:Fit w0 (aB L) w)(cs:Array Value)(T:TypeId)
 (k:∀b w1,Fit w0 (aB (pts b (.cells cs T)::L)) w1->KK Df n ((dn o,.slice (some ⟨b,0,none⟩) 1 1)::l) j (wpList P ops Q rest) w1) (h1:Cj o n=true:=by rfl) (hrun:(execOp (eM (lk l j)) o).run P w= .ok (.value (.slice (some ⟨w.heap.size,0,none⟩) 1 1)) (w.alloc (.cells cs T)):=by kernel_rfl):KK Df n l j (wpList P ops Q (o::rest)) w:=λa hr=>qV hr hF cs T (λb w a h r=>k b w h a r) h1 hrun
theorem kS{x y:Operand}{b:Nat}{cs:Array Value}{T':TypeId}(hF:Fit w0 (aB (pts b (.cells cs T')::L)) w)(i:Nat)(A:aZ)
 (k:∀w1,Fit w0 (aB (A::L)) w1->KK Df n l j (wpList P ops Q rest) w1) (hg:o.guard=none:=by rfl) (hd:o.dst=none:=by rfl) (ho:o.op= .store T x y:=by rfl) (hx:eM (lk l j) x= .pointer (some ⟨b,i,none⟩):=by kernel_rfl)
 (hv:(eM (lk l j) y).cells=#[eM (lk l j) y]:=by kernel_rfl) (h1:(eM (lk l j) y).oneCell'=true:=by kernel_rfl) (hs:(P.info? T).map (·.size)=some 1:=by kernel_rfl) (hc:(cs[i]?).isSome=true:=by kernel_rfl) (hA:pts b (.cells (cs.setIfInBounds i (eM (lk l j) y)) T')=A:=by kernel_rfl):KK Df n l j (wpList P ops Q (o::rest)) w:=λa hr=>qS hr hF i A (λw h=>k w h a hr) hg hd ho hx hv h1 hs hc hA
theorem kA{x y:Operand}{b:Nat}{cs cs':Array Value}{T':TypeId}(hF:Fit w0 (aB (pts b (.cells cs T')::L)) w)(A:aZ)
 (k:∀w1,Fit w0 (aB (A::L)) w1->KK Df n l j (wpList P ops Q rest) w1) (hA:pts b (.cells cs' T')=A:=by rfl) (hg:o.guard=none:=by rfl) (hd:o.dst=none:=by rfl) (ho:o.op= .store T x y:=by rfl) (hx:eM (lk l j) x= .pointer (some ⟨b,0,none⟩):=by kernel_rfl) (hy:eM (lk l j) y= .agg cs':=by kernel_rfl)
 (h1:cs'.toList.all (·.oneCell')=true:=by rfl) (h2:cs'.size=cs.size:=by rfl) (hs:(P.info? T).map (·.size)=some cs'.size:=by kernel_rfl):KK Df n l j (wpList P ops Q (o::rest)) w:=λa hr=>qA hr hF A (λw h=>k w h a hr) hA hg hd ho hx hy h1 h2 hs
theorem ki{x y:Operand}{i:Int}{α:Type}{E:TypeId}{sz m cc:Nat}{enc:α->List Value}{xs:List α}{ca:fO}(hF:Fit w0 (aB (rowOf E sz enc (.slice ca m cc) xs::L)) w)(hi:bG i xs.length)
 (k:KK Df n ((dn o,pA (dW ca) (i.toNat*sz))::l) j (wpList P ops Q rest) w) (h1:Cj o n=true:=by rfl) (ho:o.op= .indexAddr t x y:=by rfl) (hx:eM (lk l j) x= .slice ca m cc:=by kernel_rfl) (hy:eM (lk l j) y= .int .i64 i:=by kernel_rfl)
 (ht:P.underlying t=some (.slice E):=by kernel_rfl) (hs:(P.info? E).map (·.size)=some sz:=by kernel_rfl):KK Df n l j (wpList P ops Q (o::rest)) w:=λa hr=>qi hr hF hi k h1 ho hx hy ht hs
theorem kj{x y:Operand}{i:Int}{α:Type}[Inhabited α]{sz:Nat}{enc:α->List Value}{xs:List α}{va:fO}{L:List aZ}(E:TypeId)(cc:Nat)(hF:bE L sz enc va xs)(hi:bG i xs.length)
 (k:KK Df n ((dn o,pA (dW va) (j6 va+i.toNat*sz))::l) j (wpList P ops Q rest) w) (h1:Cj o n=true:=by rfl) (ho:o.op= .indexAddr t x y:=by rfl) (hx:eM (lk l j) x= .slice va xs.length cc:=by kernel_rfl) (hy:eM (lk l j) y= .int .i64 i:=by kernel_rfl)
 (ht:P.underlying t=some (.slice E):=by kernel_rfl) (hs:(P.info? E).map (·.size)=some sz:=by kernel_rfl):KK Df n l j (wpList P ops Q (o::rest)) w:=λa hr=>qj E cc hr hF hi k h1 ho hx hy ht hs
theorem cS{x c:Bool}(pf:x=c)(ds:List Nat)(vs:List Value){os:List Oper}(k:KK Df n (RC ds vs l) j (wpList P ops Q (os.drop ds.length)) w)
 (hl:ds.length=vs.length/\ds.all (λd=>Nat.blt d n)=true:=by exact⟨rfl,rfl⟩) (hrun:RJ P ops n (os.take ds.length) vs l j w=KM x c ds vs w:=by kernel_rfl):KK Df n l j (wpList P ops Q os) w:=λa hr=>onl pf ds vs hr k hl hrun
theorem bW{x c:Bool}(pf:x=c)(ds:List Nat){os:List Oper}(k:KK Df n (RL ds l) j (wpList P ops Q (os.drop ds.length)) w)
 (hl:ds.all (λd=>Nat.blt d n)=true:=by rfl) (hrun:I9 ops n (os.take ds.length) l j=CO (!c) (.bool x) ds:=by kernel_rfl):KK Df n l j (wpList P ops Q os) w:=λa hr=>aaF pf ds hr k hl hrun
theorem KW(b:Bool)(ds:List Nat){os:List Oper}(k:KK Df n (RL ds l) j (wpList P ops Q (os.drop ds.length)) w)
 (hl:ds.all (λd=>Nat.blt d n)=true:=by rfl) (hrun:I9 ops n (os.take ds.length) l j=CO b undef ds:=by kernel_rfl):KK Df n l j (wpList P ops Q os) w:=λa hr=>aaG b ds hr k hl hrun
section
variable {β:Type}{p:Prop}[Decidable p]{X afr r:Option β}{c:Operand}{x y:Code}
theorem eB(H:(if p then X else afr)=r)(k1:p->X=r->KK Df n l j (x.wp P Q) w)(k2:¬p->afr=r->KK Df n l j (y.wp P Q) w)(hc:eM (lk l j) c= .bool (decide p):=by kernel_rfl):KK Df n l j ((Code.cond c x y).wp P Q) w:=λa hr=>cD hr H (λc h=>k1 c h a hr) (λc h=>k2 c h a hr) hc
theorem qx(H:(if p then X else afr)=r)(k1:p->X=r->KK Df n l j (y.wp P Q) w)(k2:¬p->afr=r->KK Df n l j (x.wp P Q) w)(hc:eM (lk l j) c= .bool (!decide p):=by kernel_rfl):KK Df n l j ((Code.cond c x y).wp P Q) w:=λa hr=>cN hr H (λc h=>k1 c h a hr) (λc h=>k2 c h a hr) hc
theorem ED{b:Bool}(H:(if b=true then X else afr)=r)(k1:b=true->X=r->KK Df n l j (x.wp P Q) w)(k2:¬b=true->afr=r->KK Df n l j (y.wp P Q) w)(hc:eM (lk l j) c= .bool b:=by kernel_rfl):KK Df n l j ((Code.cond c x y).wp P Q) w:=λa hr=>cV hr H (λc h=>k1 c h a hr) (λc h=>k2 c h a hr) hc
theorem DN{b:Bool}(H:(if b=true then X else afr)=r)(k1:b=true->X=r->KK Df n l j (y.wp P Q) w)(k2:¬b=true->afr=r->KK Df n l j (x.wp P Q) w)(hc:eM (lk l j) c= .bool (!b):=by kernel_rfl):KK Df n l j ((Code.cond c x y).wp P Q) w:=λa hr=>cM hr H (λc h=>k1 c h a hr) (λc h=>k2 c h a hr) hc
end
section
variable {f:FuncId}{args:Array Value}{fn:Func}
theorem fD{V:Value}{afu:World->Prop}(hc:Calls P f args w λe w=>e= .returned V/\afu w)(k:∀w,afu w->KK Df n ((dn o,V)::l) j (wpList P ops Q rest) w)(h1:Cj o n=true:=by rfl)(hrun:(execOp (eM (lk l j)) o).run P w= .ok (.enter f args) w:=by kernel_rfl):KK Df n l j (wpList P ops Q (o::rest)) w:=λa hr =>
 s9 (wn (jc h1).2) (jc h1).1.1 (jc h1).1.2 hr hrun hc λe w h=>by obtain⟨rfl,h⟩:=h;exact⟨_,rfl,k w h⟩
theorem Zz{V:Value}{afu:World->Prop}{x c:Bool}(pf:x=c)(hc:Calls P f args w λe w=>e= .returned V/\afu w)(k:∀w,afu w->KK Df n ((dn o,V)::l) j (wpList P ops Q rest) w)(h1:Zy o n=true:=by rfl)(hg:gx ops n (lk l j) o=some (c,some (true,.bool x)):=by kernel_rfl)(hrun:(execOp (eM (lk l j)) o).run P w= .ok (.enter f args) w:=by kernel_rfl):KK Df n l j (wpList P ops Q (o::rest)) w:=λa hr =>
 s9 (kwg hr pf hg) (Oq h1).1 (Oq h1).2 hr hrun hc λe w h=>by obtain⟨rfl,h⟩:=h;exact⟨_,rfl,k w h⟩
theorem Ou{V:Value}{afu:World->Prop}(h:afu w)(hres:fn.results=#[]:=by rfl)(hv: .tuple #[]=V:=by kernel_rfl):KK [] n l j (bodyPost P fn (λe w=>e= .returned V/\afu w) .normal) w:=λa hr =>
 p9 hres hr ⟨by rw[hv],h⟩
theorem gR{V:Value}{afu:World->Prop}{t0:Nat}(h:afu w)(hres:fn.results=#[.tmp t0]:=by rfl)(hv:lk l j t0=V:=by kernel_rfl):KK [] n l j (bodyPost P fn (λe w=>e= .returned V/\afu w) .ret) w:=λa hr =>
 yn hres hr rfl ⟨by rw[hv],h⟩
theorem MV{V:Value}{afu:World->Prop}{t0 t1:Nat}(h:afu w)(hres:fn.results=#[.tmp t0,.tmp t1]:=by rfl)(hv: .tuple #[lk l j t0,lk l j t1]=V:=by kernel_rfl):KK [] n l j (bodyPost P fn (λe w=>e= .returned V/\afu w) .ret) w:=λa hr =>
 FQ hres hr rfl rfl ⟨by rw[hv],h⟩
theorem ZA{uG:Type}{V:uG->Value}{afu:uG->World->Prop}(hc:Calls P f args w λe w =>∃x0,e= .returned (V x0)/\afu x0 w)(k:∀x0 w,afu x0 w->KK Df n ((dn o,(V x0))::l) j (wpList P ops Q rest) w)(h1:Cj o n=true:=by rfl)(hrun:(execOp (eM (lk l j)) o).run P w= .ok (.enter f args) w:=by kernel_rfl):KK Df n l j (wpList P ops Q (o::rest)) w:=λa hr =>
 s9 (wn (jc h1).2) (jc h1).1.1 (jc h1).1.2 hr hrun hc λe w h=>by obtain⟨x0,rfl,h⟩:=h;exact⟨_,rfl,k _ w h⟩
theorem xy1{uG:Type}{V:uG->Value}{afu:uG->World->Prop}{t0:Nat}(x0:uG)(h:afu x0 w)(hres:fn.results=#[.tmp t0]:=by rfl)(hv:lk l j t0=V x0:=by kernel_rfl):KK [] n l j (bodyPost P fn (λe w =>∃x0,e= .returned (V x0)/\afu x0 w) .ret) w:=λa hr =>
 yn hres hr rfl ⟨x0,by rw[hv],h⟩
theorem Wn{uG v8:Type}{V:uG->v8->Value}{afu:uG->v8->World->Prop}(hc:Calls P f args w λe w =>∃x0,∃x1,e= .returned (V x0 x1)/\afu x0 x1 w)(k:∀x0 x1 w,afu x0 x1 w->KK Df n ((dn o,(V x0 x1))::l) j (wpList P ops Q rest) w)(h1:Cj o n=true:=by rfl)(hrun:(execOp (eM (lk l j)) o).run P w= .ok (.enter f args) w:=by kernel_rfl):KK Df n l j (wpList P ops Q (o::rest)) w:=λa hr =>
 s9 (wn (jc h1).2) (jc h1).1.1 (jc h1).1.2 hr hrun hc λe w h=>by obtain⟨x0,x1,rfl,h⟩:=h;exact⟨_,rfl,k _ _ w h⟩
theorem ZB{uG v8:Type}{V:uG->v8->Value}{afu:uG->v8->World->Prop}{t0:Nat}(x0:uG)(x1:v8)(h:afu x0 x1 w)(hres:fn.results=#[.tmp t0]:=by rfl)(hv:lk l j t0=V x0 x1:=by kernel_rfl):KK [] n l j (bodyPost P fn (λe w =>∃x0,∃x1,e= .returned (V x0 x1)/\afu x0 x1 w) .ret) w:=λa hr =>
 yn hres hr rfl ⟨x0,x1,by rw[hv],h⟩
theorem xw2{uG v8:Type}{V:uG->v8->Value}{afu:uG->v8->World->Prop}{t0 t1 t2:Nat}(x0:uG)(x1:v8)(h:afu x0 x1 w)(hres:fn.results=#[.tmp t0,.tmp t1,.tmp t2]:=by rfl)(hv: .tuple #[lk l j t0,lk l j t1,lk l j t2]=V x0 x1:=by kernel_rfl):KK [] n l j (bodyPost P fn (λe w =>∃x0,∃x1,e= .returned (V x0 x1)/\afu x0 x1 w) .ret) w:=λa hr =>
 FW hres hr rfl rfl rfl ⟨x0,x1,by rw[hv],h⟩
theorem xc3{uG v8 zT:Type}{V:uG->v8->zT->Value}{afu:uG->v8->zT->World->Prop}(hc:Calls P f args w λe w =>∃x0,∃x1,∃x2,e= .returned (V x0 x1 x2)/\afu x0 x1 x2 w)(k:∀x0 x1 x2 w,afu x0 x1 x2 w->KK Df n ((dn o,(V x0 x1 x2))::l) j (wpList P ops Q rest) w)(h1:Cj o n=true:=by rfl)(hrun:(execOp (eM (lk l j)) o).run P w= .ok (.enter f args) w:=by kernel_rfl):KK Df n l j (wpList P ops Q (o::rest)) w:=λa hr =>
 s9 (wn (jc h1).2) (jc h1).1.1 (jc h1).1.2 hr hrun hc λe w h=>by obtain⟨x0,x1,x2,rfl,h⟩:=h;exact⟨_,rfl,k _ _ _ w h⟩
theorem xw3{uG v8 zT:Type}{V:uG->v8->zT->Value}{afu:uG->v8->zT->World->Prop}{t0 t1 t2:Nat}(x0:uG)(x1:v8)(x2:zT)(h:afu x0 x1 x2 w)(hres:fn.results=#[.tmp t0,.tmp t1,.tmp t2]:=by rfl)(hv: .tuple #[lk l j t0,lk l j t1,lk l j t2]=V x0 x1 x2:=by kernel_rfl):KK [] n l j (bodyPost P fn (λe w =>∃x0,∃x1,∃x2,e= .returned (V x0 x1 x2)/\afu x0 x1 x2 w) .ret) w:=λa hr =>
 FW hres hr rfl rfl rfl ⟨x0,x1,x2,by rw[hv],h⟩
theorem kP{uG v8 zT CC:Type}{V:uG->v8->zT->CC->Value}{afu:uG->v8->zT->CC->World->Prop}(hc:Calls P f args w λe w =>∃x0,∃x1,∃x2,∃x3,e= .returned (V x0 x1 x2 x3)/\afu x0 x1 x2 x3 w)(k:∀x0 x1 x2 x3 w,afu x0 x1 x2 x3 w->KK Df n ((dn o,(V x0 x1 x2 x3))::l) j (wpList P ops Q rest) w)(h1:Cj o n=true:=by rfl)(hrun:(execOp (eM (lk l j)) o).run P w= .ok (.enter f args) w:=by kernel_rfl):KK Df n l j (wpList P ops Q (o::rest)) w:=λa hr =>
 s9 (wn (jc h1).2) (jc h1).1.1 (jc h1).1.2 hr hrun hc λe w h=>by obtain⟨x0,x1,x2,x3,rfl,h⟩:=h;exact⟨_,rfl,k _ _ _ _ w h⟩
theorem xv4{uG v8 zT CC:Type}{V:uG->v8->zT->CC->Value}{afu:uG->v8->zT->CC->World->Prop}(x0:uG)(x1:v8)(x2:zT)(x3:CC)(h:afu x0 x1 x2 x3 w)(hres:fn.results=#[]:=by rfl)(hv: .tuple #[]=V x0 x1 x2 x3:=by kernel_rfl):KK [] n l j (bodyPost P fn (λe w =>∃x0,∃x1,∃x2,∃x3,e= .returned (V x0 x1 x2 x3)/\afu x0 x1 x2 x3 w) .normal) w:=λa hr =>
 p9 hres hr ⟨x0,x1,x2,x3,by rw[hv],h⟩
theorem G1{uG v8 zT CC:Type}{V:uG->v8->zT->CC->Value}{afu:uG->v8->zT->CC->World->Prop}{t0:Nat}(x0:uG)(x1:v8)(x2:zT)(x3:CC)(h:afu x0 x1 x2 x3 w)(hres:fn.results=#[.tmp t0]:=by rfl)(hv:lk l j t0=V x0 x1 x2 x3:=by kernel_rfl):KK [] n l j (bodyPost P fn (λe w =>∃x0,∃x1,∃x2,∃x3,e= .returned (V x0 x1 x2 x3)/\afu x0 x1 x2 x3 w) .ret) w:=λa hr =>
 yn hres hr rfl ⟨x0,x1,x2,x3,by rw[hv],h⟩
theorem Ad{uG v8 zT CC:Type}{V:uG->v8->zT->CC->Value}{afu:uG->v8->zT->CC->World->Prop}{t0 t1:Nat}(x0:uG)(x1:v8)(x2:zT)(x3:CC)(h:afu x0 x1 x2 x3 w)(hres:fn.results=#[.tmp t0,.tmp t1]:=by rfl)(hv: .tuple #[lk l j t0,lk l j t1]=V x0 x1 x2 x3:=by kernel_rfl):KK [] n l j (bodyPost P fn (λe w =>∃x0,∃x1,∃x2,∃x3,e= .returned (V x0 x1 x2 x3)/\afu x0 x1 x2 x3 w) .ret) w:=λa hr =>
 FQ hres hr rfl rfl ⟨x0,x1,x2,x3,by rw[hv],h⟩
theorem xc5{uG v8 zT CC MW:Type}{V:uG->v8->zT->CC->MW->Value}{afu:uG->v8->zT->CC->MW->World->Prop}(hc:Calls P f args w λe w =>∃x0,∃x1,∃x2,∃x3,∃x4,e= .returned (V x0 x1 x2 x3 x4)/\afu x0 x1 x2 x3 x4 w)(k:∀x0 x1 x2 x3 x4 w,afu x0 x1 x2 x3 x4 w->KK Df n ((dn o,(V x0 x1 x2 x3 x4))::l) j (wpList P ops Q rest) w)(h1:Cj o n=true:=by rfl)(hrun:(execOp (eM (lk l j)) o).run P w= .ok (.enter f args) w:=by kernel_rfl):KK Df n l j (wpList P ops Q (o::rest)) w:=λa hr =>
 s9 (wn (jc h1).2) (jc h1).1.1 (jc h1).1.2 hr hrun hc λe w h=>by obtain⟨x0,x1,x2,x3,x4,rfl,h⟩:=h;exact⟨_,rfl,k _ _ _ _ _ w h⟩
theorem xc6{uG v8 zT CC MW Ra:Type}{V:uG->v8->zT->CC->MW->Ra->Value}{afu:uG->v8->zT->CC->MW->Ra->World->Prop}(hc:Calls P f args w λe w =>∃x0,∃x1,∃x2,∃x3,∃x4,∃x5,e= .returned (V x0 x1 x2 x3 x4 x5)/\afu x0 x1 x2 x3 x4 x5 w)(k:∀x0 x1 x2 x3 x4 x5 w,afu x0 x1 x2 x3 x4 x5 w->KK Df n ((dn o,(V x0 x1 x2 x3 x4 x5))::l) j (wpList P ops Q rest) w)(h1:Cj o n=true:=by rfl)(hrun:(execOp (eM (lk l j)) o).run P w= .ok (.enter f args) w:=by kernel_rfl):KK Df n l j (wpList P ops Q (o::rest)) w:=λa hr =>
 s9 (wn (jc h1).2) (jc h1).1.1 (jc h1).1.2 hr hrun hc λe w h=>by obtain⟨x0,x1,x2,x3,x4,x5,rfl,h⟩:=h;exact⟨_,rfl,k _ _ _ _ _ _ w h⟩
theorem xy6{uG v8 zT CC MW Ra:Type}{V:uG->v8->zT->CC->MW->Ra->Value}{afu:uG->v8->zT->CC->MW->Ra->World->Prop}{t0:Nat}(x0:uG)(x1:v8)(x2:zT)(x3:CC)(x4:MW)(x5:Ra)(h:afu x0 x1 x2 x3 x4 x5 w)(hres:fn.results=#[.tmp t0]:=by rfl)(hv:lk l j t0=V x0 x1 x2 x3 x4 x5:=by kernel_rfl):KK [] n l j (bodyPost P fn (λe w =>∃x0,∃x1,∃x2,∃x3,∃x4,∃x5,e= .returned (V x0 x1 x2 x3 x4 x5)/\afu x0 x1 x2 x3 x4 x5 w) .ret) w:=λa hr =>
 yn hres hr rfl ⟨x0,x1,x2,x3,x4,x5,by rw[hv],h⟩
theorem xc7{uG v8 zT CC MW Ra β6:Type}{V:uG->v8->zT->CC->MW->Ra->β6->Value}{afu:uG->v8->zT->CC->MW->Ra->β6->World->Prop}(hc:Calls P f args w λe w =>∃x0,∃x1,∃x2,∃x3,∃x4,∃x5,∃x6,e= .returned (V x0 x1 x2 x3 x4 x5 x6)/\afu x0 x1 x2 x3 x4 x5 x6 w)(k:∀x0 x1 x2 x3 x4 x5 x6 w,afu x0 x1 x2 x3 x4 x5 x6 w->KK Df n ((dn o,(V x0 x1 x2 x3 x4 x5 x6))::l) j (wpList P ops Q rest) w)(h1:Cj o n=true:=by rfl)(hrun:(execOp (eM (lk l j)) o).run P w= .ok (.enter f args) w:=by kernel_rfl):KK Df n l j (wpList P ops Q (o::rest)) w:=λa hr =>
 s9 (wn (jc h1).2) (jc h1).1.1 (jc h1).1.2 hr hrun hc λe w h=>by obtain⟨x0,x1,x2,x3,x4,x5,x6,rfl,h⟩:=h;exact⟨_,rfl,k _ _ _ _ _ _ _ w h⟩
theorem xc8{uG v8 zT CC MW Ra β6 β7:Type}{V:uG->v8->zT->CC->MW->Ra->β6->β7->Value}{afu:uG->v8->zT->CC->MW->Ra->β6->β7->World->Prop}(hc:Calls P f args w λe w =>∃x0,∃x1,∃x2,∃x3,∃x4,∃x5,∃x6,∃x7,e= .returned (V x0 x1 x2 x3 x4 x5 x6 x7)/\afu x0 x1 x2 x3 x4 x5 x6 x7 w)(k:∀x0 x1 x2 x3 x4 x5 x6 x7 w,afu x0 x1 x2 x3 x4 x5 x6 x7 w->KK Df n ((dn o,(V x0 x1 x2 x3 x4 x5 x6 x7))::l) j (wpList P ops Q rest) w)(h1:Cj o n=true:=by rfl)(hrun:(execOp (eM (lk l j)) o).run P w= .ok (.enter f args) w:=by kernel_rfl):KK Df n l j (wpList P ops Q (o::rest)) w:=λa hr =>
 s9 (wn (jc h1).2) (jc h1).1.1 (jc h1).1.2 hr hrun hc λe w h=>by obtain⟨x0,x1,x2,x3,x4,x5,x6,x7,rfl,h⟩:=h;exact⟨_,rfl,k _ _ _ _ _ _ _ _ w h⟩
theorem kC{t T b:Nat}{R:Ending->World->Prop}{cs:Array Value}{T':TypeId}{q:Nat×Nat}(hF:Fit w0 (aB (pts b (.cells cs T' q)::L)) w)(h:R (.returned (.agg cs)) w)(hres:fn.results=#[.cell t T]:=by rfl)(hv:lk l j t= .pointer (some ⟨b,0,none⟩):=by kernel_rfl)(hu:tQ (P.underlying T)=true:=by kernel_rfl)
 (hs:(P.info? T).map (·.size)=some cs.size:=by kernel_rfl):KK [] n l j (bodyPost P fn R .ret) w:=λa hr=>qC hr hF h hres hv hu hs
end
section
variable {E:List Nat}{D:List (Nat×Nat×List Value)}{N:Nat}{aK:Array Bool}
theorem nl[hp:PI Q](hd:HL D w)(f:Nat)(is:List (Nat×Nat×Value))(k:KK Df n (RI is l) j (eH P .any ops Q (HL D) E f (RH is aK)) w)
 (hN:f+is.length=N:=by rfl) (hB:Zx ops E n is aK=true:=by kernel_rfl) (hrun:∀w,I8 P ops is l j w=CN is w:=by intro w;kernel_rfl):KK Df n l j (eH P .any ops Q (HL D) E N aK) w:=λa hr=>acV hd f is hr k hN hB hrun
theorem kx[hp:PI Q](hd:HL D w)(q f i:Nat){b off:Nat}{x:Operand}(hi:ops[i]? = some o)(hq:D[q]? = some (b,off,[v]))
 (k:KK Df n ((dn o,v)::l) j (eH P .any ops Q (HL D) E f (aK.setIfInBounds i true)) w) (hg:o.guard=none:=by rfl) (hB:(okB ops E aK i&&BZ .any ops E aK i)=true:=by kernel_rfl)
 (ho:o.op= .load T x:=by rfl) (hx:eM (lk l j) x= .pointer (some ⟨b,off,none⟩):=by kernel_rfl) (hu:wu (P.underlying T)=true:=by kernel_rfl) (h1:o.dst=some (dn o):=by rfl) (hn:Nat.blt (dn o) n=true:=by rfl):KK Df n l j (eH P .any ops Q (HL D) E (f+1) aK) w:=λa hr =>
 Xt hd q f i hr (wn hg) hi hq k hB ho hx hu h1 hn
theorem wD[hp:PI Q](hd:HL D w)(q f i:Nat){b off:Nat}{cs:List Value}{x:Operand}(hi:ops[i]? = some o)(hq:D[q]? = some (b,off,cs))
 (k:KK Df n ((dn o,.agg cs.toArray)::l) j (eH P .any ops Q (HL D) E f (aK.setIfInBounds i true)) w) (hg:o.guard=none:=by rfl) (hB:(okB ops E aK i&&BZ .any ops E aK i)=true:=by kernel_rfl)
 (ho:o.op= .load T x:=by rfl) (hx:eM (lk l j) x= .pointer (some ⟨b,off,none⟩):=by kernel_rfl) (hu:tQ (P.underlying T)=true:=by kernel_rfl) (hs:(P.info? T).map (·.size)=some cs.length:=by kernel_rfl) (h1:o.dst=some (dn o):=by rfl) (hn:Nat.blt (dn o) n=true:=by rfl):KK Df n l j (eH P .any ops Q (HL D) E (f+1) aK) w:=λa hr =>
 elm hd q f i hr (wn hg) hi hq k hB ho hx hu hs h1 hn
end
end
end GX
end
section
namespace SL
open Go Go.RowKit
def Ck{α:Type}(e:TypeId)(sz:Nat)(enc:α->List Value)(v:Value)(l:List α):aZ:=λh =>
 (v= .slice none 0 0/\l=[]/\h=Hp.none)∨
 ∃g off cap k cur,v= .slice (some ⟨g,off,none⟩) l.length cap/\l.length<=cap/\(0<cap->off=k*sz)/\k+cap<=maxLen/\cur.size=(k+cap)*sz/\(cur.toList.drop (k*sz)).take (l.length*sz)=l.flatMap enc/\pts g (.cells cur e) h
section
variable {w0 w:World}{L:List aZ}{α:Type}{e:TypeId}{sz:Nat}{enc:α->List Value}{v:Value}{l:List α}{ca:fO}{n cc:Nat}
theorem Fit.KX(h:Fit w0 (aB (Ck e sz enc v l::L)) w):(v= .slice none 0 0/\l=[]/\Fit w0 (aB L) w)∨
 ∃g off cap k cur,v= .slice (some ⟨g,off,none⟩) l.length cap/\l.length<=cap/\(0<cap->off=k*sz)/\k+cap<=maxLen/\cur.size=(k+cap)*sz/\(cur.toList.drop (k*sz)).take (l.length*sz)=l.flatMap enc/\Fit w0 (aB (pts g (.cells cur e)::L)) w:=by
 obtain⟨x,hx,a,c,hd,ee,hp,q⟩:=h.sat;rcases hp with ⟨h1,h2,h3⟩ | ⟨g,off,cap,k,cur,h1,h2,h3,h4,h5,h6,h7⟩
 ·left
  exact⟨h1,h2,h.drop⟩
 ·right
  exact⟨g,off,cap,k,cur,h1,h2,h3,h4,h5,h6,⟨x,hx,a,c,hd,ee,h7,q⟩,h.os,h.tape,h.output,h.size⟩
theorem Fit.Ov(h:Fit w0 (aB (rowOf e sz enc v l::L)) w):Fit w0 (aB (Ck e sz enc v l::L)) w:=
 h.head λ_ hx=>by
  rcases hx with h | ⟨g,cap,cur,h1,h2,h3,h4,h5,h6⟩
  ·exact .inl h
  ·exact .inr ⟨g,0,cap,0,cur,h1,h2,λ_=>by simp,I,by simpa using h4,by simpa using h5,h6⟩
theorem Fit.R7(h:Fit w0 (aB (Ck e sz enc (.slice ca n cc) l::L)) w):n=l.length:=by
 rcases h.KX with ⟨h1,h2,_⟩ | ⟨g,off,cap,k,cur,h1,_⟩
 ·simp only[Value.slice.injEq]at h1;rw[h2];exact h1.2.1
 ·simp only[Value.slice.injEq]at h1;exact h1.2.1
theorem Fit.PV(h:Fit w0 (aB (Ck e sz enc (.slice ca n cc) l::L)) w)(hl:0<l.length):ca=some ⟨GX.dW ca,GX.j6 ca,none⟩:=by
 rcases h.KX with ⟨h1,h2,_⟩ | ⟨g,off,cap,k,cur,h1,_⟩
 ·rw[h2]at hl;simp at hl
 ·simp only[Value.slice.injEq]at h1;rw[h1.1];rfl
theorem Fit.KY(he:sF enc sz)(h:Fit w0 (aB (Ck e sz enc (.slice ca n cc) l::L)) w){i:Nat}{f:Nat}{x:α}{u:Value}(hi:l[i]? = some x)(hf:(enc x)[f]? = some u):w.cell? ⟨GX.dW ca,GX.j6 ca+i*sz+f,none⟩=some u:=by
 have EL:i<l.length:=(List.getElem?_eq_some_iff.1 hi).1;rcases h.KX with ⟨h1,h2,_⟩ | ⟨g,off,cap,k,cur,h1,h2,h3,h4,h5,h6,h7⟩
 ·rw[h2]at EL;simp at EL
 ·simp only[Value.slice.injEq]at h1;obtain⟨rfl,_,rfl⟩:=h1;have hfs:f<sz:=by rw[<-he.len x];exact(List.getElem?_eq_some_iff.1 hf).1
  have h8:=he.get l i f x hi hfs;rw[<-h6,List.getElem?_take]at h8;have hlt:i*sz+f<l.length*sz:=by
   have:(i+1)*sz<=l.length*sz:=rm _ EL;rw[tM]at this;omega
  rw[aP hlt,hf,List.getElem?_drop]at h8;have ho:=h3 I;show w.cell? ⟨g,off+i*sz+f,none⟩=some u;rw[ho,show k*sz+i*sz+f=k*sz+(i*sz+f) by omega];refine h7.cell _ ?_
  simpa using h8
theorem Jd(vs:List Value):∀(o:Nat) (cs:Array Value),o+vs.length<=cs.size->∃cs':Array Value,cs'.toList=cs.toList.take o++vs++cs.toList.drop (o+vs.length)/\∀{w0 w:World} {L:List aZ} {b:Nat} {t:TypeId},Fit w0 (aB (pts b (.cells cs t)::L)) w->Fit w0 (aB (pts b (.cells cs' t)::L)) (w.setCells b o vs):=by
 induction vs with
 | nil=>intro o cs h;exact⟨cs,by simp,λh=>h⟩
 | cons v vs ih =>
  intro o cs h;simp only[zS]at h;obtain⟨cs',h1,h2⟩:=ih (o+1) (cs.setIfInBounds o v) (by simp;omega);refine⟨cs',?_,λhF=>h2 (hF.set o v)⟩;rw[h1];have ho:o<cs.toList.length:=by simp;omega
  simp only[Array.toList_setIfInBounds,zS];rw[List.take_succ_eq_append_getElem (by simpa using ho),List.getElem_set_self,List.take_set_of_le (j5 o),List.drop_set,pR];rw[show o+1+vs.length=o+(vs.length+1) by omega];simp
end
end SL
namespace GX
open Go Go.RowKit SL
section
variable {P:Program}{w w0 w1 z:World}{ops:Array Oper}{Q:Exit->Act->World->Prop}{a:Act}{rest:List Oper}{o:Oper}{n d:Nat}{l:List (Nat×Value)}{j e:Nat->Value}{Df:List Deferred}{L:List aZ}{t E:TypeId}
variable {α:Type}{sz n0 cc:Nat}{enc:α->List Value}{xs:List α}{ca:fO}
theorem ac3{x y:Operand}{k:IntKind}{i:Int}{w':World}(ho:o.op= .indexAddr t x y)(hx:eM e x= .slice ca n0 cc)(hy:eM e y= .int k i)
 (ht:P.underlying t=some (.slice E)) (hs:(P.info? E).map (·.size)=some sz) (hF:Fit w0 (aB (Ck E sz enc (.slice ca n0 cc) xs::L)) w) (hi:bG i xs.length):(execOp (eM e) o).run P w'= .ok (.value (.pointer (some ⟨dW ca,j6 ca+i.toNat*sz,none⟩))) w':=by
 have hn:=hF.R7;have h0:=hi.1;have h1:=hi.2;exact rie (hF.PV I) ho hx hy ht hs h0 I
theorem UN{x y:Operand}{k:IntKind}{i:Int}(hw:tL o ops a)(hd:o.dst=some d)(hn:Nat.blt d n=true)(hr:cK Df n (lk l j) a)(ho:o.op= .slice t x (some y) none none)(hx:eM (lk l j) x= .slice ca n0 cc)(hy:eM (lk l j) y= .int k i)
 (ht:P.underlying t=some (.slice E)) (hs:(P.info? E).map (·.size)=some sz) (he:sF enc sz) (hF:Fit z (aB (Ck E sz enc (.slice ca n0 cc) xs::L)) w) (hi:0<=i/\i<=((xs.length:Nat):Int)) (hne:0<xs.length)
 (k:∀ca cc a,Fit z (aB (Ck E sz enc (.slice ca (xs.drop i.toNat).length cc) (xs.drop i.toNat)::L)) w->cK Df n (lk ((d,.slice ca (xs.drop i.toNat).length cc)::l) j) a->wpList P ops Q rest a w):wpList P ops Q (o::rest) a w:=by
 obtain⟨h0,h1⟩:=hi;rcases hF.KX with ⟨h2,h3,_⟩ | ⟨g,off,cap,q,cur,e1,e2,e3,e4,e5,e6,e7⟩
 ·rw[h3]at hne;simp at hne
 ·simp only[Value.slice.injEq]at e1;obtain⟨rfl,rfl,rfl⟩:=e1;obtain⟨m,rfl⟩ :∃m:Nat,i=m:=⟨i.toNat,I⟩;simp only[cO]at k⊢;have hm:m<=xs.length:=by omega
  have hlen:(xs.drop m).length=xs.length-m:=by simp
  have hrun:(execOp (eM (lk l j)) o).run P w= .ok (.value (.slice (some (if cc=m then⟨g,off,none⟩else(⟨g,off,none⟩:Addr).add (m*sz))) (xs.length-m) (cc-m))) w:=by
   unfold execOp;cases hq:P.info? E with
   | none=>simp[hq]at hs
   | some q =>
    simp[hq]at hs;have c:cc=m∨¬cc=m:=Classical.em _;rcases c with c | c<;>simp[ho,hx,hy,Instr.sliceAt,Instr.slice,Instr.sliceBounds,Instr.sliceBound,run_underlying ht,asIntOf,sizeOf,typeInfo,hq,hs,h1,hm,c]
  refine qX hw hd hn hr (w1:=w) hrun λa Io => ?_;rw[<-hlen]at Io;refine k _ _ a ?_ Io;refine e7.head λy hy=>.inr ⟨g,if cc=m then off else off+m*sz,cc-m,q+m,cur,?_,by rw[hlen];omega,?_,I,by rw[e5];congr 1;omega,?_,hy⟩
  ·congr 1
   by_cases c:cc=m
   ·simp[aP c]
   ·simp[ct c,u3]
  ·intro hc;rw[ez,e3 I];simp[tM]
  ·rw[hlen];have h8:((cur.toList.drop (q*sz)).take (xs.length*sz)).drop (m*sz)=(xs.drop m).flatMap enc:=by
    rw[e6];have h9:(xs.take m).flatMap enc++(xs.drop m).flatMap enc=xs.flatMap enc:=by rw[<-CG,FG]
    rw[<-h9,Ia (by rw[he.flat,tN,zE hm];exact j5 _)];rw[N7 (by rw[he.flat,tN,zE hm];exact j5 _)]
    rfl
   rw[<-h8,Ie,List.drop_drop,tM,<-Nat.sub_mul]
theorem KZ{bytes:Nat}{s x:Operand}{ad:Addr}{m c:Nat}(hw:tL o ops a)(hd:o.dst=some d)(hn:Nat.blt d n=true)(hr:cK Df n (lk l j) a)
 (ho:o.op= .call {callee:=.builtin .append,args:=#[s,x],argTypes:=#[t,t]}) (hs:eM (lk l j) s= .slice ca n0 cc) (hx:eM (lk l j) x= .slice (some ad) m c)
 (he:sF enc sz) (hty:P.underlying t=some (.slice E)) (qK:(P.info? E).map (λi=>(i.size,i.bytes,i.zero.map (·.cells.size)))=some (sz,bytes,some sz))
 (hF:Fit w0 (aB (Ck E sz enc (.slice ca n0 cc) xs::L)) w) {news:List α} (hm:news.length=m) (hnews:∀j u,(news.flatMap enc)[j]? = some u->w.cell? (ad.add j)=some u)
 (hb:(xs.length+m)*bytes<=140737488355328) (Mw:Nat.blt 0 bytes=true)
 (k:∀ca cc w1 a,Fit w0 (aB (Ck E sz enc (.slice ca (xs++news).length cc) (xs++news)::L)) w1->cK Df n (lk ((d,.slice ca (xs++news).length cc)::l) j) a->wpList P ops Q rest a w1):wpList P ops Q (o::rest) a w:=by
 rcases hF.KX with ⟨h2,h3,h4⟩ | ⟨g,off,cap,q,cur,e1,e2,e3,e4,e5,e6,e7⟩
 ·simp only[Value.slice.injEq]at h2;obtain⟨rfl,rfl,rfl⟩:=h2;subst h3;exact kQ hw hd hn hr ho hs hx he hty qK (h4.fU (e:=E) (sz:=sz) (enc:=enc)) hm hnews hb Mw λca cc w1 a h Io=>k ca cc w1 a h.Ov Io
 ·simp only[Value.slice.injEq]at e1;obtain⟨rfl,rfl,rfl⟩:=e1;cases hi:P.info? E with
  | none=>simp[hi]at qK
  | some i =>
   simp only[hi,uw,Option.some.injEq,Prod.mk.injEq]at qK;obtain⟨i1,i2,i3⟩:=qK;cases hz:i.zero with
   | none=>simp[hz]at i3
   | some zv =>
    simp only[hz,uw,Option.some.injEq]at i3;subst i1;subst i2;have KA:0<i.bytes:=oH Mw;have h63:xs.length+m<=maxLen:=by
     have:xs.length+m<=(xs.length+m)*i.bytes:=Kn _ KA;simp only[maxLen];omega
    have Uq:((xs.length+m:Nat):Int)<=9223372036854775807:=by simp only[maxLen]at h63;omega
    have hlen:(news.flatMap enc).length=m*i.size:=by rw[he.flat,hm]
    have fin:∀v' w',(Builtin.append_ #[t,t] o.type #[.slice (some ⟨g,off,none⟩) xs.length cc,.slice (some ad) m c]).run P w= .ok v' w'->(∃ca cc,v'= .slice ca (xs++news).length cc/\Fit w0 (aB (Ck E i.size enc v' (xs++news)::L)) w')->wpList P ops Q (o::rest) a w:=by
     rintro v' w' hrun ⟨ca,cc,rfl,BV⟩
     refine qX hw hd hn hr ?_ (λa hr=>k ca cc w' a BV hr);unfold execOp;simp only[ho,resolve,invoke,builtin,mV,sO,mW,Ey,zF,Ai,hs,hx,hrun]
    by_cases hroom:xs.length+m<=cc
    ·by_cases Ru:m=0
     ·subst Ru;have Xr:news=[]:=Ew hm;subst Xr;have XA:=run_append_room_cells (P:=P) (w:=w) t o.type E i hty hi g off xs.length cc ad 0 c [] (by simp) (by simp) (by simp) hroom (by simp) (by simp);refine fin _ _ XA ⟨some ⟨g,off,none⟩,cc,by simp,?_⟩
      simpa [World.setCells]using hF
     ·have aaK:=e3 I;subst aaK;have hfit:(q+xs.length)*i.size+(news.flatMap enc).length<=cur.size:=by rw[hlen,e5,<-tM];exact rm _ I
      have hpos:q*i.size+xs.length*i.size=(q+xs.length)*i.size:=(tM _ _ _).symm;have XA:=run_append_room_cells (P:=P) (w:=w) t o.type E i hty hi g (q*i.size) xs.length cc ad m c (news.flatMap enc) hlen hnews (he.ym news) hroom
       (λk hk=>by rw[hpos];rw[e7.cell ((q+xs.length)*i.size+k) (v:=cur[(q+xs.length)*i.size+k]' I) (by rw[Array.getElem?_eq_getElem])];rfl) (λk hk=>e7.free _)
      rw[hpos]at XA;obtain⟨cs',c1,c2⟩:=Jd (news.flatMap enc) ((q+xs.length)*i.size) cur hfit;have hsz:cs'.size=cur.size:=by
       have:=mX List.length c1;simp only[jM,tN,Ah,tO]at this;omega
      refine fin _ _ XA ⟨_,_,by rw[jM,hm],(c2 e7).head λy hy=>.inr ⟨g,_,cc,q,cs',by rw[jM,hm],by rw[jM,hm];exact hroom,λ_=>rfl,e4,by rw[hsz];exact e5,?_,hy⟩⟩;rw[c1,CG,<-e6,jM,hm];have hA:(cur.toList.take ((q+xs.length)*i.size)).length=(q+xs.length)*i.size:=by rw[tN,tO];exact zE (G5 (Nat.le_add_right _ _) hfit)
      rw[pS,Ia (by rw[hA,tM];omega)];have hB:(cur.toList.take ((q+xs.length)*i.size)).drop (q*i.size)=(cur.toList.drop (q*i.size)).take (xs.length*i.size):=by
       rw[Ie,tM,Nat.add_sub_cancel_left]
      rw[hB,<-pS];have hC:(((cur.toList.drop (q*i.size)).take (xs.length*i.size))++news.flatMap enc).length=(xs.length+m)*i.size:=by
       rw[e6,jM,he.flat,hlen,tM]
      rw[<-hC];exact Eu
    ·have holds:∀j u,(xs.flatMap enc)[j]? = some u->w.cell? ((⟨g,off,none⟩:Addr).add j)=some u:=by
      intro jj u hu;have hj:jj<xs.length*i.size:=by rw[<-he.flat];exact(List.getElem?_eq_some_iff.1 hu).1
      have hx0:0<xs.length:=by
       rcases Nat.eq_zero_or_pos xs.length with h0 | h0
       ·rw[h0]at hj;simp at hj
       ·exact h0
      rw[u3,e3 I];refine e7.cell _ ?_;rw[<-e6,List.getElem?_take,aP hj,List.getElem?_drop]at hu
      simpa using hu
     have XA:=run_append_grow (P:=P) w t o.type E i zv hty hi hz ⟨g,off,none⟩ xs.length cc (xs.flatMap enc) (he.flat xs) holds ad m c (news.flatMap enc) hlen hnews I Uq (growslice_fits I hb);have hge:=grownCap_ge w (xs.length+m) cc E;have Zh:grownCap w (xs.length+m) cc E<=maxLen:=grownCap_le_maxLen w (xs.length+m) cc E h63;refine fin _ _ XA ⟨_,_,by rw[jM,hm],?_⟩;refine(e7.drop.drew.alloc _).head λx hx=>.inr ⟨w.heap.size,0,grownCap w (xs.length+m) cc E,0,_,by rw[jM,hm],by rw[jM,hm];exact hge,λ_=>by simp,I,?_,?_,hx⟩
     ·simp only[Array.size_append,BR,size_zeroCells,i3,he.flat,hm,<-tM]
      congr 1
      omega
     ·rw[CG,jM,hm];simp only[Array.toList_append,Nat.zero_mul,mY];rw[show(xs.length+m)*i.size=((xs.flatMap enc)++(news.flatMap enc)).length by rw[jM,hlen,he.flat,tM]];exact Eu
end
end GX
end
end Go.Proofs.YtpikpffbcjpmcaaGreatDoor

/- plunderlaw11.WorkerCounts answers true for every input of the bulk that the statement names, and leaves its input alone. Conditions: none. -/
import Derived.Below
import Derived.OwnWalk
import Derived.Deep.Draws
import Derived.Laws.AppendOwn
import Derived.Laws.OwnMore
import Derived.Laws.MakeOwn
import Derived.Laws.CopyRow
import Derived.StillTail
import Derived.Deep.Quiet
import Derived.KernelRfl
import Derived.IntWalk
import Derived.Laws.StructEq
import Derived.Test.YtaiffafelihaaaaGreatDoorProg
import Derived.Carry
import Derived.ChangeSlices
import Derived.ChangeOld
import Derived.Deep.Fields
import Derived.Deep.Slices
import Derived.DataReads
import Derived.OpenShut
import Derived.Test.YtaiffafelihaaaaGreatDoorRows
import Derived.FnData
import Derived.Scope
import Derived.Laws.IdiomRangeMap
import Derived.Defers
import Derived.Laws.LoneSync
import Derived.Conc.MuLone
import Derived.Recover
import Derived.ArgAppend
import Derived.ChangeKeysEq
import Derived.Test.YtaiffafelihaaaaGreatDoorCards
import Derived.Test.YtaiffafelihaaaaGreatDoorTie
import Derived.WalkKit
import Derived.ProofKit
import Derived.SizedLaws
import Derived.JoinedCond
import Derived.Deep.DeepHandedRow
import Derived.Lib.LaidTab
import Derived.LaidMore
import Derived.SevenTiedAt
set_option linter.unusedVariables false
set_option linter.unusedSimpArgs false
set_option linter.unusedSectionVars false
set_option maxRecDepth 100000
set_option maxHeartbeats 4000000
set_option autoImplicit true
set_option relaxedAutoImplicit true
namespace Go.Proofs.YtaiffafelihaaaaGreatDoor
theorem aY{p:Prop}(h:p:=by kernel_rfl):p:=h
theorem I{p:Prop}(h:p:=by omega):p:=h
theorem dO{p:Prop}(h:p:=by decide):p:=h
theorem pQ{p:Prop}(h:p:=by intro e;cases e):p:=h
abbrev gF:=Option Addr
abbrev vt(o:Oper)(ops:Array Oper)(a:Act):Prop:=Region.wanted o (yielded ops a.tmps)=true
abbrev dm(p:Prop)[Decidable p]:Value:=.bool (decide p)
theorem bZ{c:Prop}{h:Decidable c}(hn:¬c){α:Sort _}{t e:α}:ite c t e=e:=if_neg hn
theorem aM{c:Prop}{h:Decidable c}(hn:c){α:Sort _}{t e:α}:ite c t e=t:=if_pos hn
theorem bU:True:=trivial
theorem eu{c:Prop}{h:Decidable c}{α:Sort _}{t e:α}(hn:¬c:=by omega):ite c t e=e:=if_neg hn
theorem sR{c:Prop}{h:Decidable c}{α:Sort _}{t e:α}(hn:c:=by omega):ite c t e=t:=if_pos hn
theorem dD{β:Type}{x k c:β}(h:x=c){d:Decidable (x=k)}{α:Sort _}{t e:α}(hn:¬c=k:=by decide):ite (x=k) t e=e:=if_neg (h▸hn)
abbrev Bi:=@Nat.le_trans
abbrev ja:=@Nat.le_refl
abbrev N6:=@List.flatMap_cons
abbrev kQ:=@List.length_append
abbrev Bj:=@List.length_cons
abbrev uB:=@Nat.add_mul
abbrev N7:=@Nat.add_comm
abbrev Dv:=@Nat.zero_add
abbrev wh:=@List.take_zero
abbrev CF:=@List.nil_append
abbrev JN:=@List.drop_append_of_le_length
abbrev G0:=@List.drop_of_length_le
abbrev FT:=@List.take_of_length_le
abbrev JO:=@List.take_append
abbrev s5:=@List.append_assoc
abbrev rQ:=@Nat.mul_le_mul_right
abbrev zm:=@List.ext_getElem?
abbrev uV:=@List.length_take
abbrev yu:=@Nat.min_eq_left
abbrev gV:=@List.length_set
abbrev D8:=@List.size_toArray
abbrev D9:=@List.flatMap_append
abbrev G2:=@List.take_left
abbrev G3:=@List.eq_nil_of_length_eq_zero
abbrev xL:=@List.length_nil
abbrev C3:=@List.length_drop
abbrev vy:=@Array.length_toList
abbrev w4:=@Go.Addr.add_lit
abbrev pU:=@Nat.le_of_ble_eq_true
abbrev yw:=@Array.getD_eq_getD_getElem?
abbrev PN:=@Nat.eq_of_beq_eq_true
abbrev ou:=@Go.Sem.run_bind
abbrev ox:=@Go.Result.andThen_ok
abbrev uW:=@Go.Sem.run_pure
abbrev w5:=@Nat.add_zero
abbrev LZ:=@List.toList_toArray
abbrev JP:=@List.drop_take
abbrev vz:=@Option.map_some
abbrev L0:=@Nat.le_mul_of_pos_right
abbrev JQ:=@List.map_toArray
abbrev C4:=@List.map_cons
abbrev Ea:=@List.map_nil
abbrev BF:=@Nat.mod_lt
abbrev FU:=@Nat.div_add_mod
abbrev nX:=@List.length_replicate
abbrev FV:=@Int.mul_comm
abbrev cL:=@Int.toNat_natCast
abbrev mE:=@Bool.and_eq_true
abbrev zn:=@beq_iff_eq
abbrev JR:=@Nat.add_left_comm
abbrev nu:=@congrArg
abbrev tX:=@List.mem_cons
abbrev tY:=@List.not_mem_nil
abbrev tZ:=@or_false
abbrev G4:=@List.map_append
abbrev BH:=@Bool.or_eq_true
abbrev G5:=@Bool.false_eq_true
abbrev AV:=@Nat.lt_or_ge
abbrev L1:=@Go.Region.noSelect_spec
abbrev pV:=@List.take_succ_cons
abbrev G6:=@List.perm_middle
abbrev ua:=@List.cons_append
abbrev G7:=@List.append_nil
abbrev BI:=@decide_eq_true_eq
abbrev tJ:=@decide_eq_true
abbrev JS:=@decide_eq_false
abbrev G8:=@List.take_append_drop
abbrev L2:=@List.ext_getElem
abbrev PO:=@List.drop_eq_nil_of_le
abbrev C5:=@List.length_map
abbrev nQ:=@Option.getD_some
abbrev FW:=@Nat.succ_mul
abbrev PR:=@Go.MapKept.run_getObj_map
abbrev pW:=@List.drop_zero
abbrev PS:=@List.drop_eq_getElem_cons
abbrev xM:=@Nat.zero_le
abbrev rR:=@List.drop_succ_cons
abbrev jG:=@Nat.lt_succ_self
abbrev L4:=@List.mem_cons_of_mem
abbrev JT:=@List.singleton_append
abbrev rj:=@Int.ofNat_zero
abbrev G9:=@List.length_singleton
abbrev BJ:=@Prod.ext
abbrev iP:=@List.set_set
abbrev BK:=@Int.emod_nonneg
abbrev C6:=@Int.emod_lt_of_pos
abbrev L5:=@Int.mul_ediv_add_emod
abbrev xN:=@Int.le_refl
abbrev JU:=@List.getLastD_eq_getLast?
abbrev uX:=@Nat.mod_eq_of_lt
abbrev JV:=@Int.tmod_eq_emod
abbrev JW:=@Nat.add_mod_right
abbrev He:=@BitVec.toNat_ofInt
abbrev sx:=@List.getElem_toArray
abbrev sy:=@List.getElem_cons_zero
abbrev sA:=@List.getElem_cons_succ
abbrev sB:=@Array.getInternal_eq_getElem
abbrev AW:=@and_true
section
namespace SL
open Go Go.RowKit
abbrev Hp:=Nat->Option Obj
abbrev bu:=Hp->Prop
def Hp.none:Hp:=λ_=>Option.none
def Hp.add(a b:Hp):Hp:=λk=>match a k with | some o=>some o | Option.none=>b k
def Hp.F6(a b:Hp):Prop:=∀k,a k=Option.none∨b k=Option.none
def NY:bu:=λh=>h=Hp.none
def sep(P Q:bu):bu:=λh =>∃a b,a.F6 b/\h=a.add b/\P a/\Q b
def pts(b:Nat)(o:Obj):bu:=λh=>h=λk=>if k=b then some o else Option.none
def SF(p:Prop):bu:=λh=>p/\h=Hp.none
def exs{α:Type}(P:α->bu):bu:=λh =>∃x,P x h
def aG:List bu->bu
 | []=>NY
 | P::L=>sep P (aG L)
theorem Hp.vG{a b:Hp}(h:a.F6 b):b.F6 a:=λk=>(h k).symm
theorem Hp.add_comm{a b:Hp}(h:a.F6 b):a.add b=b.add a:=by
 funext k
 unfold Hp.add;rcases h k with h | h<;>rw[h]<;>cases a k<;>cases b k<;>simp_all
theorem Hp.add_assoc(a b c:Hp):(a.add b).add c=a.add (b.add c):=by
 funext k;unfold Hp.add;cases a k<;>rfl
theorem Hp.BL{a b c:Hp}(h1:a.F6 b)(h2:a.F6 c):a.F6 (b.add c):=λk=>by
 rcases h1 k with h | h
 ·exact .inl h
 ·rcases h2 k with h' | h'
  ·exact .inl h'
  ·exact .inr (by unfold Hp.add;rw[h,h'])
theorem Hp.FX{a b c:Hp}(h:a.F6 (b.add c)):a.F6 b/\a.F6 c:=by
 constructor
 ·intro k;rcases h k with h | h
  ·exact .inl h
  ·refine .inr ?_;unfold Hp.add at h;cases hb:b k with
   | none=>rfl
   | some o=>rw[hb]at h;exact absurd h (by simp)
 ·intro k;rcases h k with h | h
  ·exact .inl h
  ·refine .inr ?_;unfold Hp.add at h;cases hb:b k with
   | none=>rw[hb]at h;exact h
   | some o=>rw[hb]at h;exact absurd h (by simp)
theorem Hp.L6(a:Hp):a.add Hp.none=a:=by funext k;unfold Hp.add Hp.none;cases a k<;>rfl
theorem Hp.L7(a:Hp):Hp.none.add a=a:=rfl
theorem Hp.Q8(a:Hp):a.F6 Hp.none:=λ_=>.inr rfl
theorem Hp.JX(a:Hp):Hp.none.F6 a:=λ_=>.inl rfl
theorem L8(P Q:bu):sep P Q=sep Q P:=by
 funext h
 apply propext
 constructor <;>
 ·rintro ⟨a,b,hd,rfl,hp,hq⟩
  exact⟨b,a,Hp.vG hd,Hp.add_comm hd,hq,hp⟩
theorem E8(P Q R:bu):sep (sep P Q) R=sep P (sep Q R):=by
 funext h
 apply propext
 constructor
 ·rintro ⟨ab,c,hd,rfl,⟨a,b,hd',rfl,hp,hq⟩,hr⟩
  obtain⟨h1,h2⟩:=Hp.FX (Hp.vG hd);exact⟨a,b.add c,Hp.BL hd' (Hp.vG h1),Hp.add_assoc _ _ _,hp,b,c,Hp.vG h2,rfl,hq,hr⟩
 ·rintro ⟨a,bc,hd,rfl,hp,b,c,hd',rfl,hq,hr⟩
  obtain⟨h1,h2⟩:=Hp.FX hd;exact⟨a.add b,c,Hp.vG (Hp.BL (Hp.vG h2) (Hp.vG hd')),(Hp.add_assoc _ _ _).symm,⟨a,b,h1,rfl,hp,hq⟩,hr⟩
theorem C7(P Q R:bu):sep P (sep Q R)=sep Q (sep P R):=by
 rw[<-E8,L8 P Q,E8]
theorem Gz(P:bu):sep P NY=P:=by
 funext h
 apply propext
 constructor
 ·rintro ⟨a,b,_,rfl,hp,rfl⟩;rw[Hp.L6];exact hp
 ·intro hp;exact⟨h,Hp.none,Hp.Q8 h,(Hp.L6 h).symm,hp,rfl⟩
theorem BM(L M:List bu):aG (L++M)=sep (aG L) (aG M):=by
 induction L with
 | nil=>show aG M=sep NY (aG M);rw[L8,Gz]
 | cons P L ih=>show sep P (aG (L++M))=sep (sep P (aG L)) (aG M);rw[ih,E8]
theorem Q9{L M:List bu}(h:L.Perm M):aG L=aG M:=by
 induction h with
 | nil=>rfl
 | cons P _ ih=>show sep P _=sep P _;rw[ih]
 | swap P Q L=>exact C7 _ _ _
 | trans _ _ h1 h2=>exact h1.trans h2
def pick(i:Nat)(L:List bu):List bu:=match L[i]? with | some P=>P::L.eraseIdx i | Option.none=>L
theorem E9(i:Nat)(L:List bu):aG (pick i L)=aG L:=by
 unfold pick
 induction L generalizing i with
 | nil=>rfl
 | cons P L ih =>
  cases i with
  | zero=>rfl
  | succ i =>
   have hi:=ih i;simp only[List.getElem?_cons_succ,List.eraseIdx_cons_succ];cases hg:L[i]? with
   | none=>rfl
   | some Q =>
    rw[hg]at hi;show sep Q (sep P (aG (L.eraseIdx i)))=sep P (aG L);rw[<-hi];exact C7 _ _ _
structure Fit(w0:World)(P:bu)(w:World):Prop where
 sat :∃h:Hp,(∀k o,h k=some o->w.heap[k]? = some o)/\P h
 os:w.os=w0.os
 tape:w.tape=w0.tape
 output:w.output=w0.output
 size:w0.heap.size<=w.heap.size
section
variable {w0 w:World}{L M:List bu}{P Q:bu}
theorem Fit.imp(h:Fit w0 P w)(i:∀x,P x->Q x):Fit w0 Q w:=
 let ⟨x,hx,hp⟩:=h.sat
 ⟨⟨x,hx,i x hp⟩,h.os,h.tape,h.output,h.size⟩
theorem Fit.eq(h:Fit w0 P w)(e:P=Q):Fit w0 Q w:=e▸ h
theorem Fit.perm(h:Fit w0 (aG L) w)(p:L.Perm M):Fit w0 (aG M) w:=h.eq (Q9 p)
theorem Fit.pick(h:Fit w0 (aG L) w)(i:Nat):Fit w0 (aG (pick i L)) w:=h.eq (E9 i L).symm
theorem Fit.trans{w1:World}{R:bu}(h:Fit w0 R w1)(k:Fit w1 P w):Fit w0 P w:=
 ⟨k.sat,k.os.trans h.os,k.tape.trans h.tape,k.output.trans h.output,Bi h.size k.size⟩
theorem Fit.self(h:Fit w0 P w):Fit w P w:=⟨h.sat,rfl,rfl,rfl,ja _⟩
theorem SH{P P' Q Q':bu}(hp:∀x,P x->P' x)(hq:∀x,Q x->Q' x)(x:Hp)(h:sep P Q x):sep P' Q' x:=
 let ⟨a,b,hd,e,p,q⟩:=h
 ⟨a,b,hd,e,hp a p,hq b q⟩
theorem Fit.head(h:Fit w0 (aG (P::L)) w)(i:∀x,P x->Q x):Fit w0 (aG (Q::L)) w:=h.imp (SH i λ_ q=>q)
theorem Fit.drop(h:Fit w0 (aG (P::L)) w):Fit w0 (aG L) w:=
 let ⟨x,hx,a,b,hd,e,p,q⟩:=h.sat
 ⟨⟨b,λk o hk=>hx k o (by
  rw[e];unfold Hp.add;rcases hd k with h1 | h1
  ·rw[h1];exact hk
  ·rw[h1]at hk;cases hk),q⟩,h.os,h.tape,h.output,h.size⟩
theorem Fit.nR{α:Type}{F:α->bu}(h:Fit w0 (aG (exs F::L)) w) :∃x,Fit w0 (aG (F x::L)) w:=
 let ⟨x,hx,a,b,hd,e,⟨y,p⟩,q⟩:=h.sat
 ⟨y,⟨⟨x,hx,a,b,hd,e,p,q⟩,h.os,h.tape,h.output,h.size⟩⟩
theorem Fit.jR{α:Type}{F:α->bu}(x:α)(h:Fit w0 (aG (F x::L)) w):Fit w0 (aG (exs F::L)) w:=h.head λ_ p=>⟨x,p⟩
theorem Fit.BN{p:Prop}(h:Fit w0 (aG (SF p::L)) w):p/\Fit w0 (aG L) w:=
 let ⟨_,_,_,_,_,_,⟨hp,_⟩,_⟩:=h.sat
 ⟨hp,h.drop⟩
theorem Fit.zo{p:Prop}(hp:p)(h:Fit w0 (aG L) w):Fit w0 (aG (SF p::L)) w:=
 h.imp λx hx=>⟨Hp.none,x,Hp.JX x,(Hp.L7 x).symm,⟨hp,rfl⟩,hx⟩
theorem Fit.uJ(h:Fit w0 (aG (aG M::L)) w):Fit w0 (aG (M++L)) w:=h.eq (BM M L).symm
theorem Fit.tv(M L:List bu)(h:Fit w0 (aG (M++L)) w):Fit w0 (aG (aG M::L)) w:=h.eq (BM M L)
theorem Fit.block{b:Nat}{o:Obj}(h:Fit w0 (aG (pts b o::L)) w):w.heap[b]? = some o:=by
 obtain⟨x,hx,a,c,hd,e,p,q⟩:=h.sat;refine hx b o ?_;rw[e,p];unfold Hp.add;simp
theorem Fit.lt{b:Nat}{o:Obj}(h:Fit w0 (aG (pts b o::L)) w):b<w.heap.size:=(Array.getElem?_eq_some_iff.1 h.block).1
theorem Fit.cell{b:Nat}{cs:Array Value}{t:TypeId}{z:Nat×Nat}(h:Fit w0 (aG (pts b (.cells cs t z)::L)) w)(i:Nat){v:Value}(hv:cs[i]? = some v):w.cell? ⟨b,i,none⟩=some v:=by
 simp only[World.cell?,h.block]
 simpa using hv
theorem Fit.news{b:Nat}{cs:Array Value}{t:TypeId}{z:Nat×Nat}(h:Fit w0 (aG (pts b (.cells cs t z)::L)) w){xs:List Value}(hx:cs.toList=xs):∀j u,xs[j]? = some u->w.cell? ((⟨b,0,none⟩:Addr).add j)=some u:=by
 subst hx;intro j u hu;have e:(⟨b,0,none⟩:Addr).add j=⟨b,j,none⟩:=by unfold Addr.add;split<;>simp_all
 rw[e];exact h.cell j (by simpa using hu)
theorem Fit.free{b:Nat}{cs:Array Value}{t:TypeId}(h:Fit w0 (aG (pts b (.cells cs t)::L)) w)(i:Nat):w.frozen? ⟨b,i,none⟩=false:=by
 simp[World.frozen?,h.block]
theorem Fit.alloc(h:Fit w0 (aG L) w)(o:Obj):Fit w0 (aG (pts w.heap.size o::L)) (w.alloc o):=by
 obtain⟨x,hx,hp⟩:=h.sat;have hlt:∀k o',x k=some o'->k<w.heap.size:=λk o' hk=>(Array.getElem?_eq_some_iff.1 (hx k o' hk)).1;refine⟨⟨_,?_,(λk=>if k=w.heap.size then some o else Option.none),x,?_,rfl,rfl,hp⟩,h.os,h.tape,h.output,?_⟩
 ·intro k o' hk;unfold Hp.add at hk;by_cases e:k=w.heap.size
  ·subst e;simp at hk;subst hk;exact heap_alloc_new w o
  ·simp only[e,if_false]at hk;rw[Below.heap_alloc w o k (hlt k o' hk)];exact hx k o' hk
 ·intro k;by_cases e:k=w.heap.size
  ·right
   cases hk:x k with
   | none=>rfl
   | some o'=>have:=hlt k o' hk;omega
  ·left;simp[e]
 ·have:=h.size;simp;omega
theorem Fit.drew(h:Fit w0 P w):Fit w0 P w.drew:=⟨h.sat,h.os,h.tape,h.output,h.size⟩
theorem Fit.turn{b:Nat}{o o':Obj}{w':World}(h:Fit w0 (aG (pts b o::L)) w)(hb:w'.heap[b]? = some o')(hr:∀k,k≠b->k<w.heap.size->w'.heap[k]? = w.heap[k]?)
 (hos:w'.os=w.os) (ht:w'.tape=w.tape) (ho:w'.output=w.output) (hs:w.heap.size<=w'.heap.size):Fit w0 (aG (pts b o'::L)) w':=by
 obtain⟨x,hx,a,c,hd,e,p,q⟩:=h.sat;refine⟨⟨_,?_,(λk=>if k=b then some o' else Option.none),c,?_,rfl,rfl,q⟩,hos.trans h.os,ht.trans h.tape,ho.trans h.output,Bi h.size hs⟩
 ·intro k o'' hk;unfold Hp.add at hk;by_cases ek:k=b
  ·subst ek;simp at hk;subst hk;exact hb
  ·simp only[ek,if_false]at hk;have hk':x k=some o'':=by rw[e,p];unfold Hp.add;simp[ek,hk]
   have hw:=hx k o'' hk';rw[hr k ek (Array.getElem?_eq_some_iff.1 hw).1];exact hw
 ·intro k;by_cases ek:k=b
  ·right
   rcases hd k with h1 | h1
   ·rw[p]at h1;simp[ek]at h1
   ·exact h1
  ·left;simp[ek]
theorem Fit.set{b:Nat}{cs:Array Value}{t:TypeId}(h:Fit w0 (aG (pts b (.cells cs t)::L)) w)(i:Nat)(v:Value) :
 Fit w0 (aG (pts b (.cells (cs.setIfInBounds i v) t)::L)) (w.setCell ⟨b,i,none⟩ v):=by
 refine h.turn (w':=w.setCell ⟨b,i,none⟩ v) ?_ ?_ rfl rfl rfl (by simp)
 ·simp[World.setCell,Array.getElem?_modify,h.block]
 ·intro k hk _;exact Below.heap_setCell _ _ _ _ hk
theorem Fit.same{w':World}(h:Fit w0 P w)(hb:∀k,k<w.heap.size->w'.heap[k]? = w.heap[k]?)(hos:w'.os=w.os)(ht:w'.tape=w.tape)(ho:w'.output=w.output)(hs:w.heap.size<=w'.heap.size):Fit w0 P w':=by
 obtain⟨x,hx,p⟩:=h.sat;exact⟨⟨x,λk o hk=>by have:=hx k o hk;rw[hb k (Array.getElem?_eq_some_iff.1 this).1];exact this,p⟩,hos.trans h.os,ht.trans h.tape,ho.trans h.output,Bi h.size hs⟩
end
def old(afU:World):bu:=λh=>h=λk=>afU.heap[k]?
theorem Fit.begin(afU:World):Fit afU (aG [old afU]) afU:=
 ⟨⟨λk=>afU.heap[k]?,λ_ _ h=>h,by show sep (old afU) NY _;rw[Gz];exact rfl⟩,rfl,rfl,rfl,ja _⟩
theorem Fit.below{afU w:World}{L:List bu}(h:Fit afU (aG (old afU::L)) w):Below afU.heap.size afU w:=by
 obtain⟨x,hx,a,c,hd,e,p,q⟩:=h.sat;refine⟨h.os,h.tape,h.output,h.size,λk hk => ?_⟩;have hk':afU.heap[k]? = some afU.heap[k]:=Array.getElem?_eq_getElem hk;rw[hk'];refine hx k _ ?_;rw[e,p];unfold Hp.add;simp[hk']
theorem Fit.Ra{z afU w:World}{L:List bu}(h:Fit z (aG (old afU::L)) w){k:Nat}{o:Obj}(hk:afU.heap[k]? = some o):w.heap[k]? = some o:=by
 obtain⟨x,hx,a,c,hd,e,p,q⟩:=h.sat;refine hx k _ ?_;rw[e,p];unfold Hp.add;simp[hk]
theorem Fit.L9{z afU w:World}{L:List bu}{ad:Addr}{u:Value}(h:Fit z (aG (old afU::L)) w)(hc:afU.cell? ad=some u):w.cell? ad=some u:=by
 have hlt:=World.block_lt_of_cell? afU ad hc;have hk:afU.heap[ad.block]? = some afU.heap[ad.block]:=Array.getElem?_eq_getElem hlt;have:=h.Ra hk;simp only[World.cell?]at hc⊢;rw[this];rw[hk]at hc;exact hc
structure uv{α:Type}(enc:α->List Value)(sz:Nat):Prop where
 len:∀x,(enc x).length=sz
 one:∀x,∀u∈enc x,u.oneCell'=true
 pos:0<sz
theorem uv.flat{α:Type}{enc:α->List Value}{sz:Nat}(he:uv enc sz)(l:List α):(l.flatMap enc).length=l.length*sz:=by
 induction l with
 | nil=>simp
 | cons x l ih=>rw[N6,kQ,he.len,ih,Bj,uB,Nat.one_mul,N7]
theorem uv.BO{α:Type}{enc:α->List Value}{sz:Nat}(he:uv enc sz)(l:List α):∀u∈l.flatMap enc,u.oneCell'=true:=by
 intro u hu;obtain⟨x,_,hx⟩:=List.mem_flatMap.1 hu;exact he.one x u hx
theorem uv.get{α:Type}{enc:α->List Value}{sz:Nat}(he:uv enc sz)(l:List α)(i f:Nat)(x:α)(hi:l[i]? = some x)(hf:f<sz):(l.flatMap enc)[i*sz+f]? = (enc x)[f]?:=by
 induction l generalizing i with
 | nil=>simp at hi
 | cons y l ih =>
  rw[N6];cases i with
  | zero =>
   simp at hi;subst hi;rw[Nat.zero_mul,Dv,List.getElem?_append_left (by rw[he.len];exact hf)]
  | succ i =>
   rw[List.getElem?_append_right (by rw[he.len,uB];omega),he.len,show(i+1)*sz+f-sz=i*sz+f by rw[uB];omega];exact ih i (by simpa using hi)
theorem uv.set{α:Type}{enc:α->List Value}{sz:Nat}(he:uv enc sz)(l:List α)(i:Nat)(x:α)(hi:i<l.length) :
 (l.set i x).flatMap enc=(l.flatMap enc).take (i*sz)++enc x++(l.flatMap enc).drop (i*sz+sz):=by
 induction l generalizing i with
 | nil=>simp at hi
 | cons y l ih =>
  cases i with
  | zero =>
   simp only[List.set_cons_zero,N6,Nat.zero_mul,wh,CF,Dv]
   congr 1
   rw[JN (by rw[he.len];exact ja _),G0 (by rw[he.len];exact ja _),CF]
  | succ i =>
   simp only[List.set_cons_succ,N6];rw[ih i (by simpa using hi)];have h1:(i+1)*sz=sz+i*sz:=by rw[uB];omega
   have t1:(enc y).take (sz+i*sz)=enc y:=FT (by rw[he.len];omega);have d1:(enc y).drop (sz+i*sz+sz)=[]:=G0 (by rw[he.len];omega);rw[h1,JO,t1,he.len,show sz+i*sz-sz=i*sz by omega,List.drop_append,d1,he.len,show sz+i*sz+sz-sz=i*sz+sz by omega];simp only[CF,s5]
def rowOf{α:Type}(e:TypeId)(sz:Nat)(enc:α->List Value)(v:Value)(l:List α):bu:=λh =>
 (v= .slice none 0 0/\l=[]/\h=Hp.none)∨
 ∃g cap cur,v= .slice (some ⟨g,0,none⟩) l.length cap/\l.length<=cap/\cap<=maxLen/\cur.size=cap*sz/\cur.toList.take (l.length*sz)=l.flatMap enc/\pts g (.cells cur e) h
def slc{α:Type}(e:TypeId)(sz:Nat)(enc:α->List Value)(g cap:Nat)(l:List α):bu:=λh =>
 l.length<=cap/\cap<=maxLen/\∃cur:Array Value,cur.size=cap*sz/\cur.toList.take (l.length*sz)=l.flatMap enc/\pts g (.cells cur e) h
section
variable {w0 w:World}{L:List bu}{α:Type}{e:TypeId}{sz:Nat}{enc:α->List Value}{v:Value}{l:List α}{g cap:Nat}
theorem Fit.rows(h:Fit w0 (aG (rowOf e sz enc v l::L)) w):(v= .slice none 0 0/\l=[]/\Fit w0 (aG L) w)∨∃g cap,v= .slice (some ⟨g,0,none⟩) l.length cap/\l.length<=cap/\Fit w0 (aG (slc e sz enc g cap l::L)) w:=by
 obtain⟨x,hx,a,c,hd,ee,hp,q⟩:=h.sat;rcases hp with ⟨h1,h2,h3⟩ | ⟨g,cap,cur,h1,h2,h3,h4,h5,h6⟩
 ·left
  exact⟨h1,h2,h.drop⟩
 ·right
  exact⟨g,cap,h1,h2,⟨x,hx,a,c,hd,ee,⟨h2,h3,cur,h4,h5,h6⟩,q⟩,h.os,h.tape,h.output,h.size⟩
theorem Fit.SJ(h:Fit w0 (aG (rowOf e sz enc v l::L)) w)(hl:0<l.length) :∃g cap,v= .slice (some ⟨g,0,none⟩) l.length cap/\l.length<=cap/\Fit w0 (aG (slc e sz enc g cap l::L)) w:=by
 rcases h.rows with ⟨_,h2,_⟩ | h
 ·rw[h2]at hl;simp at hl
 ·exact h
theorem Fit.VT{ca:gF}{m cc:Nat}(h:Fit w0 (aG (rowOf e sz enc (.slice ca m cc) l::L)) w)(hl:0<l.length) :
 ∃g,ca=some ⟨g,0,none⟩/\Fit w0 (aG (slc e sz enc g cc l::L)) w:=by
 obtain⟨g,cap,e,_,h⟩:=h.SJ hl;simp only[Value.slice.injEq]at e;obtain⟨rfl,_,rfl⟩:=e;exact⟨g,rfl,h⟩
theorem Fit.XK(h:Fit w0 (aG (slc e sz enc g cap l::L)) w):Fit w0 (aG (rowOf e sz enc (.slice (some ⟨g,0,none⟩) l.length cap) l::L)) w:=
 h.head λ_ ⟨h1,h2,cur,h3,h4,h5⟩=>.inr ⟨g,cap,cur,rfl,h1,h2,h3,h4,h5⟩
theorem Fit.VU{m:Nat}(hm:m=l.length)(h:Fit w0 (aG (slc e sz enc g cap l::L)) w):Fit w0 (aG (rowOf e sz enc (.slice (some ⟨g,0,none⟩) m cap) l::L)) w:=hm▸ h.XK
theorem Fit.VV{ca:gF}{m:Nat}(hca:ca=some ⟨g,0,none⟩)(hm:m=l.length)(h:Fit w0 (aG (slc e sz enc g cap l::L)) w):Fit w0 (aG (rowOf e sz enc (.slice ca m cap) l::L)) w:=by
 subst hca;subst hm;exact h.XK
theorem Fit.kR(h:Fit w0 (aG L) w):Fit w0 (aG (rowOf e sz enc (.slice none 0 0) ([]:List α)::L)) w:=
 h.imp λx hx=>⟨Hp.none,x,Hp.JX x,(Hp.L7 x).symm,.inl ⟨rfl,rfl,rfl⟩,hx⟩
theorem Fit.GA(h:Fit w0 (aG (rowOf e sz enc v l::L)) w) :∃a cap,v= .slice a l.length cap/\(a=none->l=[]/\cap=0)/\l.length<=cap:=by
 rcases h.rows with ⟨rfl,rfl,_⟩ | ⟨g,cap,rfl,hc,_⟩
 ·exact⟨none,0,rfl,λ_=>⟨rfl,rfl⟩,ja _⟩
 ·exact⟨_,cap,rfl,(λh=>by cases h),hc⟩
theorem Fit.s6{ca:gF}{m cc:Nat}(h:Fit w0 (aG (rowOf e sz enc (.slice ca m cc) l::L)) w):m=l.length:=by
 obtain⟨a,cap,e,_,_⟩:=h.GA;simp only[Value.slice.injEq]at e;exact e.2.1
theorem Fit.Ad(h:Fit w0 (aG (slc e sz enc g cap l::L)) w):l.length<=cap/\cap<=maxLen:=by
 obtain⟨x,hx,a,c,hd,ee,⟨h1,h2,_⟩,q⟩:=h.sat;exact⟨h1,h2⟩
theorem Fit.sH(h:Fit w0 (aG (slc e sz enc g cap l::L)) w) :∃cur:Array Value,cur.size=cap*sz/\cur.toList.take (l.length*sz)=l.flatMap enc/\Fit w0 (aG (pts g (.cells cur e)::L)) w:=by
 obtain⟨x,hx,a,c,hd,ee,⟨h1,h2,cur,h3,h4,h5⟩,q⟩:=h.sat;exact⟨cur,h3,h4,⟨x,hx,a,c,hd,ee,h5,q⟩,h.os,h.tape,h.output,h.size⟩
theorem Fit.PT(he:uv enc sz)(h:Fit w0 (aG (slc e sz enc g cap l::L)) w)(i f:Nat)(x:α)(u:Value)(hi:l[i]? = some x)(hf:(enc x)[f]? = some u):w.cell? ⟨g,i*sz+f,none⟩=some u:=by
 obtain⟨cur,h1,h2,h3⟩:=h.sH;have hfs:f<sz:=by rw[<-he.len x];exact(List.getElem?_eq_some_iff.1 hf).1
 have Hf:i<l.length:=(List.getElem?_eq_some_iff.1 hi).1;refine h3.cell _ ?_;have h4:=he.get l i f x hi hfs;rw[<-h2,List.getElem?_take]at h4;have:i*sz+f<l.length*sz:=by
  have:(i+1)*sz<=l.length*sz:=rQ _ Hf;rw[uB]at this;omega
 rw[aM this,hf]at h4
 simpa using h4
theorem Fit.SK(h:Fit w0 (aG (slc e sz enc g cap l::L)) w)(j:Nat):w.frozen? ⟨g,j,none⟩=false:=by
 obtain⟨cur,h1,h2,h3⟩:=h.sH;exact h3.free j
theorem IX{β:Type}(cur xs:List β)(n i:Nat)(v:β)(h:cur.take n=xs)(_hi:i<n):(cur.set i v).take n=xs.set i v:=by
 subst h;rw[List.take_set]
theorem VW{β:Type}(A B C:List β)(k f:Nat)(u:β)(hk:k=A.length)(hf:f<B.length):(A++B++C).set (k+f) u=A++B.set f u++C:=by
 subst hk;rw[s5,List.set_append_right _ _ I,show A.length+f-A.length=f by omega,List.set_append_left _ _ hf,s5]
theorem Fit.VX(he:uv enc sz)(h:Fit w0 (aG (slc e sz enc g cap l::L)) w)(i f:Nat)(x y:α)(u:Value)(hi:l[i]? = some x)(hf:f<sz)(hy:enc y=(enc x).set f u) :
 Fit w0 (aG (slc e sz enc g cap (l.set i y)::L)) (w.setCell ⟨g,i*sz+f,none⟩ u):=by
 obtain⟨h1',h2'⟩:=h.Ad;obtain⟨cur,h1,h2,h3⟩:=h.sH;have Hf:i<l.length:=(List.getElem?_eq_some_iff.1 hi).1;refine(h3.set (i*sz+f) u).head λz hz=>⟨by simpa using h1',h2',cur.setIfInBounds (i*sz+f) u,by simpa using h1,?_,hz⟩;have hlt:i*sz+f<l.length*sz:=by
  have:(i+1)*sz<=l.length*sz:=rQ _ Hf;rw[uB]at this;omega
 have Hg:l.set i x=l:=by
  apply zm
  intro j;by_cases hj:i=j
  ·subst hj;rw[List.getElem?_set_self Hf,hi]
  ·rw[List.getElem?_set_ne hj]
 have hA:((l.flatMap enc).take (i*sz)).length=i*sz:=by
  have hle:i*sz<=l.length*sz:=rQ _ (Nat.le_of_lt Hf);rw[uV,he.flat];exact yu hle
 have e1:=he.set l i x Hf;rw[Hg]at e1;rw[Array.toList_setIfInBounds,gV,IX _ _ _ _ _ h2 hlt,he.set l i y Hf,hy]
 conv=>lhs;rw[e1]
 exact VW _ _ _ _ _ _ hA.symm (by rw[he.len];exact hf)
end
section
variable {P:Program}{w0 w:World}{L:List bu}{α:Type}{e:TypeId}{sz:Nat}{enc:α->List Value}{v:Value}{l:List α}
theorem Hh(he:uv enc sz)(t ty:TypeId)(i:TypeInfo)(z:Value)(bytes:Nat)(ht:P.underlying t=some (.slice e))(hi:P.info? e=some i)(hz:i.zero=some z)
 (hsize:i.size=sz) (hby:i.bytes=bytes) (hzs:z.cells.size=sz) (h:Fit w0 (aG (rowOf e sz enc v l::L)) w)
 (ad:Addr) (m c:Nat) (news:List α) (hm:news.length=m) (hnews:∀j u,(news.flatMap enc)[j]? = some u->w.cell? (ad.add j)=some u)
 (h63:l.length+m<=maxLen) (hbytes:(l.length+m)*bytes<=140737488355328) :
 ∃v' w',(Builtin.append_ #[t,t] ty #[v,.slice (some ad) m c]).run P w= .ok v' w'/\Fit w0 (aG (rowOf e sz enc v' (l++news)::L)) w':=by
 subst hsize;subst hby;have hlen:(news.flatMap enc).length=m*i.size:=by rw[he.flat,hm]
 have VY:((l.length+m:Nat):Int)<=9223372036854775807:=by simp only[maxLen]at h63;omega
 have grown:∀old,old<l.length+m->Fit w0 (aG L) w->
  Fit w0 (aG (rowOf e i.size enc (.slice (some ⟨w.heap.size,0,none⟩) (l.length+m) (grownCap w (l.length+m) old e)) (l++news)::L))
   (w.drew.alloc (.cells ((l.flatMap enc).toArray++(news.flatMap enc).toArray++Builtin.zeroCells z.cells (grownCap w (l.length+m) old e-(l.length+m))) e)):=by
  intro old ho hF;have hge:=grownCap_ge w (l.length+m) old e;have hcm:grownCap w (l.length+m) old e<=maxLen:=grownCap_le_maxLen w (l.length+m) old e h63;refine(hF.drew.alloc _).head λx hx=>.inr ⟨w.heap.size,_,_,by rw[kQ,hm],by rw[kQ,hm];exact hge,hcm,?_,?_,hx⟩
  ·simp only[Array.size_append,D8,size_zeroCells,hzs,he.flat,hm,<-uB]
   congr 1
   omega
  ·rw[D9,kQ,hm];simp only[Array.toList_append];rw[show(l.length+m)*i.size=((l.flatMap enc)++(news.flatMap enc)).length by rw[kQ,hlen,he.flat,uB]];exact G2
 rcases h.rows with ⟨rfl,rfl,hF⟩ | ⟨g,cap,rfl,hc,hF⟩
 ·by_cases SM:m=0
  ·subst SM;have hn:news=[]:=G3 hm;subst hn;refine⟨.slice none 0 0,w,?_,hF.kR⟩;simp[Builtin.append_,run_underlying ht,sizeOf,typeInfo,hi,Builtin.lenOf,Builtin.firstCells,loadCells,loadCellsFrom]
  ·have hr:=run_append_nil (P:=P) w t ty e i z ht hi hz ad m c (news.flatMap enc) hlen hnews I (by simp at VY;omega) (by have hb:=hbytes;simp only[xL,Dv]at hb;omega);have hg:=grown 0 I hF;simp only[xL,Dv,CF,List.flatMap_nil,Array.empty_append]at hg;exact⟨_,_,hr,by simpa using hg⟩
 ·obtain⟨cur,hs,htk,hP⟩:=hF.sH;obtain⟨_,hcm⟩:=hF.Ad;by_cases hroom:l.length+m<=cap
  ·have hfit:l.length*i.size+(news.flatMap enc).length<=cur.size:=by rw[hlen,hs,<-uB];exact rQ _ hroom
   have hr:=run_append_room (P:=P) w t ty e i ht hi g l.length cap cur hP.block ad m c (news.flatMap enc) hlen hnews (he.BO news) hroom hfit;refine⟨_,_,hr,?_⟩;refine(hP.turn (w':=w.setRow g (cur.toList.take (l.length*i.size)++news.flatMap enc++cur.toList.drop (l.length*i.size+(news.flatMap enc).length)).toArray) (setRow_heap w g cur _ e _ hP.block) (λk hk _=>setRow_other w g k _ hk) rfl rfl rfl (by simp)).head ?_;intro x hx;refine .inr ⟨g,cap,_,by rw[kQ,hm],by rw[kQ,hm];exact hroom,hcm,?_,?_,hx⟩
   ·simp only[D8,kQ,uV,C3,vy];omega
   ·rw[htk,D9,kQ,hm];rw[show(l.length+m)*i.size=((l.flatMap enc)++(news.flatMap enc)).length by rw[kQ,hlen,he.flat,uB]];exact G2
  ·have holds:∀j u,(l.flatMap enc)[j]? = some u->w.cell? ((⟨g,0,none⟩:Addr).add j)=some u:=by
    intro j u hu;rw[w4,Dv];refine hP.cell j ?_;rw[<-htk,List.getElem?_take]at hu;split at hu
    ·simpa using hu
    ·cases hu
   have hr:=run_append_grow (P:=P) w t ty e i z ht hi hz ⟨g,0,none⟩ l.length cap (l.flatMap enc) (he.flat l) holds ad m c (news.flatMap enc) hlen hnews I VY (growslice_fits I hbytes);exact⟨_,_,hr,grown cap I hP.drop⟩
end
end SL
end
section
namespace GX
open Go Go.RowKit SL
def lk:List (Nat×Value)->(Nat->Value)->Nat->Value
 | [],j,t=>j t
 | (k,v)::r,j,t=>bif Nat.beq t k then v else lk r j t
def eV(e:Nat->Value):Operand->Value
 | .tmp t=>e t
 | .const v=>v
 | .global g=>.pointer (some ⟨g,0,none⟩)
 | .func f=>.func (.func f) #[] #[]
structure cP(D:List Deferred)(n:Nat)(e:Nat->Value)(a:Act):Prop where
 size:a.tmps.size=n
 get:∀t,a.tmps.getD t undef=e t
 defers:a.defers=D
abbrev mF(n:Nat)(e:Nat->Value)(a:Act):Prop:=cP [] n e a
section
variable {P:Program}{ops:Array Oper}{Q:Exit->Act->World->Prop}{a:Act}{w w0 w1:World}{rest:List Oper}{o:Oper}{n d t:Nat}{v:Value}{l:List (Nat×Value)}{j e:Nat->Value}{L:List bu}{H:bu}{Df:List Deferred}
theorem cP.eval(h:cP Df n e a):a.eval=eV e:=by
 funext x
 cases x with
 | tmp t=>exact h.get t
 | _=>rfl
theorem cP.put(h:cP Df n (lk l j) a)(d:Nat)(v:Value)(hd:Nat.blt d n=true):cP Df n (lk ((d,v)::l) j) (a.put (some d) v):=by
 have hd':d<a.tmps.size:=by rw[h.size];exact pU hd
 refine⟨by simp[Act.put,h.size],λt => ?_,h.defers⟩;show(a.tmps.setIfInBounds d v).getD t undef=bif Nat.beq t d then v else lk l j t;rw[<-h.get t];by_cases e:t=d
 ·subst e;simp[yw,hd']
 ·have hb:Nat.beq t d=false:=by
   cases hb:Nat.beq t d with
   | false=>rfl
   | true=>exact absurd (PN hb) e
  rw[hb];simp[yw,Array.getElem?_setIfInBounds_ne (Ne.symm e)]
def allEq(e:Nat->Value):List (Nat×Value)->Prop
 | []=>True
 | (t,v)::r=>e t=v/\allEq e r
theorem wj:∀{l:List (Nat×Value)},allEq e l->lk l e=e
 | [],_=>rfl
 | (k,v)::r,h=>by
  funext t
  show(bif Nat.beq t k then v else lk r e t)=e t;rw[wj h.2];cases hb:Nat.beq t k with
  | false=>rfl
  | true=>have:=PN hb;subst this;exact h.1.symm
theorem cP.fold(h:cP Df n e a)(l:List (Nat×Value))(hl:allEq e l) :∃j,cP Df n (lk l j) a:=⟨e,by rw[wj hl];exact h⟩
theorem wn(h:o.guard=none):Region.wanted o (yielded ops a.tmps)=true:=by simp[Region.wanted,h]
theorem wg{i:Nat}{b b':Bool}(hr:cP Df n e a)(hg:o.guard=some (i,b))(hi:(ops[i]?).bind (·.dst)=some t)(ht:Nat.blt t n=true)(he:e t= .bool b') :
 Region.wanted o (yielded ops a.tmps)=(b'==b):=by
 have ht':t<a.tmps.size:=by rw[hr.size];exact pU ht
 have hg2:a.tmps[t]? = some (.bool b'):=by
  have:=hr.get t;rw[he,yw,Array.getElem?_eq_getElem ht']at this;rw[Array.getElem?_eq_getElem ht']
  simpa using this
 simp only[Region.wanted,hg,yielded,hi,Option.bind_some,hg2];cases b'<;>cases b<;>rfl
theorem xk(hw:vt o ops a)(h:o.wp P a w (wpList P ops Q rest) Q):wpList P ops Q (o::rest) a w:=by
 unfold wpList;rw[aM hw];exact .inl h
theorem Ae(hw:vt o ops a)(hd:o.dst=some d)(hn:Nat.blt d n=true)(hr:cP Df n (lk l j) a)
 (hrun:(execOp (eV (lk l j)) o).run P w= .ok (.value v) w) (k:∀a,cP Df n (lk ((d,v)::l) j) a->wpList P ops Q rest a w):wpList P ops Q (o::rest) a w:=by
 refine xk hw ?_;unfold Oper.wp;rw[hr.eval,hrun,Oper.upon_value,hd];exact k _ (hr.put d v hn)
theorem tw(hw:vt o ops a)(hd:o.dst=some d)(hn:Nat.blt d n=true)(hr:cP Df n (lk l j) a)
 (hrun:(execOp (eV (lk l j)) o).run P w= .ok (.value v) w1) (k:∀a,cP Df n (lk ((d,v)::l) j) a->wpList P ops Q rest a w1):wpList P ops Q (o::rest) a w:=by
 refine xk hw ?_;unfold Oper.wp;rw[hr.eval,hrun,Oper.upon_value,hd];exact k _ (hr.put d v hn)
theorem Eb(hw:vt o ops a)(hd:o.dst=none)(hr:cP Df n (lk l j) a)
 (hrun:(execOp (eV (lk l j)) o).run P w= .ok .skip w1) (k:wpList P ops Q rest a w1):wpList P ops Q (o::rest) a w:=by
 refine xk hw ?_;unfold Oper.wp;rw[hr.eval,hrun,Oper.upon_skip,hd];exact k
theorem N8(hw:Region.wanted o (yielded ops a.tmps)=false)(hd:o.dst=some d)(hn:Nat.blt d n=true)(hr:cP Df n (lk l j) a)
 (k:∀a,cP Df n (lk ((d,undef)::l) j) a->wpList P ops Q rest a w):wpList P ops Q (o::rest) a w:=by
 unfold wpList;rw[dD hw,hd];exact k _ (hr.put d undef hn)
theorem N9{cs:Array Value}{T:TypeId}{vf:Nat->Value}(hw:vt o ops a)(hd:o.dst=some d)(hn:Nat.blt d n=true)(hr:cP Df n (lk l j) a)(hF:Fit w0 (aG L) w)
 (hrun:(execOp (eV (lk l j)) o).run P w= .ok (.value (vf w.heap.size)) (w.alloc (.cells cs T)))
 (k:∀b w1 a,Fit w0 (aG (pts b (.cells cs T)::L)) w1->cP Df n (lk ((d,vf b)::l) j) a->wpList P ops Q rest a w1):wpList P ops Q (o::rest) a w:=
 tw hw hd hn hr hrun λ_ Hj=>k _ _ _ (hF.alloc _) Hj
theorem uY{f:FuncId}{args:Array Value}{R:Ending->World->Prop}(hw:vt o ops a)(hd:o.dst=some d)(hn:Nat.blt d n=true)(hr:cP Df n (lk l j) a)
 (hrun:(execOp (eV (lk l j)) o).run P w= .ok (.enter f args) w) (hc:Calls P f args w R)
 (k:∀e w1,R e w1->∃v,e= .returned v/\∀a,cP Df n (lk ((d,v)::l) j) a->wpList P ops Q rest a w1):wpList P ops Q (o::rest) a w:=by
 refine xk hw ?_;unfold Oper.wp;rw[hr.eval,hrun,Oper.upon_enter,hd];refine hc.mono λe w1 h => ?_;obtain⟨v,rfl,h2⟩:=k e w1 h;exact h2 _ (hr.put d v hn)
theorem rb{b c:Bool}{s:Sem Next}{w w':World}(h:s.run P w= .ok (.value (.bool b)) w')(hz:b=c):s.run P w= .ok (.value (.bool c)) w':=hz▸ h
theorem i64_in(x:Int)(h:-9223372036854775808<=x/\x<=9223372036854775807):IntKind.i64.wrap x=x:=IntWalk.i64_in _ h
def xO:Option TypeDesc->Bool
 | some (.struct _)=>false
 | some (.array _ _)=>false
 | some _=>true
 | none=>false
theorem Ko{t:TypeId}(h:xO (P.underlying t)=true):(isAgg t).run P w= .ok false w:=by
 cases hu:P.underlying t with
 | none=>rw[hu]at h;cases h
 | some D =>
  rw[hu]at h;simp only[isAgg,ou,run_underlying hu,ox];cases D<;>first | rfl | cases h
theorem rl{x:Operand}{ad:Addr}(ho:o.op= .load t x)(hx:eV e x= .pointer (some ad))(hu:xO (P.underlying t)=true)(hc:w.cell? ad=some v) :
 (execOp (eV e) o).run P w= .ok (.value v) w:=by
 unfold execOp;simp only[ho,Instr.loadAt,hx,Instr.sureAddr,loadVar,ou,uW,ox,Ko hu];simp[go_sem,hc]
theorem rs{x y:Operand}{ad:Addr}{u:Value}(ho:o.op= .store t x y)(hx:eV e x= .pointer (some ad))(hy:eV e y=v)(hv:v.cells=#[v])(h1:v.oneCell'=true)(hs:(P.info? t).map (·.size)=some 1)(hc:w.cell? ad=some u)(hf:w.frozen? ad=false) :
 (execOp (eV e) o).run P w= .ok .skip (w.setCell ad v):=by
 have hst:(Instr.storeAt t (.pointer (some ad)) v).run P w= .ok () (w.setCell ad v):=by
  cases hi:P.info? t with
  | none=>simp[hi]at hs
  | some i =>
   simp[hi]at hs;have ha:ad.add 0=ad:=by unfold Addr.add;rw[aM rfl]
   simp only[Instr.storeAt,Instr.sureAddr,storeVar,ou,uW,ox,sizeOf,typeInfo,hv,run_program,hi];simp[storeCells,ha,hs,run_store P w ad v _ h1,hc,hf]
 unfold execOp;simp only[ho,hx,hy,ou,hst,ox,uW]
theorem IY{c x y:Operand}{b:Bool}(ho:o.op= .pick c x y)(hc:eV e c= .bool b)(hb:b=true)(hx:eV e x=v):(execOp (eV e) o).run P w= .ok (.value v) w:=by
 subst hb;subst hx;unfold execOp;simp[ho,hc,asBool]
theorem IZ{c x y:Operand}{b:Bool}(ho:o.op= .pick c x y)(hc:eV e c= .bool b)(hb:b=false)(hx:eV e y=v):(execOp (eV e) o).run P w= .ok (.value v) w:=by
 subst hb;subst hx;unfold execOp;simp[ho,hc,asBool]
theorem ri{x y:Operand}{g off len cap:Nat}{k:IntKind}{i:Int}{E:TypeId}{sz:Nat}(ho:o.op= .indexAddr t x y)(hx:eV e x= .slice (some ⟨g,off,none⟩) len cap)(hy:eV e y= .int k i)
 (ht:P.underlying t=some (.slice E)) (hs:(P.info? E).map (·.size)=some sz) (h0:0<=i) (h1:i<len):(execOp (eV e) o).run P w= .ok (.value (.pointer (some ⟨g,off+i.toNat*sz,none⟩))) w:=by
 unfold execOp;simp only[ho,hx,hy];cases hi:P.info? E with
 | none=>simp[hi]at hs
 | some q =>
  simp[hi]at hs;simp[Instr.indexAt,run_underlying ht,asIntOf,h0,h1,sizeOf,typeInfo,hi,hs,w4]
theorem ri0{x y:Operand}{g len cap:Nat}{k:IntKind}{i:Int}{E:TypeId}{sz:Nat}(ho:o.op= .indexAddr t x y)(hx:eV e x= .slice (some ⟨g,0,none⟩) len cap)(hy:eV e y= .int k i)
 (ht:P.underlying t=some (.slice E)) (hs:(P.info? E).map (·.size)=some sz) (h0:0<=i) (h1:i<len):(execOp (eV e) o).run P w= .ok (.value (.pointer (some ⟨g,i.toNat*sz,none⟩))) w:=by
 have:=ri (w:=w) ho hx hy ht hs h0 h1
 rwa [Dv]at this
theorem YA{x y:Operand}{g len cap:Nat}{ca:gF}{k:IntKind}{i:Int}{E:TypeId}{sz:Nat}(hca:ca=some ⟨g,0,none⟩)(ho:o.op= .indexAddr t x y)(hx:eV e x= .slice ca len cap)(hy:eV e y= .int k i)
 (ht:P.underlying t=some (.slice E)) (hs:(P.info? E).map (·.size)=some sz) (h0:0<=i) (h1:i<len):(execOp (eV e) o).run P w= .ok (.value (.pointer (some ⟨g,i.toNat*sz,none⟩))) w:=
 ri0 ho (hca▸ hx) hy ht hs h0 h1
theorem rie{x y:Operand}{g off len cap:Nat}{ca:gF}{k:IntKind}{i:Int}{E:TypeId}{sz:Nat}(hca:ca=some ⟨g,off,none⟩)(ho:o.op= .indexAddr t x y)(hx:eV e x= .slice ca len cap)(hy:eV e y= .int k i)
 (ht:P.underlying t=some (.slice E)) (hs:(P.info? E).map (·.size)=some sz) (h0:0<=i) (h1:i<len):(execOp (eV e) o).run P w= .ok (.value (.pointer (some ⟨g,off+i.toNat*sz,none⟩))) w:=
 ri ho (hca▸ hx) hy ht hs h0 h1
theorem Ma{x y:Operand}{k:IntKind}{p q:Int}{T T':TypeId}(ho:o.op= .binOp .rem T x y T')(hx:eV e x= .int k p)(hy:eV e y= .int k q)(hq:q≠0):(execOp (eV e) o).run P w= .ok (.value (.int k (p.tmod q))) w:=by
 unfold execOp;simp[ho,hx,hy,eqGuard,binOp,Op.intDiv,hq]
theorem SN{x y:Operand}{k:IntKind}{p q:Int}{T T':TypeId}(ho:o.op= .binOp .quo T x y T')(hx:eV e x= .int k p)(hy:eV e y= .int k q)(hq:q≠0):(execOp (eV e) o).run P w= .ok (.value (.int k (k.wrap (p.tdiv q)))) w:=by
 unfold execOp;simp[ho,hx,hy,eqGuard,binOp,Op.intDiv,hq]
theorem Mb{K:Act->World->Prop}(h:K a w):Exit.then K Q .normal a w:=h
theorem Hl{i:Nat}(h:Q .normal a w):Exit.inBlock i Q .normal a w:=h
theorem SP{i:Nat}(h:Q .normal a w):Exit.inBlock i Q (.exit i) a w:=by show(if i=i then _ else _);rw[aM rfl];exact h
theorem Ct{i i':Nat}(hne:i'≠i)(h:Q (.exit i') a w):Exit.inBlock i Q (.exit i') a w:=by show(if i'=i then _ else _);rw[bZ hne];exact h
theorem Ho{c:Operand}{x y:Code}{b:Bool}(hr:cP Df n e a)(hc:eV e c= .bool b)(hb:b=true)(h:x.wp P Q a w):(Code.cond c x y).wp P Q a w:=
 wp_cond_true (by rw[hr.eval,hc,hb]) h
theorem Hq{c:Operand}{x y:Code}{b:Bool}(hr:cP Df n e a)(hc:eV e c= .bool b)(hb:b=false)(h:y.wp P Q a w):(Code.cond c x y).wp P Q a w:=
 wp_cond_false (by rw[hr.eval,hc,hb]) h
theorem eD{β:Type}{c:Code}(μ:β->Nat)(afW:β->Act->World->Prop)(x0:β)(h0:afW x0 a w)
 (round:∀x a w,afW x a w->c.wp P (Exit.then (λa w =>∃x',afW x' a w/\μ x'<μ x) Q) a w):(Code.loop c).wp P Q a w:=by
 have key:∀m x a w,μ x=m->afW x a w->∀b k cs,∃e a' w',Q e a' w'/\Arrives P (lone (b.at a (.code c:: .inLoop c::k)) cs w) b k cs e a' w':=by
  intro m
  induction m using Nat.strongRecOn with
  | _ m ih =>
   intro x a w hm hI b k cs;obtain⟨e,a1,w1,hq,Mc⟩:=round x a w hI b (.inLoop c::k) cs;cases e with
   | normal =>
    obtain⟨x',hI',hlt⟩:=hq;obtain⟨e2,a2,w2,hq2,aaG⟩:=ih (μ x') (hm▸ hlt) x' a1 w1 rfl hI' b k cs;exact⟨e2,a2,w2,hq2,.of_steps (Steps.trans Mc (.one step_inLoop)) aaG⟩
   | exit id=>exact⟨_,a1,w1,hq,.pass (x:=.inLoop c) rfl (λ_ _=>.inl (by simp)) Mc⟩
   | goto l=>exact⟨_,a1,w1,hq,.pass (x:=.inLoop c) rfl (λ_ _=>.inl (by simp)) Mc⟩
   | ret=>exact⟨_,a1,w1,hq,.pass (x:=.inLoop c) rfl (λ_ _=>.inl (by simp)) Mc⟩
   | panic ch=>exact⟨_,a1,w1,hq,.pass (x:=.inLoop c) rfl (λ_ _=>.inl (by simp)) Mc⟩
   | outgrown=>exact⟨_,a1,w1,hq,.pass (x:=.inLoop c) rfl (λ_ _=>.inl (by simp)) Mc⟩
 intro b k cs;obtain⟨e,a',w',hq,Mc⟩:=key _ x0 a w rfl h0 b k cs;exact⟨e,a',w',hq,.of_steps (.one step_loop) Mc⟩
theorem dz{β:Type}{x y:Code}(afW:β->Act->World->Prop)(h:x.wp P (Exit.then (λa w =>∃g,afW g a w) Q) a w)(k:∀g a w,afW g a w->y.wp P Q a w):(Code.seq x y).wp P Q a w:=
 wp_seq (Code.wp_mono (λe a w q=>by
  cases e with
  | normal=>obtain⟨g,hg⟩:=q;exact k g a w hg
  | _=>exact q) h)
theorem Hr(args:Array Value)(m t:Nat):(args++Array.replicate m undef).getD t undef=args.getD t undef:=by
 simp only[yw,Array.getElem?_append,Array.getElem?_replicate];by_cases h:t<args.size
 ·rw[aM h]
 ·rw[bZ h,Array.getElem?_eq_none I];split<;>rfl
theorem enter{f:FuncId}{fn:Func}{c:Code}{args:Array Value}{R:Ending->World->Prop}(hf:P.funcs[f]? = some fn)(hb:fn.body=some c)(n:Nat)(hn:fn.ntmps=n)(hs:Nat.ble args.size n=true)
 (l:List (Nat×Value)) (hl:allEq (λt=>args.getD t undef) l) (k:∀j a,mF n (lk l j) a->c.wp P (bodyPost P fn R) a w):Calls P f args w R:=by
 refine calls_of_wp hf hb (k (λt=>args.getD t undef) _ ?_);rw[wj hl];refine⟨?_,λt=>Hr args _ t,rfl⟩;have:=pU hs;simp[hn];omega
theorem zp{fn:Func}{R:Ending->World->Prop}{t:Nat}(hres:fn.results=#[.tmp t])(hr:mF n e a)(hv:e t=v)(h:R (.returned v) w):bodyPost P fn R .ret a w:=
 bodyPost_ret (by rw[results_tmp hres,hr.get,hv]) hr.defers h
theorem Ec{fn:Func}{R:Ending->World->Prop}{t t':Nat}{v':Value}(hres:fn.results=#[.tmp t,.tmp t'])(hr:mF n e a)(hv:e t=v)(Sk:e t'=v')(h:R (.returned (.tuple #[v,v'])) w):bodyPost P fn R .ret a w:=
 bodyPost_ret (by rw[results_tmp2 hres,hr.get,hr.get,hv,Sk]) hr.defers h
theorem Hs{fn:Func}{R:Ending->World->Prop}(hres:fn.results=#[])(hr:mF n e a)(h:R (.returned (.tuple #[])) w):bodyPost P fn R .ret a w:=
 bodyPost_ret (results_none hres _ _ _) hr.defers h
theorem qb{fn:Func}{R:Ending->World->Prop}(hres:fn.results=#[])(hr:mF n e a)(h:R (.returned (.tuple #[])) w):bodyPost P fn R .normal a w:=
 bodyPost_end (results_none hres _ _ _) hr.defers h
end
def J{α:Type}[Inhabited α](l:List α)(i:Nat):α:=l.getD i default
theorem get_at{α:Type}[Inhabited α]{l:List α}{i:Nat}(h:i<l.length):l[i]? = some (J l i):=by
 unfold J;rw[List.getD_eq_getElem?_getD,List.getElem?_eq_getElem h];rfl
theorem uK{α:Type}[Inhabited α]{l:List α}{i:Nat}{x:α}(h:i<l.length):J (l.set i x) i=x:=by
 unfold J;rw[List.getD_eq_getElem?_getD,List.getElem?_set_self h];rfl
theorem zq{α:Type}[Inhabited α]{l:List α}{i k:Nat}{x:α}(h:i≠k):J (l.set i x) k=J l k:=by
 unfold J;rw[List.getD_eq_getElem?_getD,List.getElem?_set_ne h,List.getD_eq_getElem?_getD]
theorem s7{α:Type}[Inhabited α]{l m:List α}{i:Nat}(h:i<l.length):J (l++m) i=J l i:=by
 unfold J;rw[List.getD_eq_getElem?_getD,List.getElem?_append_left h,List.getD_eq_getElem?_getD]
theorem wT{α:Type}[Inhabited α]{l m:List α}{i:Nat}(h:l.length<=i):J (l++m) i=J m (i-l.length):=by
 unfold J;rw[List.getD_eq_getElem?_getD,List.getElem?_append_right h,List.getD_eq_getElem?_getD]
theorem dy{α:Type}{l:List α}{i:Nat}{x:α}(h:i<l.length):(l.set i x)[i]? = some x:=List.getElem?_set_self h
def rm(w:World)(b:Nat):Nat->List Value->Prop
 | _,[]=>True
 | off,v::r=>w.cell? ⟨b,off,none⟩=some v/\rm w b (off+1) r
theorem vH{w:World}{b:Nat}:∀{cs:List Value} {off:Nat},rm w b off cs->∀j v,cs[j]? = some v->w.cell? ((⟨b,off,none⟩:Addr).add j)=some v
 | [],_,_,j,v,h=>by simp at h
 | u::r,off,hh,j,v,h=>by
  cases j with
  | zero=>simp at h;subst h;rw[w4];exact hh.1
  | succ j =>
   have:=vH hh.2 j v (by simpa using h);rw[w4]at this⊢;rw[show off+(j+1)=off+1+j by omega];exact this
section
variable {P:Program}{ops:Array Oper}{Q:Exit->Act->World->Prop}{a:Act}{w w0 w1:World}{rest:List Oper}{o:Oper}{n d t:Nat}{v:Value}{l:List (Nat×Value)}{j e:Nat->Value}{L:List bu}{H:bu}{Df:List Deferred}
def uC:Option TypeDesc->Bool
 | some (.struct _)=>true
 | some (.array _ _)=>true
 | _=>false
theorem uc{t:TypeId}(h:uC (P.underlying t)=true):(isAgg t).run P w= .ok true w:=by
 cases hu:P.underlying t with
 | none=>rw[hu]at h;cases h
 | some D =>
  rw[hu]at h;simp only[isAgg,ou,run_underlying hu,ox];cases D<;>first | rfl | cases h
theorem rlm{x:Operand}{b off:Nat}{cs:List Value}(ho:o.op= .load t x)(hx:eV e x= .pointer (some ⟨b,off,none⟩))(hu:uC (P.underlying t)=true)
 (hs:(P.info? t).map (·.size)=some cs.length) (hc:rm w b off cs):(execOp (eV e) o).run P w= .ok (.value (.agg cs.toArray)) w:=by
 have hl:=run_loadCells_list (P:=P) w ⟨b,off,none⟩ cs (vH hc);unfold execOp;cases hi:P.info? t with
 | none=>simp[hi]at hs
 | some q =>
  simp[hi]at hs;simp only[ho,Instr.loadAt,hx,Instr.sureAddr,loadVar,ou,uW,ox,uc hu,if_true,sizeOf,typeInfo,run_program,hi,hs,hl]
theorem SQ{fn:Func}{R:Ending->World->Prop}{t T b off:Nat}{cs:List Value}(hres:fn.results=#[.cell t T])(hr:mF n e a)(hv:e t= .pointer (some ⟨b,off,none⟩))(hu:uC (P.underlying T)=true)
 (hs:(P.info? T).map (·.size)=some cs.length) (hc:rm w b off cs) (h:R (.returned (.agg cs.toArray)) w):bodyPost P fn R .ret a w:=by
 have hl:=run_loadCells_list (P:=P) w ⟨b,off,none⟩ cs (vH hc);refine bodyPost_ret ?_ hr.defers h;cases hi:P.info? T with
 | none=>simp[hi]at hs
 | some q =>
  simp[hi]at hs;have hg:=hr.get t;rw[hv,yw]at hg;simp[results,hres,hg,asAddr,loadVar,uc hu,sizeOf,typeInfo,hi,hs,hl]
theorem Rb{fn:Func}{R:Ending->World->Prop}{t T b off u:Nat}{cs:List Value}(hres:fn.results=#[.cell t T,.tmp u])(hr:mF n e a)(hv:e t= .pointer (some ⟨b,off,none⟩))(Sk:e u=v)(hu:uC (P.underlying T)=true)
 (hs:(P.info? T).map (·.size)=some cs.length) (hc:rm w b off cs) (h:R (.returned (.tuple #[.agg cs.toArray,v])) w):bodyPost P fn R .ret a w:=by
 have hl:=run_loadCells_list (P:=P) w ⟨b,off,none⟩ cs (vH hc);refine bodyPost_ret ?_ hr.defers h;cases hi:P.info? T with
 | none=>simp[hi]at hs
 | some q =>
  simp[hi]at hs;have hg:=hr.get t;rw[hv,yw]at hg;have JY:=hr.get u;rw[Sk,yw]at JY;simp[results,hres,hg,JY,asAddr,loadVar,uc hu,sizeOf,typeInfo,hi,hs,hl]
theorem Dw{fn:Func}{R:Ending->World->Prop}{v2:Value}{t T b off u u2:Nat}{cs:List Value}(hres:fn.results=#[.cell t T,.tmp u,.tmp u2])(hr:mF n e a)(hv:e t= .pointer (some ⟨b,off,none⟩))(Sk:e u=v)(Bz:e u2=v2)(hu:uC (P.underlying T)=true)
 (hs:(P.info? T).map (·.size)=some cs.length) (hc:rm w b off cs) (h:R (.returned (.tuple #[.agg cs.toArray,v,v2])) w):bodyPost P fn R .ret a w:=by
 have hl:=run_loadCells_list (P:=P) w ⟨b,off,none⟩ cs (vH hc);refine bodyPost_ret ?_ hr.defers h;cases hi:P.info? T with
 | none=>simp[hi]at hs
 | some q =>
  simp[hi]at hs;have hg:=hr.get t;rw[hv,yw]at hg;have JY:=hr.get u;rw[Sk,yw]at JY;have hg2:=hr.get u2;rw[Bz,yw]at hg2;simp[results,hres,hg,JY,hg2,asAddr,loadVar,uc hu,sizeOf,typeInfo,hi,hs,hl]
theorem Mf{x y:Operand}{b i:Nat}{cs:Array Value}{T:TypeId}{u:Value}(hw:vt o ops a)(hd:o.dst=none)(hr:cP Df n (lk l j) a)(ho:o.op= .store t x y)
 (hx:eV (lk l j) x= .pointer (some ⟨b,i,none⟩)) (hy:eV (lk l j) y=v) (hv:v.cells=#[v]) (h1:v.oneCell'=true) (hs:(P.info? t).map (·.size)=some 1)
 (hF:Fit w0 (aG (pts b (.cells cs T)::L)) w) (hc:cs[i]? = some u) (k:∀w1,Fit w0 (aG (pts b (.cells (cs.setIfInBounds i v) T)::L)) w1->wpList P ops Q rest a w1):wpList P ops Q (o::rest) a w:=
 Eb hw hd hr (rs ho hx hy hv h1 hs (hF.cell i hc) (hF.free i)) (k _ (hF.set i v))
theorem JZ{x y:Operand}{b:Nat}{cs cs':Array Value}{T:TypeId}{vs:List Value}(hw:vt o ops a)(hd:o.dst=none)(hr:cP Df n (lk l j) a)(ho:o.op= .store t x y)
 {i:Nat} (hx:eV (lk l j) x= .pointer (some ⟨b,i,none⟩)) (hy:eV (lk l j) y= .agg vs.toArray) (h1:vs.all (·.oneCell')=true) (hfit:Nat.ble (i+vs.length) cs.size=true) (hs:(P.info? t).map (·.size)=some vs.length)
 (hF:Fit w0 (aG (pts b (.cells cs T)::L)) w) (hcs:(cs.toList.take i++vs++cs.toList.drop (i+vs.length)).toArray=cs') (k:∀w1,Fit w0 (aG (pts b (.cells cs' T)::L)) w1->wpList P ops Q rest a w1):wpList P ops Q (o::rest) a w:=by
 have hst:=run_storeCells_at P b i T vs 0 cs w hF.block (by simpa using pU hfit) (by simpa using h1);simp only[w5,hcs]at hst;refine Eb (w1:=w.setRow b cs') hw hd hr ?_ (k _ ?_)
 ·unfold execOp;cases hi:P.info? t with
  | none=>simp[hi]at hs
  | some q =>
   simp[hi]at hs;simp only[ho,hx,hy,Instr.storeAt,Instr.sureAddr,storeVar,ou,uW,ox,sizeOf,typeInfo,run_program,hi,Value.cells];simp[hs,hst]
 ·exact hF.turn (w':=w.setRow b cs') (setRow_heap w b cs cs' T (0,0) hF.block) (λk hk _=>setRow_other w b k _ hk) rfl rfl rfl (by simp)
section
variable {α:Type}{E:TypeId}{sz g cap:Nat}{enc:α->List Value}{xs:List α}
theorem Kp{x y:Operand}(hw:vt o ops a)(hd:o.dst=none)(hr:cP Df n (lk l j) a)(ho:o.op= .store t x y)
 {i f:Nat} (hx:eV (lk l j) x= .pointer (some ⟨g,i*sz+f,none⟩)) (hy:eV (lk l j) y=v) (hv:v.cells=#[v]) (h1:v.oneCell'=true) (hs:(P.info? t).map (·.size)=some 1)
 (he:uv enc sz) (hF:Fit w0 (aG (slc E sz enc g cap xs::L)) w) {p q:α} (hp:xs[i]? = some p) (hf:f<sz) (hq:enc q=(enc p).set f v)
 (k:∀w1,Fit w0 (aG (slc E sz enc g cap (xs.set i q)::L)) w1->wpList P ops Q rest a w1):wpList P ops Q (o::rest) a w:=by
 have hu:(enc p)[f]? = some (enc p)[f]!:=by
  have:f<(enc p).length:=by rw[he.len];exact hf
  rw[List.getElem?_eq_getElem this,List.getElem!_eq_getElem?_getD,List.getElem?_eq_getElem this]
  rfl
 exact Eb hw hd hr (rs ho hx hy hv h1 hs (hF.PT he i f p _ hp hu) (hF.SK _)) (k _ (hF.VX he i f p q v hp hf hq))
theorem I0{x y:Operand}{vs:List Value}(hw:vt o ops a)(hd:o.dst=none)(hr:cP Df n (lk l j) a)(ho:o.op= .store t x y)
 {i:Nat} (hx:eV (lk l j) x= .pointer (some ⟨g,i*sz,none⟩)) (hy:eV (lk l j) y= .agg vs.toArray) (h1:vs.all (·.oneCell')=true) (hs:(P.info? t).map (·.size)=some vs.length)
 (he:uv enc sz) (hF:Fit w0 (aG (slc E sz enc g cap xs::L)) w) {q:α} (hi:i<xs.length) (hq:enc q=vs)
 (k:∀w1,Fit w0 (aG (slc E sz enc g cap (xs.set i q)::L)) w1->wpList P ops Q rest a w1):wpList P ops Q (o::rest) a w:=by
 obtain⟨Ht,F7⟩:=hF.Ad;obtain⟨cur,YB,NZ,hP⟩:=hF.sH;have hvl:vs.length=sz:=by rw[<-hq,he.len]
 have hle:i*sz+sz<=xs.length*sz:=by
  have:(i+1)*sz<=xs.length*sz:=rQ _ hi;rw[uB]at this;omega
 have YC:xs.length*sz<=cap*sz:=rQ _ Ht;have hst:=run_storeCells_at P g (i*sz) E vs 0 cur w hP.block (by rw[hvl];omega) (by simpa using h1);simp only[w5]at hst;refine Eb (w1:=w.setRow g (cur.toList.take (i*sz)++vs++cur.toList.drop (i*sz+vs.length)).toArray) hw hd hr ?_ (k _ ?_)
 ·unfold execOp;cases Dx:P.info? t with
  | none=>simp[Dx]at hs
  | some q =>
   simp[Dx]at hs;simp only[ho,hx,hy,Instr.storeAt,Instr.sureAddr,storeVar,ou,uW,ox,sizeOf,typeInfo,run_program,Dx,Value.cells];simp[hs,hst]
 ·refine(hP.turn (w':=w.setRow g (cur.toList.take (i*sz)++vs++cur.toList.drop (i*sz+vs.length)).toArray) (setRow_heap w g cur _ E (0,0) hP.block) (λk hk _=>setRow_other w g k _ hk) rfl rfl rfl (by simp)).head λz hz=>⟨by simpa using Ht,F7,_,?_,?_,hz⟩
  ·simp only[D8,kQ,uV,C3,vy,hvl];omega
  ·rw[gV,he.set xs i q hi,hq,<-NZ];have hA:(cur.toList.take (i*sz)).length=i*sz:=by rw[uV,vy];omega
   have e1:(cur.toList.take (i*sz)++vs++cur.toList.drop (i*sz+vs.length)).take (xs.length*sz)=cur.toList.take (i*sz)++vs++(cur.toList.drop (i*sz+vs.length)).take (xs.length*sz-(i*sz+sz)):=by
    rw[JO,FT (by rw[kQ,hA,hvl];exact hle),kQ,hA,hvl]
   rw[LZ,e1,List.take_take,yu I,JP,hvl]
theorem nY{ca:gF}{n0 cc bytes:Nat}{s x:Operand}{ad:Addr}{m c:Nat}(hw:vt o ops a)(hd:o.dst=some d)(hn:Nat.blt d n=true)(hr:cP Df n (lk l j) a)
 (ho:o.op= .call {callee:=.builtin .append,args:=#[s,x],argTypes:=#[t,t]}) (hs:eV (lk l j) s= .slice ca n0 cc) (hx:eV (lk l j) x= .slice (some ad) m c)
 (he:uv enc sz) (hty:P.underlying t=some (.slice E)) (rS:(P.info? E).map (λi=>(i.size,i.bytes,i.zero.map (·.cells.size)))=some (sz,bytes,some sz))
 (hF:Fit w0 (aG (rowOf E sz enc (.slice ca n0 cc) xs::L)) w) {news:List α} (hm:news.length=m) (hnews:∀j u,(news.flatMap enc)[j]? = some u->w.cell? (ad.add j)=some u)
 (hb:(xs.length+m)*bytes<=140737488355328) (N0:Nat.blt 0 bytes=true)
 (k:∀ca cc w1 a,Fit w0 (aG (rowOf E sz enc (.slice ca (xs++news).length cc) (xs++news)::L)) w1->cP Df n (lk ((d,.slice ca (xs++news).length cc)::l) j) a->wpList P ops Q rest a w1):wpList P ops Q (o::rest) a w:=by
 have GB:=hF.s6;subst GB;cases hi:P.info? E with
 | none=>simp[hi]at rS
 | some i =>
  simp only[hi,vz,Option.some.injEq,Prod.mk.injEq]at rS;obtain⟨i1,i2,i3⟩:=rS;cases hz:i.zero with
  | none=>simp[hz]at i3
  | some zv =>
   simp only[hz,vz,Option.some.injEq]at i3;have Mg:0<bytes:=pU N0;have h63:xs.length+m<=maxLen:=by
    have:xs.length+m<=(xs.length+m)*bytes:=L0 _ Mg;simp only[maxLen];omega
   obtain⟨v',w',hrun,Fa⟩:=Hh (P:=P) he t o.type i zv bytes hty hi hz i1 i2 i3 hF ad m c news hm hnews h63 hb;obtain⟨a',cap',e,_,_⟩:=Fa.GA;subst e;refine tw hw hd hn hr ?_ (λa hr=>k a' cap' w' a Fa hr);unfold execOp;simp only[ho,resolve,invoke,builtin,ou,uW,ox,JQ,C4,Ea,hs,hx,hrun]
end
end
section
variable {α:Type}{sz:Nat}{enc:α->List Value}
theorem Hu(he:uv enc sz)(zc:Array Value)(z0:α)(hz:zc.toList=enc z0)(n:Nat) :
 ((Array.range (n*sz)).map λi=>zc[i%zc.size]!).toList=(List.replicate n z0).flatMap enc:=by
 have hs:zc.size=sz:=by rw[<-vy,hz,he.len]
 have hpos:=he.pos
 apply zm
 intro i;rw[Array.toList_map,Array.toList_range,List.getElem?_map];by_cases hi:i<n*sz
 ·have hd:i/sz<n:=(Nat.div_lt_iff_lt_mul hpos).2 hi;have hm:i%sz<sz:=BF _ hpos;have hg:=he.get (List.replicate n z0) (i/sz) (i%sz) z0 (by rw[List.getElem?_replicate,aM hd]) hm;rw[show i/sz*sz+i%sz=i by rw[Nat.mul_comm];exact FU i sz]at hg;rw[hg,List.getElem?_range hi,<-hz,hs];have hm':i%sz<zc.size:=by omega
  simp[hm']
 ·rw[List.getElem?_eq_none (by simp;omega),List.getElem?_eq_none (by rw[he.flat,nX];omega)]
  rfl
end
section
variable {P:Program}{ops:Array Oper}{Q:Exit->Act->World->Prop}{a:Act}{w w0 w1:World}{rest:List Oper}{o:Oper}{n d t:Nat}{v:Value}{l:List (Nat×Value)}{j e:Nat->Value}{L:List bu}{H:bu}{Df:List Deferred}
variable {α:Type}{E:TypeId}{sz g cap:Nat}{enc:α->List Value}{xs:List α}
theorem PU{bytes:Nat}{zc:Array Value}(h:(P.info? E).map (λi=>(i.size,i.bytes,i.zero.map (·.cells)))=some (sz,bytes,some zc)) :
 ∃i z,P.info? E=some i/\i.size=sz/\i.bytes=bytes/\i.zero=some z/\z.cells=zc:=by
 cases hi:P.info? E with
 | none=>simp[hi]at h
 | some i =>
  simp only[hi,vz,Option.some.injEq,Prod.mk.injEq]at h;obtain⟨h1,h2,h3⟩:=h;cases hz:i.zero with
  | none=>simp[hz]at h3
  | some z=>exact⟨i,z,rfl,h1,h2,hz,by simpa [hz]using h3⟩
theorem VZ{x y:Operand}{c:Nat}{i:Int}{bytes:Nat}{zc:Array Value}(z0:α)(hw:vt o ops a)(hd:o.dst=some d)(hn:Nat.blt d n=true)(hr:cP Df n (lk l j) a)
 (ho:o.op= .makeSlice t x y) (hx:eV (lk l j) x= .int .i64 i) (hy:eV (lk l j) y= .int .i64 i) (hi:i=c) (he:uv enc sz) (hty:P.underlying t=some (.slice E))
 (rS:(P.info? E).map (λi=>(i.size,i.bytes,i.zero.map (·.cells)))=some (sz,bytes,some zc)) (hz:zc.toList=enc z0) (hb:c*bytes<=140737488355328) (N0:Nat.blt 0 bytes=true) (hF:Fit w0 (aG L) w)
 (k:∀g w1 a,Fit w0 (aG (slc E sz enc g c (List.replicate c z0)::L)) w1->cP Df n (lk ((d,.slice (some ⟨g,0,none⟩) c c)::l) j) a->wpList P ops Q rest a w1):wpList P ops Q (o::rest) a w:=by
 obtain⟨q,z,hq,h1,h2,h3,h4⟩:=PU rS;have Mg:0<bytes:=pU N0;have hc:c<=c*bytes:=L0 _ Mg;subst hi;have hcb:((q.bytes:Nat):Int)*(c:Int)<=281474976710656:=by
  have adv:((c*bytes:Nat):Int)<=140737488355328:=by omega
  rw[h2,FV];simp only[Int.natCast_mul]at adv;omega
 have hrun:=run_make (P:=P) w t E q z hty hq h3 .i64 .i64 (c:Int) (c:Int) I I hcb I;have hs:zc.size=sz:=by rw[<-vy,hz,he.len]
 have hcells:(madeCells z.cells ((c:Int).toNat*q.size)).toList=(List.replicate c z0).flatMap enc:=by
  rw[h1,h4,cL];exact Hu he zc z0 hz c
 refine tw (w1:=w.alloc (.cells (madeCells z.cells ((c:Int).toNat*q.size)) E)) hw hd hn hr (v:=.slice (some ⟨w.heap.size,0,none⟩) c c) ?_ (λa hr=>k w.heap.size _ a ?_ hr)
 ·unfold execOp;simp only[ho,hx,hy,ou,hrun,ox,uW,cL]
 ·refine(hF.alloc _).head λx hx=>⟨by simp,by simp only[maxLen];omega,_,?_,?_,hx⟩
  ·rw[<-vy,hcells,he.flat,nX]
  ·rw[hcells,nX,FT (by rw[he.flat,nX];exact ja _)]
theorem Rc{ca:gF}{n0 cc bytes:Nat}{s x:Operand}{tx:TypeId}{m:Nat}{i:Int}{zc:Array Value}{kx:IntKind}(z0:α)(hw:vt o ops a)(hd:o.dst=some d)(hn:Nat.blt d n=true)(hr:cP Df n (lk l j) a)
 (ho:o.op= .call {callee:=.builtin .append,args:=#[s,x],argTypes:=#[t,tx]}) (hs:eV (lk l j) s= .slice ca n0 cc) (hx:eV (lk l j) x= .int .i64 i) (hi:i=m)
 (he:uv enc sz) (hty:P.underlying t=some (.slice E)) (htx:P.underlying tx=some (.int kx)) (rS:(P.info? E).map (λi=>(i.size,i.bytes,i.zero.map (·.cells)))=some (sz,bytes,some zc)) (hz:zc.toList=enc z0)
 (hF:Fit w0 (aG (rowOf E sz enc (.slice ca n0 cc) xs::L)) w) (hb:(xs.length+m)*bytes<=140737488355328) (N0:Nat.blt 0 bytes=true)
 (k:∀ca cc w1 a,Fit w0 (aG (rowOf E sz enc (.slice ca (xs++List.replicate m z0).length cc) (xs++List.replicate m z0)::L)) w1->cP Df n (lk ((d,.slice ca (xs++List.replicate m z0).length cc)::l) j) a->wpList P ops Q rest a w1):wpList P ops Q (o::rest) a w:=by
 have GB:=hF.s6;subst GB;obtain⟨q,zv,hq,h1,h2,h3,h4⟩:=PU rS;have Mg:0<bytes:=pU N0;have YE:m<=m*bytes:=L0 _ Mg;have hxx:xs.length<=xs.length*bytes:=L0 _ Mg;have afp:(xs.length+m)*bytes=xs.length*bytes+m*bytes:=uB _ _ _;subst hi;have hzs:zv.cells.size=sz:=by rw[h4,<-vy,hz,he.len]
 have hzl:(Builtin.zeroCells zv.cells m).toList=(List.replicate m z0).flatMap enc:=by
  have:=Hu he zc z0 hz m;rw[<-h4]at this;rw[<-this,<-hzs]
  rfl
 have hpos:=he.pos;have hzv:∀w,(zeroValue E).run P w= .ok zv w:=λw=>by
  simp only[zeroValue,typeInfo,ou,run_program,hq,ox,uW,h3]
 have YF:((List.replicate m z0).flatMap enc).length=m*sz:=by rw[he.flat,nX]
 have aaH:=he.BO (List.replicate m z0);have PV:IntKind.i64.wrap (m:Int)=m:=IntWalk.i64_in _ I;have Vw:¬((m:Int)<0):=by omega
 have hn2:¬(281474976710656<(m:Int)*(q.bytes:Int)):=by
  have:((m*bytes:Nat):Int)<=140737488355328:=by omega
  rw[h2];simp only[Int.natCast_mul]at this;omega
 have main :∃v' w',(Builtin.append_ #[t,tx] o.type #[.slice ca xs.length cc,.int .i64 (m:Int)]).run P w= .ok v' w'/\Fit w0 (aG (rowOf E sz enc v' (xs++List.replicate m z0)::L)) w':=by
  by_cases hroom:xs.length+m<=cc
  ·rcases hF.rows with ⟨e1,e2,Fa⟩ | ⟨g,cap,e1,_,Fa⟩
   ·simp only[Value.slice.injEq]at e1;obtain⟨rfl,e3,rfl⟩:=e1;have SM:m=0:=by omega
    subst SM;subst e2;refine⟨.slice none 0 0,w,?_,by simpa using Fa.kR⟩;have hw0:IntKind.i64.wrap 0=0:=by rfl
    simp[Builtin.append_,run_underlying hty,run_underlying htx,sizeOf,typeInfo,hq,asInt,asIntOf,hw0]
   ·simp only[Value.slice.injEq]at e1;obtain⟨rfl,_,rfl⟩:=e1;obtain⟨cur,hs1,htk,hP⟩:=Fa.sH;obtain⟨Ht,F7⟩:=Fa.Ad;have hle:(xs.length+m)*sz<=cc*sz:=rQ _ hroom;rw[uB]at hle;have aaI:(xs++List.replicate m z0).flatMap enc=xs.flatMap enc++(List.replicate m z0).flatMap enc:=D9;generalize hZ:(List.replicate m z0).flatMap enc=zl at *;have hst:=run_storeCells_at P g (xs.length*sz) E zl 0 cur w hP.block (by rw[YF,hs1];omega) aaH;simp only[w5]at hst;refine⟨.slice (some ⟨g,0,none⟩) (xs.length+m) cc,w.setRow g (cur.toList.take (xs.length*sz)++zl++cur.toList.drop (xs.length*sz+zl.length)).toArray,?_,?_⟩
    ·generalize w.setRow g (cur.toList.take (xs.length*sz)++zl++cur.toList.drop (xs.length*sz+zl.length)).toArray=w9 at hst;by_cases SM:m*sz=0
     ·have hz0:zl=[]:=G3 I;subst hz0;simp[Builtin.append_,run_underlying hty,run_underlying htx,sizeOf,typeInfo,hq,asInt,asIntOf,PV,Vw,hn2,hroom,h1,w4,SM,hst]
     ·simp[Builtin.append_,run_underlying hty,run_underlying htx,sizeOf,typeInfo,hq,asInt,asIntOf,PV,Vw,hn2,hroom,h1,w4,SM,hzv,hzl,hst]
    ·refine(hP.turn (w':=w.setRow g (cur.toList.take (xs.length*sz)++zl++cur.toList.drop (xs.length*sz+zl.length)).toArray) (setRow_heap w g cur _ E (0,0) hP.block) (λk hk _=>setRow_other w g k _ hk) rfl rfl rfl (by simp)).head λz Oa=>.inr ⟨g,cc,_,by simp,by simpa using hroom,F7,?_,?_,Oa⟩
     ·simp only[D8,kQ,uV,C3,vy,YF];omega
     ·rw[htk,aaI,kQ,nX];rw[show(xs.length+m)*sz=((xs.flatMap enc)++zl).length by rw[kQ,YF,he.flat,uB]];exact G2
  ·have hge:=grownCap_ge w (xs.length+m) cc E;have h63:xs.length+m<=maxLen:=by simp only[maxLen];omega
   have hcm:grownCap w (xs.length+m) cc E<=maxLen:=grownCap_le_maxLen w (xs.length+m) cc E h63;have hfit:=growslice_fits (need:=xs.length+m) (old:=cc) (bytes:=bytes) I hb;have XL:¬(281474976710656<Builtin.nextslicecap (xs.length+m) cc*q.bytes):=by rw[h2];omega
   have aaJ:¬(9223372036854775807<(xs.length:Int)+(m:Int)):=by omega
   have hold:(Builtin.firstCells sz xs.length (.slice ca xs.length cc)).run P w.drew= .ok (xs.flatMap enc).toArray w.drew:=by
    rcases hF.rows with ⟨e1,e2,_⟩ | ⟨g',cap',e1,_,Fa⟩
    ·simp only[Value.slice.injEq]at e1;rw[e1.1,e2];exact run_firstCells_none (P:=P) w.drew sz _ _ _
    ·simp only[Value.slice.injEq]at e1;rw[e1.1];obtain⟨cur',afq,adw,hP'⟩:=Fa.sH;refine run_firstCells_some (P:=P) w.drew sz xs.length _ _ _ (xs.flatMap enc) (he.flat xs) ?_;intro j u hu;rw[w4,Dv];refine hP'.cell j ?_;rw[<-adw,List.getElem?_take]at hu;split at hu
     ·simpa using hu
     ·cases hu
   refine⟨.slice (some ⟨w.heap.size,0,none⟩) (xs.length+m) (grownCap w (xs.length+m) cc E),w.drew.alloc (.cells ((xs.flatMap enc).toArray++((List.replicate m z0).flatMap enc).toArray++Builtin.zeroCells zv.cells (grownCap w (xs.length+m) cc E-(xs.length+m))) E),?_,?_⟩
   ·generalize hZ:(List.replicate m z0).flatMap enc=zl at *;by_cases SM:m*sz=0
    ·have hz0:zl=[]:=G3 I;subst hz0;simp[Builtin.append_,run_underlying hty,run_underlying htx,sizeOf,typeInfo,hq,asInt,asIntOf,PV,Vw,hn2,hroom,Question.forced,h1,XL,aaJ,SM,hold,hzv,newRow,grownCap]
    ·have hza:Builtin.zeroCells zv.cells m=zl.toArray:=by rw[<-hzl,Array.toArray_toList]
     simp[Builtin.append_,run_underlying hty,run_underlying htx,sizeOf,typeInfo,hq,asInt,asIntOf,PV,Vw,hn2,hroom,Question.forced,h1,XL,aaJ,SM,hold,hzv,hza,newRow,grownCap]
     congr 2
     apply Array.ext'
     simp[s5]
   ·refine(hF.drop.drew.alloc _).head λx hx=>.inr ⟨w.heap.size,_,_,by simp,by simpa using hge,hcm,?_,?_,hx⟩
    ·simp only[Array.size_append,D8,size_zeroCells,hzs,he.flat,nX,<-uB]
     congr 1
     omega
    ·rw[D9,kQ,nX];simp only[Array.toList_append];rw[show(xs.length+m)*sz=((xs.flatMap enc)++((List.replicate m z0).flatMap enc)).length by rw[kQ,he.flat,he.flat,nX,uB]];exact G2
 obtain⟨v',w',hrun,Fa⟩:=main;obtain⟨a',cap',e,_,_⟩:=Fa.GA;subst e;refine tw hw hd hn hr ?_ (λa hr=>k a' cap' w' a Fa hr);unfold execOp;simp only[ho,resolve,invoke,builtin,ou,uW,ox,JQ,C4,Ea,hs,hx,hrun]
end
def iL{α:Type}:Sem α->Prop
 | .pure _=>True
 | .load _ _ k=>∀v,iL (k v)
 | .store .. => False
 | .new _ k=>∀r,iL (k r)
 | .shape _ k=>∀s,iL (k s)
 | .freeze .. => False
 | .frozen _ k=>∀b,iL (k b)
 | .getObj _ k=>∀o,iL (k o)
 | .setObj .. => False
 | .choose _ k=>∀n,iL (k n)
 | .sys .. => False
 | .program k=>∀p,iL (k p)
 | .mark _ k=>iL k
 | .halt _=>True
def qk(w w':World):Prop:=∀ad v,w.cell? ad=some v->w'.cell? ad=some v
theorem qk.refl(w:World):qk w w:=λ_ _ h=>h
theorem qk.trans{a b c:World}(h:qk a b)(k:qk b c):qk a c:=λad v hv=>k ad v (h ad v hv)
theorem iL.run{α:Type}{P:Program}(s:Sem α):∀(w:World),iL s->∀x w',s.run P w= .ok x w'->qk w w':=by
 induction s with
 | pure a=>intro w _ x w' h;simp only[Sem.run,Result.ok.injEq]at h;rw[<-h.2];exact .refl _
 | load m a k ih =>
  intro w hk x w' h;simp only[Sem.run]at h;split at h
  ·exact ih _ w (hk _) x w' h
  ·split at h
   ·exact ih _ w (hk _) x w' h
   ·cases h
 | store m a v k ih=>intro w hk;exact hk.elim
 | new o k ih =>
  intro w hk x w' h;simp only[Sem.run]at h;have h1:=ih _ _ (hk _) x w' h;refine qk.trans (λad v hv => ?_) h1;exact(World.cell?_alloc_lt w o ad (World.block_lt_of_cell? w ad hv)).trans hv
 | shape r k ih=>intro w hk x w' h;simp only[Sem.run]at h;exact ih _ w (hk _) x w' h
 | freeze a n k ih=>intro w hk;exact hk.elim
 | frozen a k ih=>intro w hk x w' h;simp only[Sem.run]at h;exact ih _ w (hk _) x w' h
 | getObj r k ih =>
  intro w hk x w' h;simp only[Sem.run]at h;split at h
  ·cases h
  ·exact ih _ w (hk _) x w' h
  ·cases h
 | setObj r o k ih=>intro w hk;exact hk.elim
 | choose q k ih =>
  intro w hk x w' h;simp only[Sem.run]at h;split at h
  ·exact ih _ w (hk _) x w' h
  ·exact(ih _ {w with drawn:=w.drawn+1} (hk _) x w' h:qk w w')
 | sys c k ih=>intro w hk;exact hk.elim
 | program k ih=>intro w hk x w' h;simp only[Sem.run]at h;exact ih _ w (hk _) x w' h
 | mark m k ih=>intro w hk x w' h;simp only[Sem.run]at h;exact ih w hk x w' h
 | halt e=>intro w _ x w' h;simp only[Sem.run]at h;cases h
theorem iL.bind{α β:Type}:∀(s:Sem α) (f:α->Sem β),iL s->(∀a,iL (f a))->iL (s >>= f)
 | .pure a,f,_,hf=>hf a
 | .load m a k,f,hk,hf=>λv=>iL.bind (k v) f (hk v) hf
 | .new o k,f,hk,hf=>λv=>iL.bind (k v) f (hk v) hf
 | .shape r k,f,hk,hf=>λv=>iL.bind (k v) f (hk v) hf
 | .frozen a k,f,hk,hf=>λv=>iL.bind (k v) f (hk v) hf
 | .getObj r k,f,hk,hf=>λv=>iL.bind (k v) f (hk v) hf
 | .choose q k,f,hk,hf=>λv=>iL.bind (k v) f (hk v) hf
 | .program k,f,hk,hf=>λv=>iL.bind (k v) f (hk v) hf
 | .mark m k,f,hk,hf=>iL.bind k f hk hf
 | .halt e,_,_,_=>trivial
theorem xP{α:Type}(a:α):iL (pure a:Sem α):=trivial
theorem C8:iL program:=λ_=>trivial
theorem zu(t:TypeId):iL (underlying t):=by
 unfold underlying;refine iL.bind _ _ C8 (λp => ?_);split
 ·exact trivial
 ·exact trivial
theorem BP(t:TypeId):iL (typeInfo t):=by
 unfold typeInfo;refine iL.bind _ _ C8 (λp => ?_);split
 ·exact trivial
 ·exact trivial
theorem Ed(t:TypeId):iL (sizeOf t):=iL.bind _ _ (BP t) λ_=>trivial
theorem AX(t:TypeId):iL (zeroValue t):=by
 unfold zeroValue;refine iL.bind _ _ (BP t) (λp => ?_);split
 ·exact trivial
 ·exact trivial
theorem Mh(t:TypeId):iL (isAgg t):=by
 unfold isAgg;refine iL.bind _ _ (zu t) (λp => ?_);split<;>exact trivial
theorem w6(a:Addr):∀(n i:Nat) (acc:Array Value),iL (loadCellsFrom a i n acc)
 | 0,_,_=>trivial
 | n+1,i,acc=>iL.bind _ _ (λ_=>trivial) λv=>w6 a n (i+1) _
theorem I1(t:TypeId)(a:Addr):iL (loadVar t a):=by
 unfold loadVar;refine iL.bind _ _ (Mh t) (λb => ?_);split
 ·exact iL.bind _ _ (Ed t) λ_=>iL.bind _ _ (w6 _ _ _ _) λ_=>trivial
 ·exact λ_=>trivial
theorem Af(t:TypeId)(cs:Array Value):iL (newRow t cs):=by
 unfold newRow newObj;exact λ_=>trivial
theorem Ee(t:TypeId)(v:Value):iL (newVar t v):=Af t _
def Fb(o:Oper):Bool:=
 match o.op with
 | .move _ | .assign _ | .pick .. | .alloc _ | .box .. | .load .. | .buildSlice .. | .extract .. => true
 | _=>false
theorem Mi{P:Program}{o:Oper}(h:Fb o=true)(ρ:Operand->Value)(w w':World)(x:Next)(hr:(execOp ρ o).run P w= .ok x w'):(∃u,x= .value u)/\qk w w':=by
 have main:∀s:Sem Value,iL s->execOp ρ o=(do pure (.value (<-s)))->(∃u,x= .value u)/\qk w w':=by
  intro s hs e;rw[e]at hr;refine⟨?_,iL.run _ w (iL.bind _ _ hs λ_=>xP _) x w' hr⟩;simp only[ou,uW]at hr;cases hx:s.run P w with
  | ok v w2 =>
   rw[hx]at hr;simp only[ox,Result.ok.injEq]at hr;exact⟨v,hr.1.symm⟩
  | halt e w2=>rw[hx]at hr;cases hr
 unfold Fb at h;cases ho:o.op with
 | move y =>
  refine main (pure (ρ y)) trivial ?_;unfold execOp;rw[ho];rfl
 | assign y =>
  refine main (pure (ρ y)) trivial ?_;unfold execOp;rw[ho];rfl
 | pick c a b =>
  refine main (do pure (if<-asBool (ρ c)then ρ a else ρ b)) ?_ ?_
  ·refine iL.bind _ _ ?_ (λ_=>trivial);unfold asBool;split<;>exact trivial
  ·unfold execOp;rw[ho];cases hc:ρ c<;>simp[asBool,stuck,hc]<;>rfl
 | alloc t =>
  refine main (Instr.alloc t true (.tuple #[])) ?_ ?_
  ·unfold Instr.alloc;exact iL.bind _ _ (AX t) λz=>iL.bind _ _ (Ee t z) λ_=>trivial
  ·unfold execOp;rw[ho]
 | box t y =>
  refine main (Instr.box t (ρ y)) (iL.bind _ _ (Ee t _) λ_=>trivial) ?_;unfold execOp;rw[ho]
 | load t y =>
  refine main (Instr.loadAt t (ρ y)) (iL.bind _ _ ?_ λ_=>I1 _ _) ?_
  ·unfold Instr.sureAddr;split<;>exact trivial
  ·unfold execOp;rw[ho]
 | buildSlice t n ps =>
  refine main (Instr.buildSlice t n (ps.map λ(i,x)=>(i,ρ x))) ?_ ?_
  ·unfold Instr.buildSlice;refine iL.bind _ _ (zu t) (λd => ?_);split
   ·refine iL.bind _ _ (Ed _) (λsz => ?_)
    dsimp only
    split
    ·exact trivial
    ·split
     ·refine iL.bind _ _ (xP _) (λz => ?_);split
      ·exact iL.bind _ _ (Af _ _) λ_=>xP _
      ·exact trivial
     ·refine iL.bind _ _ (AX _) (λv=>iL.bind _ _ (xP _) (λz => ?_));split
      ·exact iL.bind _ _ (Af _ _) λ_=>xP _
      ·exact trivial
   ·exact trivial
  ·unfold execOp;rw[ho]
 | extract y i =>
  refine main (Instr.extract (ρ y) i) ?_ ?_
  ·unfold Instr.extract;split
   ·split<;>exact trivial
   ·exact trivial
  ·unfold execOp;rw[ho]
 | _=>rw[ho]at h;cases h
section
variable {P:Program}{ops:Array Oper}{Q:Exit->Act->World->Prop}{a:Act}{w w0 w1:World}{o:Oper}{n d t:Nat}{v:Value}{l:List (Nat×Value)}{j e:Nat->Value}{H:bu}{md:Region.Mode}{Df:List Deferred}
def xQ(Q:Exit->Act->World->Prop):Prop:=∀ch (a:Act) w dst v,Q (.panic ch) (a.put dst v) w->Q (.panic ch) a w
theorem Mj{fn:Func}{R:Ending->World->Prop}:xQ (bodyPost P fn R):=by
 intro ch a w dst v h;cases dst<;>exact h
theorem Mk{K:Act->World->Prop}(h:xQ Q):xQ (Exit.then K Q):=λch a w dst v k=>h ch a w dst v k
theorem Kq{i:Nat}(h:xQ Q):xQ (Exit.inBlock i Q):=λch a w dst v k=>h ch a w dst v k
def YD(P:Program)(ops:Array Oper)(D:World->Prop)(o:Oper)(v:Value)(a:Act):Prop:=
 (Region.wanted o (yielded ops a.tmps)=true/\∀w,D w->(execOp a.eval o).run P w= .ok (.value v) w)∨(Region.wanted o (yielded ops a.tmps)=false/\v=undef)
theorem YD.of_same{D:World->Prop}{a':Act}(hy:YD P ops D o v a)(he:execOp a'.eval o=execOp a.eval o)
 (hw:Region.wanted o (yielded ops a'.tmps)=Region.wanted o (yielded ops a.tmps)):YD P ops D o v a':=by
 unfold YD at *;rw[he,hw];exact hy
theorem YD.wpOp{D:World->Prop}{i:Nat}(hi:ops[i]? = some o)(hy:YD P ops D o v a)(hD:D w){K:Act->World->Prop}(h:K (a.put o.dst v) w):wpOp P ops Q i K a w:=by
 unfold Go.wpOp;simp only[hi];rcases hy with ⟨hw,hv⟩ | ⟨hw,rfl⟩
 ·rw[aM hw]
  left
  unfold Oper.wp;rw[hv w hD];exact h
 ·rw[dD hw];exact h
def Ml(md:Region.Mode)(ops:Array Oper)(aQ:Array Bool)(i:Nat):Nat->Nat->Bool
 | 0,_=>true
 | f+1,k=>k != i&&match ops[k]? with
  | none=>false
  | some ok=>ok.after.all λe => !Region.binds md e||aQ.getD e.on false||Ml md ops aQ i f e.on
theorem V0{id:Nat}{lo:List Oper}(hF:Fit w0 H w)(hm:P.follows .mixedOrders=true)(k:∀w,Fit w0 H w->wpAny P .any lo.toArray Q lo.toArray.size (Array.replicate lo.toArray.size false) a w) :
 (Code.region id lo.toArray true).wp P Q a w:=wp_region_any hm (k _ hF.drew)
end
section
variable {P:Program}{ops:Array Oper}{Q:Exit->Act->World->Prop}{a:Act}{w w0 w1:World}{o:Oper}{n d t:Nat}{v:Value}{l:List (Nat×Value)}{j e:Nat->Value}{H:bu}{md:Region.Mode}{C:World->Prop}{afU:List Nat}{Lk:Array Bool->Act->Prop}{Df:List Deferred}
theorem SR{i:Nat}{b:Bool}(hr:cP Df n e a)(hg:o.guard=some (i,b))(hi:(ops[i]?).bind (·.dst)=some t)(ht:Nat.blt t n=true)(he:e t=undef) :
 Region.wanted o (yielded ops a.tmps)=false:=by
 have ht':t<a.tmps.size:=by rw[hr.size];exact pU ht
 have hg2:a.tmps[t]? = some undef:=by
  have:=hr.get t;rw[he,yw,Array.getElem?_eq_getElem ht']at this;rw[Array.getElem?_eq_getElem ht']
  simpa using this
 simp only[Region.wanted,hg,yielded,hi,Option.bind_some,hg2];cases b<;>rfl
end
section
variable {P:Program}{ops:Array Oper}{Q:Exit->Act->World->Prop}{a:Act}{w w0 w1:World}{o:Oper}{n d t:Nat}{v:Value}{l:List (Nat×Value)}{j e:Nat->Value}{md:Region.Mode}{afU A:List Nat}{pre:List bu->List bu}{Ls:List bu}{Df:List Deferred}
def Kr(X:Nat->Prop):List Nat->Prop
 | []=>True
 | i::r=>X i/\Kr X r
theorem Kr.mem{X:Nat->Prop}:∀{r:List Nat},Kr X r->∀i∈r,X i
 | _::_,h,_,.head _=>h.1
 | _::_,h,_,.tail _ hm=>Kr.mem h.2 _ hm
theorem iM{X:Nat->Prop}:Kr X []:=trivial
theorem cQ{X:Nat->Prop}{i:Nat}{r:List Nat}(h:X i)(k:Kr X r):Kr X (i::r):=⟨h,k⟩
end
end GX
end
section
namespace SL
open Go Go.RowKit Go.ChangeShapes Go.WideShapes
end SL
namespace GX
open Go Go.RowKit SL
section
variable {P:Program}{ops:Array Oper}{Q:Exit->Act->World->Prop}{a:Act}{w w0 w1:World}{rest:List Oper}{o:Oper}{n d t:Nat}{v:Value}{l:List (Nat×Value)}{j e:Nat->Value}{L:List bu}{H:bu}{Df:List Deferred}
variable {α:Type}{E:TypeId}{sz g cap:Nat}{enc:α->List Value}{xs:List α}
end
end GX
end
section
namespace GX
open Go Go.RowKit SL
def uZ:List Value->List Value->Bool
 | .int _ a::xs,.int _ b::ys=>(a==b)&&uZ xs ys
 | .bool a::xs,.bool b::ys=>(a==b)&&uZ xs ys
 | _,_=>true
def C9(P:Program):Nat->List Field->List Value->List Value->Bool
 | _,[],[],[]=>true
 | i,f::fs,.int k _::xs,.int k' _::ys=>(f.name != "_")&&f.offset==i&&(match P.underlying f.type with | some (.int _)=>true | _=>false)&&k==k'&&C9 P (i+1) fs xs ys
 | i,f::fs,.bool _::xs,.bool _::ys=>(f.name != "_")&&f.offset==i&&(match P.underlying f.type with | some .bool=>true | _=>false)&&C9 P (i+1) fs xs ys
 | _,_,_,_=>false
section
variable {P:Program}{w:World}{o:Oper}{e:Nat->Value}
theorem sI{t:TypeId}{cs:Array Value}{i:Nat}{v:Value}(h:(match P.underlying t with | some (.int _)=>true | some .bool=>true | _=>false)=true)(hv:cs[i]? = some v):(part t cs i).run P w= .ok v w:=by
 have hu :∃d,P.underlying t=some d/\(∀fs,d≠.struct fs)/\∀n q,d≠.array n q:=by
  revert h
  cases hq:P.underlying t with
  | none=>simp
  | some d=>cases d<;>simp
 obtain⟨d,hd,h1,h2⟩:=hu;unfold part isAgg;simp only[ou,run_underlying hd,ox];cases d<;>simp_all
theorem Ks(d:Nat)(xs ys:Array Value):∀(fs:List Field) (i:Nat) (us vs:List Value),C9 P i fs us vs=true->(∀j,us[j]? = xs[i+j]?∨us.length<=j)->(∀j,vs[j]? = ys[i+j]?∨vs.length<=j)->
 (Op.eqFields (d+1) xs ys fs).run P w= .ok (uZ us vs) w
 | [],_,[],[],_,_,_=>by simp[Op.eqFields,uZ]
 | f::fs,i,.int k a::us,.int k' b::vs,h,hx,hy=>by
  simp only[C9,mE,bne_iff_ne,ne_eq,zn]at h;obtain⟨⟨⟨⟨hn,ho⟩,ht⟩,hk⟩,hr⟩:=h;subst hk;have hx0:xs[i]? = some (.int k a):=by rcases hx 0 with h | h;simpa using h.symm;simp at h
  have hy0:ys[i]? = some (.int k b):=by rcases hy 0 with h | h;simpa using h.symm;simp at h
  have hty :∃kk,P.underlying f.type=some (.int kk):=by
   revert ht
   cases hq:P.underlying f.type with
   | none=>simp
   | some d=>cases d<;>simp
  obtain⟨kk,hty⟩:=hty;have ih:=Ks d xs ys fs (i+1) us vs hr (λj=>by rcases hx (j+1)with h | h;left;simpa [N7,JR]using h;right;simpa using h) (λj=>by rcases hy (j+1)with h | h;left;simpa [N7,JR]using h;right;simpa using h);have pa:=sI (P:=P) (w:=w) (t:=f.type) (cs:=xs) (i:=f.offset) (v:=.int k a) (by rw[hty]) (by rw[ho];exact hx0);have pb:=sI (P:=P) (w:=w) (t:=f.type) (cs:=ys) (i:=f.offset) (v:=.int k b) (by rw[hty]) (by rw[ho];exact hy0);rw[Op.eqFields];simp only[aM hn,ou,pa,pb,run_equalIn_int w d f.type k kk a b hty,ox];cases hab:(a==b)
  ·simp[uZ,hab]
  ·simp[uZ,hab,ih]
 | f::fs,i,.bool a::us,.bool b::vs,h,hx,hy=>by
  simp only[C9,mE,bne_iff_ne,ne_eq,zn]at h;obtain⟨⟨⟨hn,ho⟩,ht⟩,hr⟩:=h;have hx0:xs[i]? = some (.bool a):=by rcases hx 0 with h | h;simpa using h.symm;simp at h
  have hy0:ys[i]? = some (.bool b):=by rcases hy 0 with h | h;simpa using h.symm;simp at h
  have hty:P.underlying f.type=some .bool:=by
   revert ht
   cases hq:P.underlying f.type with
   | none=>simp
   | some d=>cases d<;>simp
  have ih:=Ks d xs ys fs (i+1) us vs hr (λj=>by rcases hx (j+1)with h | h;left;simpa [N7,JR]using h;right;simpa using h) (λj=>by rcases hy (j+1)with h | h;left;simpa [N7,JR]using h;right;simpa using h);have pa:=sI (P:=P) (w:=w) (t:=f.type) (cs:=xs) (i:=f.offset) (v:=.bool a) (by rw[hty]) (by rw[ho];exact hx0);have pb:=sI (P:=P) (w:=w) (t:=f.type) (cs:=ys) (i:=f.offset) (v:=.bool b) (by rw[hty]) (by rw[ho];exact hy0);rw[Op.eqFields];simp only[aM hn,ou,pa,pb,run_equalIn_bool' w d f.type a b hty,ox];cases hab:(a==b)
  ·simp[uZ,hab]
  ·simp[uZ,hab,ih]
end
theorem gd{γ:Type}{p:Prop}[Decidable p]{x:Option γ}{r:γ}(h:(if p then x else none)=some r):p/\x=some r:=by
 by_cases c:p
 ·rw[aM c]at h;exact⟨c,h⟩
 ·rw[bZ c]at h;cases h
theorem ifT{γ:Type}{p:Prop}[Decidable p]{x y:Option γ}{r:γ}(c:p)(h:(if p then x else y)=some r):x=some r:=by rw[aM c]at h;exact h
theorem ifF{γ:Type}{p:Prop}[Decidable p]{x y:Option γ}{r:γ}(c:¬p)(h:(if p then x else y)=some r):y=some r:=by rw[bZ c]at h;exact h
theorem bF{b:Bool}(h:¬b=true):b=false:=by cases b<;>simp_all
theorem gN{γ:Type}{x y:γ}(h:some x=some y):x=y:=Option.some.inj h
def Ob{γ:Type}(o:Option (Unit))(f:Option γ):Option γ:=match o with | some ()=>f | none=>none
@[simp] theorem ju{γ:Type}(f:Option γ):Ob (some ()) f=f:=rfl
@[simp] theorem aaK{γ:Type}(f:Option γ):Ob none f=none:=rfl
theorem bd0{γ:Type}{o:Option (Unit)}{f:Option γ}{r:γ}(h:Ob o f=some r):o=some ()/\f=some r:=by
 match o,h with | some (),h=>exact⟨rfl,h⟩
def Ag{γ:Type}(o:Option ((Unit)⊕γ))(f:Option γ):Option γ:=match o with | some (.inl ())=>f | some (.inr r)=>some r | none=>none
@[simp] theorem fB{γ:Type}(f:Option γ):Ag (some (.inl ())) f=f:=rfl
@[simp] theorem xl{γ:Type}(r:γ)(f:Option γ):Ag (some (.inr r)) f=some r:=rfl
@[simp] theorem aaL{γ:Type}(f:Option γ):Ag none f=none:=rfl
def jc0{γ:Type}(o:(Unit)⊕γ)(f:Option γ)(r:γ):Prop:=match o with | .inl ()=>f=some r | .inr x=>x=r
theorem F8{γ:Type}{o:Option ((Unit)⊕γ)}{f:Option γ}{r:γ}(h:Ag o f=some r) :∃o',o=some o'/\jc0 o' f r:=by
 match o,h with | some (.inl ()),h=>exact⟨_,rfl,h⟩ | some (.inr x),h=>exact⟨_,rfl,gN h⟩
theorem xm{γ:Type}{o:(Unit)⊕γ}{f:Option γ}{r x:γ}(h:some (.inr x)=some o)(k:jc0 o f r):some x=some r:=by
 have e:=gN h;subst e;exact nu some k
def kc0{γ:Type}(o:Unit)(f:Option γ)(r:γ):Prop:=match o with | ()=>f=some r
theorem kd0{γ:Type}{o:Option (Unit)}{f:Option γ}{r:γ}(h:Ob o f=some r) :∃o',o=some o'/\kc0 o' f r:=by
 match o,h with | some (),h=>exact⟨_,rfl,h⟩
theorem F9{γ:Type}{f:Option γ}{r:γ}(k:jc0 (γ:=γ) (.inl ()) f r):f=some r:=k
theorem kk0{γ:Type}{f:Option γ}{r:γ}(k:kc0 (γ:=γ) () f r):f=some r:=k
def eA{dr:Type}{γ:Type}(o:Option (dr))(f:dr->Option γ):Option γ:=match o with | some x0=>f x0 | none=>none
@[simp] theorem aq{dr:Type}{γ:Type}(x0:dr)(f:dr->Option γ):eA (some x0) f=f x0:=rfl
@[simp] theorem aaM{dr:Type}{γ:Type}(f:dr->Option γ):eA none f=none:=rfl
theorem bd1{dr:Type}{γ:Type}{o:Option (dr)}{f:dr->Option γ}{r:γ}(h:eA o f=some r) :∃x0,o=some x0/\f x0=some r:=by
 match o,h with | some x0,h=>exact⟨x0,rfl,h⟩
def jn1{dr:Type}{γ:Type}(o:Option ((dr)⊕γ))(f:dr->Option γ):Option γ:=match o with | some (.inl x0)=>f x0 | some (.inr r)=>some r | none=>none
@[simp] theorem PW{dr:Type}{γ:Type}(x0:dr)(f:dr->Option γ):jn1 (some (.inl x0)) f=f x0:=rfl
@[simp] theorem adf{dr:Type}{γ:Type}(r:γ)(f:dr->Option γ):jn1 (some (.inr r)) f=some r:=rfl
@[simp] theorem aaN{dr:Type}{γ:Type}(f:dr->Option γ):jn1 none f=none:=rfl
def jc1{dr:Type}{γ:Type}(o:(dr)⊕γ)(f:dr->Option γ)(r:γ):Prop:=match o with | .inl x0=>f x0=some r | .inr x=>x=r
theorem jd1{dr:Type}{γ:Type}{o:Option ((dr)⊕γ)}{f:dr->Option γ}{r:γ}(h:jn1 o f=some r) :∃o',o=some o'/\jc1 o' f r:=by
 match o,h with | some (.inl x0),h=>exact⟨_,rfl,h⟩ | some (.inr x),h=>exact⟨_,rfl,gN h⟩
theorem jx1{dr:Type}{γ:Type}{o:(dr)⊕γ}{f:dr->Option γ}{r x:γ}(h:some (.inr x)=some o)(k:jc1 o f r):some x=some r:=by
 have e:=gN h;subst e;exact nu some k
def kc1{dr:Type}{γ:Type}(o:dr)(f:dr->Option γ)(r:γ):Prop:=match o with | x0=>f x0=some r
theorem kd1{dr:Type}{γ:Type}{o:Option (dr)}{f:dr->Option γ}{r:γ}(h:eA o f=some r) :∃o',o=some o'/\kc1 o' f r:=by
 match o,h with | some x0,h=>exact⟨_,rfl,h⟩
theorem jk1{dr:Type}{γ:Type}{f:dr->Option γ}{r:γ}{x0:dr}(k:jc1 (γ:=γ) (.inl x0) f r):f x0=some r:=k
theorem Hw{dr:Type}{γ:Type}{f:dr->Option γ}{r:γ}{x0:dr}(k:kc1 (γ:=γ) x0 f r):f x0=some r:=k
def tL{dr eB:Type}{γ:Type}(o:Option (dr×eB))(f:dr->eB->Option γ):Option γ:=match o with | some (x0,x1)=>f x0 x1 | none=>none
@[simp] theorem eF{dr eB:Type}{γ:Type}(x0:dr)(x1:eB)(f:dr->eB->Option γ):tL (some (x0,x1)) f=f x0 x1:=rfl
@[simp] theorem aaO{dr eB:Type}{γ:Type}(f:dr->eB->Option γ):tL none f=none:=rfl
theorem bd2{dr eB:Type}{γ:Type}{o:Option (dr×eB)}{f:dr->eB->Option γ}{r:γ}(h:tL o f=some r) :∃x0 x1,o=some (x0,x1)/\f x0 x1=some r:=by
 match o,h with | some (x0,x1),h=>exact⟨x0,x1,rfl,h⟩
def jn2{dr eB:Type}{γ:Type}(o:Option ((dr×eB)⊕γ))(f:dr->eB->Option γ):Option γ:=match o with | some (.inl (x0,x1))=>f x0 x1 | some (.inr r)=>some r | none=>none
@[simp] theorem V1{dr eB:Type}{γ:Type}(x0:dr)(x1:eB)(f:dr->eB->Option γ):jn2 (some (.inl (x0,x1))) f=f x0 x1:=rfl
@[simp] theorem V2{dr eB:Type}{γ:Type}(r:γ)(f:dr->eB->Option γ):jn2 (some (.inr r)) f=some r:=rfl
@[simp] theorem aaP{dr eB:Type}{γ:Type}(f:dr->eB->Option γ):jn2 none f=none:=rfl
def jc2{dr eB:Type}{γ:Type}(o:(dr×eB)⊕γ)(f:dr->eB->Option γ)(r:γ):Prop:=match o with | .inl (x0,x1)=>f x0 x1=some r | .inr x=>x=r
theorem jd2{dr eB:Type}{γ:Type}{o:Option ((dr×eB)⊕γ)}{f:dr->eB->Option γ}{r:γ}(h:jn2 o f=some r) :∃o',o=some o'/\jc2 o' f r:=by
 match o,h with | some (.inl (x0,x1)),h=>exact⟨_,rfl,h⟩ | some (.inr x),h=>exact⟨_,rfl,gN h⟩
theorem jx2{dr eB:Type}{γ:Type}{o:(dr×eB)⊕γ}{f:dr->eB->Option γ}{r x:γ}(h:some (.inr x)=some o)(k:jc2 o f r):some x=some r:=by
 have e:=gN h;subst e;exact nu some k
def kc2{dr eB:Type}{γ:Type}(o:dr×eB)(f:dr->eB->Option γ)(r:γ):Prop:=match o with | (x0,x1)=>f x0 x1=some r
theorem kd2{dr eB:Type}{γ:Type}{o:Option (dr×eB)}{f:dr->eB->Option γ}{r:γ}(h:tL o f=some r) :∃o',o=some o'/\kc2 o' f r:=by
 match o,h with | some (x0,x1),h=>exact⟨_,rfl,h⟩
theorem jk2{dr eB:Type}{γ:Type}{f:dr->eB->Option γ}{r:γ}{x0:dr}{x1:eB}(k:jc2 (γ:=γ) (.inl (x0,x1)) f r):f x0 x1=some r:=k
theorem kk2{dr eB:Type}{γ:Type}{f:dr->eB->Option γ}{r:γ}{x0:dr}{x1:eB}(k:kc2 (γ:=γ) (x0,x1) f r):f x0 x1=some r:=k
def ql{dr eB fD:Type}{γ:Type}(o:Option (dr×eB×fD))(f:dr->eB->fD->Option γ):Option γ:=match o with | some (x0,x1,x2)=>f x0 x1 x2 | none=>none
@[simp] theorem dc{dr eB fD:Type}{γ:Type}(x0:dr)(x1:eB)(x2:fD)(f:dr->eB->fD->Option γ):ql (some (x0,x1,x2)) f=f x0 x1 x2:=rfl
@[simp] theorem aaQ{dr eB fD:Type}{γ:Type}(f:dr->eB->fD->Option γ):ql none f=none:=rfl
theorem bd3{dr eB fD:Type}{γ:Type}{o:Option (dr×eB×fD)}{f:dr->eB->fD->Option γ}{r:γ}(h:ql o f=some r) :∃x0 x1 x2,o=some (x0,x1,x2)/\f x0 x1 x2=some r:=by
 match o,h with | some (x0,x1,x2),h=>exact⟨x0,x1,x2,rfl,h⟩
def jn3{dr eB fD:Type}{γ:Type}(o:Option ((dr×eB×fD)⊕γ))(f:dr->eB->fD->Option γ):Option γ:=match o with | some (.inl (x0,x1,x2))=>f x0 x1 x2 | some (.inr r)=>some r | none=>none
@[simp] theorem V3{dr eB fD:Type}{γ:Type}(x0:dr)(x1:eB)(x2:fD)(f:dr->eB->fD->Option γ):jn3 (some (.inl (x0,x1,x2))) f=f x0 x1 x2:=rfl
@[simp] theorem adg{dr eB fD:Type}{γ:Type}(r:γ)(f:dr->eB->fD->Option γ):jn3 (some (.inr r)) f=some r:=rfl
@[simp] theorem aaR{dr eB fD:Type}{γ:Type}(f:dr->eB->fD->Option γ):jn3 none f=none:=rfl
def jc3{dr eB fD:Type}{γ:Type}(o:(dr×eB×fD)⊕γ)(f:dr->eB->fD->Option γ)(r:γ):Prop:=match o with | .inl (x0,x1,x2)=>f x0 x1 x2=some r | .inr x=>x=r
theorem jd3{dr eB fD:Type}{γ:Type}{o:Option ((dr×eB×fD)⊕γ)}{f:dr->eB->fD->Option γ}{r:γ}(h:jn3 o f=some r) :∃o',o=some o'/\jc3 o' f r:=by
 match o,h with | some (.inl (x0,x1,x2)),h=>exact⟨_,rfl,h⟩ | some (.inr x),h=>exact⟨_,rfl,gN h⟩
theorem jx3{dr eB fD:Type}{γ:Type}{o:(dr×eB×fD)⊕γ}{f:dr->eB->fD->Option γ}{r x:γ}(h:some (.inr x)=some o)(k:jc3 o f r):some x=some r:=by
 have e:=gN h;subst e;exact nu some k
def kc3{dr eB fD:Type}{γ:Type}(o:dr×eB×fD)(f:dr->eB->fD->Option γ)(r:γ):Prop:=match o with | (x0,x1,x2)=>f x0 x1 x2=some r
theorem kd3{dr eB fD:Type}{γ:Type}{o:Option (dr×eB×fD)}{f:dr->eB->fD->Option γ}{r:γ}(h:ql o f=some r) :∃o',o=some o'/\kc3 o' f r:=by
 match o,h with | some (x0,x1,x2),h=>exact⟨_,rfl,h⟩
theorem jk3{dr eB fD:Type}{γ:Type}{f:dr->eB->fD->Option γ}{r:γ}{x0:dr}{x1:eB}{x2:fD}(k:jc3 (γ:=γ) (.inl (x0,x1,x2)) f r):f x0 x1 x2=some r:=k
theorem kk3{dr eB fD:Type}{γ:Type}{f:dr->eB->fD->Option γ}{r:γ}{x0:dr}{x1:eB}{x2:fD}(k:kc3 (γ:=γ) (x0,x1,x2) f r):f x0 x1 x2=some r:=k
def II{dr eB fD gT:Type}{γ:Type}(o:Option (dr×eB×fD×gT))(f:dr->eB->fD->gT->Option γ):Option γ:=match o with | some (x0,x1,x2,x3)=>f x0 x1 x2 x3 | none=>none
@[simp] theorem gu{dr eB fD gT:Type}{γ:Type}(x0:dr)(x1:eB)(x2:fD)(x3:gT)(f:dr->eB->fD->gT->Option γ):II (some (x0,x1,x2,x3)) f=f x0 x1 x2 x3:=rfl
@[simp] theorem aaS{dr eB fD gT:Type}{γ:Type}(f:dr->eB->fD->gT->Option γ):II none f=none:=rfl
theorem bd4{dr eB fD gT:Type}{γ:Type}{o:Option (dr×eB×fD×gT)}{f:dr->eB->fD->gT->Option γ}{r:γ}(h:II o f=some r) :∃x0 x1 x2 x3,o=some (x0,x1,x2,x3)/\f x0 x1 x2 x3=some r:=by
 match o,h with | some (x0,x1,x2,x3),h=>exact⟨x0,x1,x2,x3,rfl,h⟩
def jn4{dr eB fD gT:Type}{γ:Type}(o:Option ((dr×eB×fD×gT)⊕γ))(f:dr->eB->fD->gT->Option γ):Option γ:=match o with | some (.inl (x0,x1,x2,x3))=>f x0 x1 x2 x3 | some (.inr r)=>some r | none=>none
@[simp] theorem adh{dr eB fD gT:Type}{γ:Type}(x0:dr)(x1:eB)(x2:fD)(x3:gT)(f:dr->eB->fD->gT->Option γ):jn4 (some (.inl (x0,x1,x2,x3))) f=f x0 x1 x2 x3:=rfl
@[simp] theorem adi{dr eB fD gT:Type}{γ:Type}(r:γ)(f:dr->eB->fD->gT->Option γ):jn4 (some (.inr r)) f=some r:=rfl
@[simp] theorem aaT{dr eB fD gT:Type}{γ:Type}(f:dr->eB->fD->gT->Option γ):jn4 none f=none:=rfl
def kc4{dr eB fD gT:Type}{γ:Type}(o:dr×eB×fD×gT)(f:dr->eB->fD->gT->Option γ)(r:γ):Prop:=match o with | (x0,x1,x2,x3)=>f x0 x1 x2 x3=some r
def ob5{dr eB fD gT iO:Type}{γ:Type}(o:Option (dr×eB×fD×gT×iO))(f:dr->eB->fD->gT->iO->Option γ):Option γ:=match o with | some (x0,x1,x2,x3,x4)=>f x0 x1 x2 x3 x4 | none=>none
@[simp] theorem SS{dr eB fD gT iO:Type}{γ:Type}(x0:dr)(x1:eB)(x2:fD)(x3:gT)(x4:iO)(f:dr->eB->fD->gT->iO->Option γ):ob5 (some (x0,x1,x2,x3,x4)) f=f x0 x1 x2 x3 x4:=rfl
@[simp] theorem aaU{dr eB fD gT iO:Type}{γ:Type}(f:dr->eB->fD->gT->iO->Option γ):ob5 none f=none:=rfl
theorem bd5{dr eB fD gT iO:Type}{γ:Type}{o:Option (dr×eB×fD×gT×iO)}{f:dr->eB->fD->gT->iO->Option γ}{r:γ}(h:ob5 o f=some r) :∃x0 x1 x2 x3 x4,o=some (x0,x1,x2,x3,x4)/\f x0 x1 x2 x3 x4=some r:=by
 match o,h with | some (x0,x1,x2,x3,x4),h=>exact⟨x0,x1,x2,x3,x4,rfl,h⟩
theorem Ef{dr eB fD gT iO:Type}{x0 y0:dr}{x1 y1:eB}{x2 y2:fD}{x3 y3:gT}{x4 y4:iO}(h:some (x0,x1,x2,x3,x4)=some (y0,y1,y2,y3,y4)):x0=y0/\x1=y1/\x2=y2/\x3=y3/\x4=y4:=by
 simpa using h
def jn5{dr eB fD gT iO:Type}{γ:Type}(o:Option ((dr×eB×fD×gT×iO)⊕γ))(f:dr->eB->fD->gT->iO->Option γ):Option γ:=match o with | some (.inl (x0,x1,x2,x3,x4))=>f x0 x1 x2 x3 x4 | some (.inr r)=>some r | none=>none
@[simp] theorem adj{dr eB fD gT iO:Type}{γ:Type}(x0:dr)(x1:eB)(x2:fD)(x3:gT)(x4:iO)(f:dr->eB->fD->gT->iO->Option γ):jn5 (some (.inl (x0,x1,x2,x3,x4))) f=f x0 x1 x2 x3 x4:=rfl
@[simp] theorem adk{dr eB fD gT iO:Type}{γ:Type}(r:γ)(f:dr->eB->fD->gT->iO->Option γ):jn5 (some (.inr r)) f=some r:=rfl
@[simp] theorem aaV{dr eB fD gT iO:Type}{γ:Type}(f:dr->eB->fD->gT->iO->Option γ):jn5 none f=none:=rfl
def kc5{dr eB fD gT iO:Type}{γ:Type}(o:dr×eB×fD×gT×iO)(f:dr->eB->fD->gT->iO->Option γ)(r:γ):Prop:=match o with | (x0,x1,x2,x3,x4)=>f x0 x1 x2 x3 x4=some r
def ob6{dr eB fD gT iO kE:Type}{γ:Type}(o:Option (dr×eB×fD×gT×iO×kE))(f:dr->eB->fD->gT->iO->kE->Option γ):Option γ:=match o with | some (x0,x1,x2,x3,x4,x5)=>f x0 x1 x2 x3 x4 x5 | none=>none
@[simp] theorem aaW{dr eB fD gT iO kE:Type}{γ:Type}(x0:dr)(x1:eB)(x2:fD)(x3:gT)(x4:iO)(x5:kE)(f:dr->eB->fD->gT->iO->kE->Option γ):ob6 (some (x0,x1,x2,x3,x4,x5)) f=f x0 x1 x2 x3 x4 x5:=rfl
@[simp] theorem aaX{dr eB fD gT iO kE:Type}{γ:Type}(f:dr->eB->fD->gT->iO->kE->Option γ):ob6 none f=none:=rfl
def jn6{dr eB fD gT iO kE:Type}{γ:Type}(o:Option ((dr×eB×fD×gT×iO×kE)⊕γ))(f:dr->eB->fD->gT->iO->kE->Option γ):Option γ:=match o with | some (.inl (x0,x1,x2,x3,x4,x5))=>f x0 x1 x2 x3 x4 x5 | some (.inr r)=>some r | none=>none
@[simp] theorem adl{dr eB fD gT iO kE:Type}{γ:Type}(x0:dr)(x1:eB)(x2:fD)(x3:gT)(x4:iO)(x5:kE)(f:dr->eB->fD->gT->iO->kE->Option γ):jn6 (some (.inl (x0,x1,x2,x3,x4,x5))) f=f x0 x1 x2 x3 x4 x5:=rfl
@[simp] theorem adm{dr eB fD gT iO kE:Type}{γ:Type}(r:γ)(f:dr->eB->fD->gT->iO->kE->Option γ):jn6 (some (.inr r)) f=some r:=rfl
@[simp] theorem aaY{dr eB fD gT iO kE:Type}{γ:Type}(f:dr->eB->fD->gT->iO->kE->Option γ):jn6 none f=none:=rfl
def kc6{dr eB fD gT iO kE:Type}{γ:Type}(o:dr×eB×fD×gT×iO×kE)(f:dr->eB->fD->gT->iO->kE->Option γ)(r:γ):Prop:=match o with | (x0,x1,x2,x3,x4,x5)=>f x0 x1 x2 x3 x4 x5=some r
def ob7{dr eB fD gT iO kE mG:Type}{γ:Type}(o:Option (dr×eB×fD×gT×iO×kE×mG))(f:dr->eB->fD->gT->iO->kE->mG->Option γ):Option γ:=match o with | some (x0,x1,x2,x3,x4,x5,x6)=>f x0 x1 x2 x3 x4 x5 x6 | none=>none
@[simp] theorem aaZ{dr eB fD gT iO kE mG:Type}{γ:Type}(x0:dr)(x1:eB)(x2:fD)(x3:gT)(x4:iO)(x5:kE)(x6:mG)(f:dr->eB->fD->gT->iO->kE->mG->Option γ):ob7 (some (x0,x1,x2,x3,x4,x5,x6)) f=f x0 x1 x2 x3 x4 x5 x6:=rfl
@[simp] theorem aa0{dr eB fD gT iO kE mG:Type}{γ:Type}(f:dr->eB->fD->gT->iO->kE->mG->Option γ):ob7 none f=none:=rfl
def jn7{dr eB fD gT iO kE mG:Type}{γ:Type}(o:Option ((dr×eB×fD×gT×iO×kE×mG)⊕γ))(f:dr->eB->fD->gT->iO->kE->mG->Option γ):Option γ:=match o with | some (.inl (x0,x1,x2,x3,x4,x5,x6))=>f x0 x1 x2 x3 x4 x5 x6 | some (.inr r)=>some r | none=>none
@[simp] theorem adn{dr eB fD gT iO kE mG:Type}{γ:Type}(x0:dr)(x1:eB)(x2:fD)(x3:gT)(x4:iO)(x5:kE)(x6:mG)(f:dr->eB->fD->gT->iO->kE->mG->Option γ):jn7 (some (.inl (x0,x1,x2,x3,x4,x5,x6))) f=f x0 x1 x2 x3 x4 x5 x6:=rfl
@[simp] theorem ado{dr eB fD gT iO kE mG:Type}{γ:Type}(r:γ)(f:dr->eB->fD->gT->iO->kE->mG->Option γ):jn7 (some (.inr r)) f=some r:=rfl
@[simp] theorem aa1{dr eB fD gT iO kE mG:Type}{γ:Type}(f:dr->eB->fD->gT->iO->kE->mG->Option γ):jn7 none f=none:=rfl
def kc7{dr eB fD gT iO kE mG:Type}{γ:Type}(o:dr×eB×fD×gT×iO×kE×mG)(f:dr->eB->fD->gT->iO->kE->mG->Option γ)(r:γ):Prop:=match o with | (x0,x1,x2,x3,x4,x5,x6)=>f x0 x1 x2 x3 x4 x5 x6=some r
def ob8{dr eB fD gT iO kE mG oy:Type}{γ:Type}(o:Option (dr×eB×fD×gT×iO×kE×mG×oy))(f:dr->eB->fD->gT->iO->kE->mG->oy->Option γ):Option γ:=match o with | some (x0,x1,x2,x3,x4,x5,x6,x7)=>f x0 x1 x2 x3 x4 x5 x6 x7 | none=>none
@[simp] theorem aa2{dr eB fD gT iO kE mG oy:Type}{γ:Type}(x0:dr)(x1:eB)(x2:fD)(x3:gT)(x4:iO)(x5:kE)(x6:mG)(x7:oy)(f:dr->eB->fD->gT->iO->kE->mG->oy->Option γ):ob8 (some (x0,x1,x2,x3,x4,x5,x6,x7)) f=f x0 x1 x2 x3 x4 x5 x6 x7:=rfl
@[simp] theorem aa3{dr eB fD gT iO kE mG oy:Type}{γ:Type}(f:dr->eB->fD->gT->iO->kE->mG->oy->Option γ):ob8 none f=none:=rfl
def jn8{dr eB fD gT iO kE mG oy:Type}{γ:Type}(o:Option ((dr×eB×fD×gT×iO×kE×mG×oy)⊕γ))(f:dr->eB->fD->gT->iO->kE->mG->oy->Option γ):Option γ:=match o with | some (.inl (x0,x1,x2,x3,x4,x5,x6,x7))=>f x0 x1 x2 x3 x4 x5 x6 x7 | some (.inr r)=>some r | none=>none
@[simp] theorem adp{dr eB fD gT iO kE mG oy:Type}{γ:Type}(x0:dr)(x1:eB)(x2:fD)(x3:gT)(x4:iO)(x5:kE)(x6:mG)(x7:oy)(f:dr->eB->fD->gT->iO->kE->mG->oy->Option γ):jn8 (some (.inl (x0,x1,x2,x3,x4,x5,x6,x7))) f=f x0 x1 x2 x3 x4 x5 x6 x7:=rfl
@[simp] theorem adq{dr eB fD gT iO kE mG oy:Type}{γ:Type}(r:γ)(f:dr->eB->fD->gT->iO->kE->mG->oy->Option γ):jn8 (some (.inr r)) f=some r:=rfl
@[simp] theorem aa4{dr eB fD gT iO kE mG oy:Type}{γ:Type}(f:dr->eB->fD->gT->iO->kE->mG->oy->Option γ):jn8 none f=none:=rfl
def kc8{dr eB fD gT iO kE mG oy:Type}{γ:Type}(o:dr×eB×fD×gT×iO×kE×mG×oy)(f:dr->eB->fD->gT->iO->kE->mG->oy->Option γ)(r:γ):Prop:=match o with | (x0,x1,x2,x3,x4,x5,x6,x7)=>f x0 x1 x2 x3 x4 x5 x6 x7=some r
def ob9{dr eB fD gT iO kE mG oy rT:Type}{γ:Type}(o:Option (dr×eB×fD×gT×iO×kE×mG×oy×rT))(f:dr->eB->fD->gT->iO->kE->mG->oy->rT->Option γ):Option γ:=match o with | some (x0,x1,x2,x3,x4,x5,x6,x7,x8)=>f x0 x1 x2 x3 x4 x5 x6 x7 x8 | none=>none
@[simp] theorem aa5{dr eB fD gT iO kE mG oy rT:Type}{γ:Type}(x0:dr)(x1:eB)(x2:fD)(x3:gT)(x4:iO)(x5:kE)(x6:mG)(x7:oy)(x8:rT)(f:dr->eB->fD->gT->iO->kE->mG->oy->rT->Option γ):ob9 (some (x0,x1,x2,x3,x4,x5,x6,x7,x8)) f=f x0 x1 x2 x3 x4 x5 x6 x7 x8:=rfl
@[simp] theorem aa6{dr eB fD gT iO kE mG oy rT:Type}{γ:Type}(f:dr->eB->fD->gT->iO->kE->mG->oy->rT->Option γ):ob9 none f=none:=rfl
def jn9{dr eB fD gT iO kE mG oy rT:Type}{γ:Type}(o:Option ((dr×eB×fD×gT×iO×kE×mG×oy×rT)⊕γ))(f:dr->eB->fD->gT->iO->kE->mG->oy->rT->Option γ):Option γ:=match o with | some (.inl (x0,x1,x2,x3,x4,x5,x6,x7,x8))=>f x0 x1 x2 x3 x4 x5 x6 x7 x8 | some (.inr r)=>some r | none=>none
@[simp] theorem adr{dr eB fD gT iO kE mG oy rT:Type}{γ:Type}(x0:dr)(x1:eB)(x2:fD)(x3:gT)(x4:iO)(x5:kE)(x6:mG)(x7:oy)(x8:rT)(f:dr->eB->fD->gT->iO->kE->mG->oy->rT->Option γ):jn9 (some (.inl (x0,x1,x2,x3,x4,x5,x6,x7,x8))) f=f x0 x1 x2 x3 x4 x5 x6 x7 x8:=rfl
@[simp] theorem ads{dr eB fD gT iO kE mG oy rT:Type}{γ:Type}(r:γ)(f:dr->eB->fD->gT->iO->kE->mG->oy->rT->Option γ):jn9 (some (.inr r)) f=some r:=rfl
@[simp] theorem aa7{dr eB fD gT iO kE mG oy rT:Type}{γ:Type}(f:dr->eB->fD->gT->iO->kE->mG->oy->rT->Option γ):jn9 none f=none:=rfl
def kc9{dr eB fD gT iO kE mG oy rT:Type}{γ:Type}(o:dr×eB×fD×gT×iO×kE×mG×oy×rT)(f:dr->eB->fD->gT->iO->kE->mG->oy->rT->Option γ)(r:γ):Prop:=match o with | (x0,x1,x2,x3,x4,x5,x6,x7,x8)=>f x0 x1 x2 x3 x4 x5 x6 x7 x8=some r
def aa8{dr eB fD gT iO kE mG oy rT u0:Type}{γ:Type}(o:Option (dr×eB×fD×gT×iO×kE×mG×oy×rT×u0))(f:dr->eB->fD->gT->iO->kE->mG->oy->rT->u0->Option γ):Option γ:=match o with | some (x0,x1,x2,x3,x4,x5,x6,x7,x8,x9)=>f x0 x1 x2 x3 x4 x5 x6 x7 x8 x9 | none=>none
@[simp] theorem aax{dr eB fD gT iO kE mG oy rT u0:Type}{γ:Type}(x0:dr)(x1:eB)(x2:fD)(x3:gT)(x4:iO)(x5:kE)(x6:mG)(x7:oy)(x8:rT)(x9:u0)(f:dr->eB->fD->gT->iO->kE->mG->oy->rT->u0->Option γ):aa8 (some (x0,x1,x2,x3,x4,x5,x6,x7,x8,x9)) f=f x0 x1 x2 x3 x4 x5 x6 x7 x8 x9:=rfl
@[simp] theorem aay{dr eB fD gT iO kE mG oy rT u0:Type}{γ:Type}(f:dr->eB->fD->gT->iO->kE->mG->oy->rT->u0->Option γ):aa8 none f=none:=rfl
def YG{dr eB fD gT iO kE mG oy rT u0:Type}{γ:Type}(o:Option ((dr×eB×fD×gT×iO×kE×mG×oy×rT×u0)⊕γ))(f:dr->eB->fD->gT->iO->kE->mG->oy->rT->u0->Option γ):Option γ:=match o with | some (.inl (x0,x1,x2,x3,x4,x5,x6,x7,x8,x9))=>f x0 x1 x2 x3 x4 x5 x6 x7 x8 x9 | some (.inr r)=>some r | none=>none
@[simp] theorem aa9{dr eB fD gT iO kE mG oy rT u0:Type}{γ:Type}(x0:dr)(x1:eB)(x2:fD)(x3:gT)(x4:iO)(x5:kE)(x6:mG)(x7:oy)(x8:rT)(x9:u0)(f:dr->eB->fD->gT->iO->kE->mG->oy->rT->u0->Option γ):YG (some (.inl (x0,x1,x2,x3,x4,x5,x6,x7,x8,x9))) f=f x0 x1 x2 x3 x4 x5 x6 x7 x8 x9:=rfl
@[simp] theorem aba{dr eB fD gT iO kE mG oy rT u0:Type}{γ:Type}(r:γ)(f:dr->eB->fD->gT->iO->kE->mG->oy->rT->u0->Option γ):YG (some (.inr r)) f=some r:=rfl
@[simp] theorem aaz{dr eB fD gT iO kE mG oy rT u0:Type}{γ:Type}(f:dr->eB->fD->gT->iO->kE->mG->oy->rT->u0->Option γ):YG none f=none:=rfl
def YH{dr eB fD gT iO kE mG oy rT u0:Type}{γ:Type}(o:dr×eB×fD×gT×iO×kE×mG×oy×rT×u0)(f:dr->eB->fD->gT->iO->kE->mG->oy->rT->u0->Option γ)(r:γ):Prop:=match o with | (x0,x1,x2,x3,x4,x5,x6,x7,x8,x9)=>f x0 x1 x2 x3 x4 x5 x6 x7 x8 x9=some r
def abb{dr eB fD gT iO kE mG oy rT u0 sC:Type}{γ:Type}(o:Option (dr×eB×fD×gT×iO×kE×mG×oy×rT×u0×sC))(f:dr->eB->fD->gT->iO->kE->mG->oy->rT->u0->sC->Option γ):Option γ:=match o with | some (x0,x1,x2,x3,x4,x5,x6,x7,x8,x9,Da)=>f x0 x1 x2 x3 x4 x5 x6 x7 x8 x9 Da | none=>none
@[simp] theorem aaA{dr eB fD gT iO kE mG oy rT u0 sC:Type}{γ:Type}(x0:dr)(x1:eB)(x2:fD)(x3:gT)(x4:iO)(x5:kE)(x6:mG)(x7:oy)(x8:rT)(x9:u0)(Da:sC)(f:dr->eB->fD->gT->iO->kE->mG->oy->rT->u0->sC->Option γ):abb (some (x0,x1,x2,x3,x4,x5,x6,x7,x8,x9,Da)) f=f x0 x1 x2 x3 x4 x5 x6 x7 x8 x9 Da:=rfl
@[simp] theorem aaB{dr eB fD gT iO kE mG oy rT u0 sC:Type}{γ:Type}(f:dr->eB->fD->gT->iO->kE->mG->oy->rT->u0->sC->Option γ):abb none f=none:=rfl
def YI{dr eB fD gT iO kE mG oy rT u0 sC:Type}{γ:Type}(o:Option ((dr×eB×fD×gT×iO×kE×mG×oy×rT×u0×sC)⊕γ))(f:dr->eB->fD->gT->iO->kE->mG->oy->rT->u0->sC->Option γ):Option γ:=match o with | some (.inl (x0,x1,x2,x3,x4,x5,x6,x7,x8,x9,Da))=>f x0 x1 x2 x3 x4 x5 x6 x7 x8 x9 Da | some (.inr r)=>some r | none=>none
@[simp] theorem abc{dr eB fD gT iO kE mG oy rT u0 sC:Type}{γ:Type}(x0:dr)(x1:eB)(x2:fD)(x3:gT)(x4:iO)(x5:kE)(x6:mG)(x7:oy)(x8:rT)(x9:u0)(Da:sC)(f:dr->eB->fD->gT->iO->kE->mG->oy->rT->u0->sC->Option γ):YI (some (.inl (x0,x1,x2,x3,x4,x5,x6,x7,x8,x9,Da))) f=f x0 x1 x2 x3 x4 x5 x6 x7 x8 x9 Da:=rfl
@[simp] theorem abd{dr eB fD gT iO kE mG oy rT u0 sC:Type}{γ:Type}(r:γ)(f:dr->eB->fD->gT->iO->kE->mG->oy->rT->u0->sC->Option γ):YI (some (.inr r)) f=some r:=rfl
@[simp] theorem aaC{dr eB fD gT iO kE mG oy rT u0 sC:Type}{γ:Type}(f:dr->eB->fD->gT->iO->kE->mG->oy->rT->u0->sC->Option γ):YI none f=none:=rfl
def YJ{dr eB fD gT iO kE mG oy rT u0 sC:Type}{γ:Type}(o:dr×eB×fD×gT×iO×kE×mG×oy×rT×u0×sC)(f:dr->eB->fD->gT->iO->kE->mG->oy->rT->u0->sC->Option γ)(r:γ):Prop:=match o with | (x0,x1,x2,x3,x4,x5,x6,x7,x8,x9,Da)=>f x0 x1 x2 x3 x4 x5 x6 x7 x8 x9 Da=some r
def abe{dr eB fD gT iO kE mG oy rT u0 sC BQ:Type}{γ:Type}(o:Option (dr×eB×fD×gT×iO×kE×mG×oy×rT×u0×sC×BQ))(f:dr->eB->fD->gT->iO->kE->mG->oy->rT->u0->sC->BQ->Option γ):Option γ:=match o with | some (x0,x1,x2,x3,x4,x5,x6,x7,x8,x9,Da,yx)=>f x0 x1 x2 x3 x4 x5 x6 x7 x8 x9 Da yx | none=>none
@[simp] theorem aaD{dr eB fD gT iO kE mG oy rT u0 sC BQ:Type}{γ:Type}(x0:dr)(x1:eB)(x2:fD)(x3:gT)(x4:iO)(x5:kE)(x6:mG)(x7:oy)(x8:rT)(x9:u0)(Da:sC)(yx:BQ)(f:dr->eB->fD->gT->iO->kE->mG->oy->rT->u0->sC->BQ->Option γ):abe (some (x0,x1,x2,x3,x4,x5,x6,x7,x8,x9,Da,yx)) f=f x0 x1 x2 x3 x4 x5 x6 x7 x8 x9 Da yx:=rfl
@[simp] theorem aaE{dr eB fD gT iO kE mG oy rT u0 sC BQ:Type}{γ:Type}(f:dr->eB->fD->gT->iO->kE->mG->oy->rT->u0->sC->BQ->Option γ):abe none f=none:=rfl
def YK{dr eB fD gT iO kE mG oy rT u0 sC BQ:Type}{γ:Type}(o:Option ((dr×eB×fD×gT×iO×kE×mG×oy×rT×u0×sC×BQ)⊕γ))(f:dr->eB->fD->gT->iO->kE->mG->oy->rT->u0->sC->BQ->Option γ):Option γ:=match o with | some (.inl (x0,x1,x2,x3,x4,x5,x6,x7,x8,x9,Da,yx))=>f x0 x1 x2 x3 x4 x5 x6 x7 x8 x9 Da yx | some (.inr r)=>some r | none=>none
@[simp] theorem abf{dr eB fD gT iO kE mG oy rT u0 sC BQ:Type}{γ:Type}(x0:dr)(x1:eB)(x2:fD)(x3:gT)(x4:iO)(x5:kE)(x6:mG)(x7:oy)(x8:rT)(x9:u0)(Da:sC)(yx:BQ)(f:dr->eB->fD->gT->iO->kE->mG->oy->rT->u0->sC->BQ->Option γ):YK (some (.inl (x0,x1,x2,x3,x4,x5,x6,x7,x8,x9,Da,yx))) f=f x0 x1 x2 x3 x4 x5 x6 x7 x8 x9 Da yx:=rfl
@[simp] theorem abg{dr eB fD gT iO kE mG oy rT u0 sC BQ:Type}{γ:Type}(r:γ)(f:dr->eB->fD->gT->iO->kE->mG->oy->rT->u0->sC->BQ->Option γ):YK (some (.inr r)) f=some r:=rfl
@[simp] theorem aaF{dr eB fD gT iO kE mG oy rT u0 sC BQ:Type}{γ:Type}(f:dr->eB->fD->gT->iO->kE->mG->oy->rT->u0->sC->BQ->Option γ):YK none f=none:=rfl
abbrev wi(x:Int):Int:=IntKind.i64.wrap x
theorem eO{x:Int}(h:-9223372036854775808<=x/\x<=9223372036854775807):wi x=x:=i64_in x h
abbrev bM(i:Int)(n:Nat):Prop:=0<=i/\i<(n:Int)
theorem bp{α:Type}[Inhabited α]{l:List α}{i:Int}(h:bM i l.length):l[i.toNat]? = some (J l i.toNat):=get_at (by have:=h.1;have:=h.2;omega)
theorem eZ{α:Type}[Inhabited α]{l:List α}{i:Int}(h:bM i l.length):i.toNat<l.length:=by have:=h.1;have:=h.2;omega
def aO(x:Int):List Value:=[.int .i64 x]
theorem aL:uv aO 1:=⟨λ_=>rfl,λx u h=>by simp only[aO,tX,tY,tZ]at h;subst h;rfl,dO⟩
def Mm(x:Bool):List Value:=[.bool x]
def dR:gF->Nat | some a=>a.block | none=>0
def kz:gF->Nat | some a=>a.off | none=>0
section
variable {P:Program}{w0 w:World}{L:List bu}{α:Type}{E:TypeId}{sz n cc:Nat}{enc:α->List Value}{l:List α}{ca:gF}{o:Oper}{e:Nat->Value}{t:TypeId}{Df:List Deferred}
theorem _root_.Go.Proofs.YtaiffafelihaaaaGreatDoor.SL.Fit.ud(h:Fit w0 (aG (rowOf E sz enc (.slice ca n cc) l::L)) w)(hl:0<l.length):ca=some ⟨dR ca,0,none⟩/\Fit w0 (aG (slc E sz enc (dR ca) cc l::L)) w:=by
 obtain⟨g,e,h'⟩:=h.VT hl;subst e;exact⟨rfl,h'⟩
theorem _root_.Go.Proofs.YtaiffafelihaaaaGreatDoor.SL.Fit.cU(he:uv enc sz)(h:Fit w0 (aG (rowOf E sz enc (.slice ca n cc) l::L)) w){i f:Nat}{x:α}{u:Value}(hi:l[i]? = some x)(hf:(enc x)[f]? = some u):w.cell? ⟨dR ca,i*sz+f,none⟩=some u:=by
 have hlt:i<l.length:=(List.getElem?_eq_some_iff.1 hi).1;exact(h.ud I).2.PT he i f x u hi hf
theorem _root_.Go.Proofs.YtaiffafelihaaaaGreatDoor.SL.Fit.zw(h:Fit w0 (aG (slc E sz enc (dR ca) cc l::L)) w)(hca:ca=some ⟨dR ca,0,none⟩)(hn:n=l.length):Fit w0 (aG (rowOf E sz enc (.slice ca n cc) l::L)) w:=h.VV hca hn
theorem Ah{w':World}{x y:Operand}{k:IntKind}{i:Int}(ho:o.op= .indexAddr t x y)(hx:eV e x= .slice ca n cc)(hy:eV e y= .int k i)
 (ht:P.underlying t=some (.slice E)) (hs:(P.info? E).map (·.size)=some sz) (hF:Fit w0 (aG (rowOf E sz enc (.slice ca n cc) l::L)) w) (hi:bM i l.length):(execOp (eV e) o).run P w'= .ok (.value (.pointer (some ⟨dR ca,i.toNat*sz,none⟩))) w':=by
 have hn:=hF.s6;have h0:=hi.1;have h1:=hi.2;have hca:=(hF.ud I).1;exact YA hca ho hx hy ht hs h0 I
end
section
variable {P:Program}{ops:Array Oper}{Q:Exit->Act->World->Prop}{a:Act}{w w0 w1:World}{rest:List Oper}{o:Oper}{n d t:Nat}{v:Value}{l:List (Nat×Value)}{j e:Nat->Value}{L:List bu}{H:bu}{Df:List Deferred}
variable {α:Type}{E:TypeId}{sz n0 cc:Nat}{enc:α->List Value}{xs:List α}{ca:gF}
theorem qm{x y:Operand}(hw:vt o ops a)(hd:o.dst=none)(hr:cP Df n (lk l j) a)(ho:o.op= .store t x y)
 {i f:Nat} (hx:eV (lk l j) x= .pointer (some ⟨dR ca,i*sz+f,none⟩)) (hy:eV (lk l j) y=v) (hv:v.cells=#[v]) (h1:v.oneCell'=true) (hs:(P.info? t).map (·.size)=some 1)
 (he:uv enc sz) (hF:Fit w0 (aG (rowOf E sz enc (.slice ca n0 cc) xs::L)) w) {p q:α} (hp:xs[i]? = some p) (hf:f<sz) (hq:enc q=(enc p).set f v)
 (k:∀w1,Fit w0 (aG (rowOf E sz enc (.slice ca n0 cc) (xs.set i q)::L)) w1->wpList P ops Q rest a w1):wpList P ops Q (o::rest) a w:=by
 have hlt:i<xs.length:=(List.getElem?_eq_some_iff.1 hp).1;have hn:=hF.s6;obtain⟨hca,Fa⟩:=hF.ud I;exact Kp hw hd hr ho hx hy hv h1 hs he Fa hp hf hq λw1 h=>k w1 (h.zw hca (by rw[gV];exact hn))
theorem yJ{x y:Operand}{vs:List Value}(hw:vt o ops a)(hd:o.dst=none)(hr:cP Df n (lk l j) a)(ho:o.op= .store t x y)
 {i:Nat} (hx:eV (lk l j) x= .pointer (some ⟨dR ca,i*sz,none⟩)) (hy:eV (lk l j) y= .agg vs.toArray) (h1:vs.all (·.oneCell')=true) (hs:(P.info? t).map (·.size)=some vs.length)
 (he:uv enc sz) (hF:Fit w0 (aG (rowOf E sz enc (.slice ca n0 cc) xs::L)) w) {q:α} (hi:i<xs.length) (hq:enc q=vs)
 (k:∀w1,Fit w0 (aG (rowOf E sz enc (.slice ca n0 cc) (xs.set i q)::L)) w1->wpList P ops Q rest a w1):wpList P ops Q (o::rest) a w:=by
 have hn:=hF.s6;obtain⟨hca,Fa⟩:=hF.ud I;exact I0 hw hd hr ho hx hy h1 hs he Fa hi hq λw1 h=>k w1 (h.zw hca (by rw[gV];exact hn))
theorem uL{x y:Operand}{i:Int}{bytes:Nat}{zc:Array Value}(z0:α)(hw:vt o ops a)(hd:o.dst=some d)(hn:Nat.blt d n=true)(hr:cP Df n (lk l j) a)
 (ho:o.op= .makeSlice t x y) (hx:eV (lk l j) x= .int .i64 i) (hy:eV (lk l j) y= .int .i64 i) (hi:0<=i/\i*bytes<=140737488355328) (he:uv enc sz) (hty:P.underlying t=some (.slice E))
 (rS:(P.info? E).map (λi=>(i.size,i.bytes,i.zero.map (·.cells)))=some (sz,bytes,some zc)) (hz:zc.toList=enc z0) (N0:Nat.blt 0 bytes=true) (hF:Fit w0 (aG L) w)
 (k:∀ca w1 a,Fit w0 (aG (rowOf E sz enc (.slice ca (List.replicate i.toNat z0).length i.toNat) (List.replicate i.toNat z0)::L)) w1->cP Df n (lk ((d,.slice ca (List.replicate i.toNat z0).length i.toNat)::l) j) a->wpList P ops Q rest a w1):wpList P ops Q (o::rest) a w:=by
 have hb:i.toNat*bytes<=140737488355328:=by
  have h2:=hi.2;have e:((i.toNat*bytes:Nat):Int)=i*bytes:=by rw[Int.natCast_mul,Int.toNat_of_nonneg hi.1]
  omega
 refine VZ (c:=i.toNat) z0 hw hd hn hr ho hx hy (by have:=hi.1;omega) he hty rS hz hb N0 hF λg w1 a h Hj => ?_;have hl:(List.replicate i.toNat z0).length=i.toNat:=nX;refine k (some ⟨g,0,none⟩) w1 a (h.VU rfl) ?_;rw[hl];exact Hj
theorem _root_.Go.Proofs.YtaiffafelihaaaaGreatDoor.SL.Fit.dn{w0 w:World}(k:Nat){L:List bu}(h:Fit w0 (aG L) w):Fit w0 (aG (L.drop k)) w:=by
 induction k generalizing L with
 | zero=>exact h
 | succ k ih =>
  cases L with
  | nil=>exact h
  | cons P L=>exact ih h.drop
def cx{α:Type}(L:List bu)(sz:Nat)(enc:α->List Value)(va:gF)(l:List α):Prop:=
 ∀i x,l[i]? = some x->va=some ⟨dR va,kz va,none⟩/\∀f u,(enc x)[f]? = some u->∀z w,Fit z (aG L) w->w.cell? ⟨dR va,kz va+i*sz+f,none⟩=some u
theorem cx.nil{va:gF}:cx L sz enc va ([]:List α):=λi x h=>by simp at h
theorem cx.up(k:Nat){L':List bu}{va:gF}{l:List α}(h:cx (L'.drop k) sz enc va l):cx L' sz enc va l:=
 λi x hx=>⟨(h i x hx).1,λf u hu z w hw=>(h i x hx).2 f u hu z w (hw.dn k)⟩
theorem cx.Oc{z0:World}{L' L'' L3:List bu}{n cc:Nat}{l:List α}(he:uv enc sz)(h0:Fit z0 (aG (rowOf E sz enc (.slice ca n cc) l::L'')) w)
 (f:∀{z w},Fit z (aG L') w->Fit z (aG (rowOf E sz enc (.slice ca n cc) l::L3)) w):cx L' sz enc ca l:=by
 intro i x hx;have hlt:i<l.length:=(List.getElem?_eq_some_iff.1 hx).1;have hca:=(h0.ud I).1;have ho:kz ca=0:=by rw[hca];rfl
 refine⟨by rw[ho];exact hca,λq u hu z w hw => ?_⟩;rw[ho,Dv];exact(f hw).cU he hx hu
theorem cx.take{va:gF}{l:List α}(h:cx L sz enc va l)(k:Nat):cx L sz enc va (l.take k):=by
 intro i x hx;refine h i x ?_;rw[List.getElem?_take]at hx;split at hx
 ·exact hx
 ·cases hx
theorem XM{x y:Operand}{k:IntKind}{i:Int}{n0:Nat}{L:List bu}{va:gF}[Inhabited α]{l:List α}(ho:o.op= .indexAddr t x y)(hx:eV e x= .slice va n0 cc)(hy:eV e y= .int k i)(GB:n0=l.length)
 (ht:P.underlying t=some (.slice E)) (hs:(P.info? E).map (·.size)=some sz) (hF:cx L sz enc va l) (hi:bM i l.length):(execOp (eV e) o).run P w= .ok (.value (.pointer (some ⟨dR va,kz va+i.toNat*sz,none⟩))) w:=by
 have h0:=hi.1;have h1:=hi.2;exact rie (hF _ _ (bp hi)).1 ho hx hy ht hs h0 I
theorem cx.cell{z:World}{L:List bu}{va:gF}[Inhabited α]{l:List α}{i:Int}(hF:cx L sz enc va l)(hi:bM i l.length)(h:Fit z (aG L) w)(f:Nat){u:Value}(hu:(enc (J l i.toNat))[f]? = some u):w.cell? ⟨dR va,kz va+i.toNat*sz+f,none⟩=some u:=
 (hF _ _ (bp hi)).2 f u hu z w h
theorem Hx:∀(n:Nat) (L:List bu),aG ((List.range n).map (λi=>L.getD i NY)++L.drop n)=aG L
 | 0,L=>by simp
 | n+1,[]=>by
  have e:∀n,aG ((List.range n).map (λi=>([]:List bu).getD i NY))=aG []:=by
   intro n
   induction n with
   | zero=>rfl
   | succ n ih =>
    rw[List.range_succ,G4,BM,ih];show sep NY (sep NY NY)=NY;rw[Gz,Gz]
  simpa using e (n+1)
 | n+1,P::L=>by
  rw[List.range_succ_eq_map,C4,List.map_map];have ih:=Hx n L;show sep P (aG (List.map ((λi=>(P::L).getD i NY)∘Nat.succ) (List.range n)++L.drop n))=sep P (aG L);rw[<-ih]
  rfl
def abh(n:Nat)(is:List Nat):Bool:=(is++(List.range n).filter (λi => !is.contains i)).isPerm (List.range n)
theorem _root_.Go.Proofs.YtaiffafelihaaaaGreatDoor.SL.Fit.sel{w0 w:World}{L L':List bu}(h:Fit w0 (aG L) w)(n:Nat)(is:List Nat)(hB:abh n is=true)(e:is.map (λi=>L.getD i NY)++L.drop n=L'):Fit w0 (aG L') w:=by
 subst e;have hp:=(List.isPerm_iff.1 hB).map (λi=>L.getD i NY);have h1:Fit w0 (aG ((List.range n).map (λi=>L.getD i NY)++L.drop n)) w:=h.eq (Hx n L).symm;rw[G4]at hp;have h2:=h1.perm (hp.symm.append_right (L.drop n));have h3:=h2.perm (List.perm_append_comm.append_right (L.drop n));rw[s5]at h3;generalize ((List.range n).filter (λi => !is.contains i)).map (λi=>L.getD i NY)=X at h3;clear h h1 h2 hp hB
 induction X with
 | nil=>exact h3
 | cons x X ih=>exact ih h3.drop
theorem BR{f:FuncId}{args:Array Value}(hw:vt o ops a)(hd:o.dst=some d)(hn:Nat.blt d n=true)(hr:cP Df n (lk l j) a)
 (hrun:(execOp (eV (lk l j)) o).run P w= .ok (.enter f args) w) (hc:Calls P f args w λe w1 =>∃v,e= .returned v/\∀a,cP Df n (lk ((d,v)::l) j) a->wpList P ops Q rest a w1):wpList P ops Q (o::rest) a w:=
 uY hw hd hn hr hrun hc λe w1 h=>h
variable {md:Region.Mode}
def eP(P:Program)(md:Region.Mode)(ops:Array Oper)(Q:Exit->Act->World->Prop)(D:World->Prop)(E:List Nat):Nat->Array Bool->Act->World->Prop
 | 0,aQ,a,w=>Region.ready md ops aQ=[]/\Q .normal a w
 | fuel+1,aQ,a,w=>(Region.ready md ops aQ=[]->Q .normal a w)/\
  ∀i∈Region.ready md ops aQ,wpOp P ops Q i (λa w=>(i∈E->D w)/\eP P md ops Q D E fuel (aQ.setIfInBounds i true) a w) a w
theorem Hy{D:World->Prop}{E:List Nat}:∀(fuel:Nat) (aQ:Array Bool) (a:Act) (w:World),eP P md ops Q D E fuel aQ a w->wpAny P md ops Q fuel aQ a w
 | 0,_,_,_,h=>h
 | f+1,aQ,a,w,h=>⟨h.1,λi hi=>wpOp_mono (λa w k=>Hy f _ a w k.2) (h.2 i hi)⟩
def Db(md:Region.Mode)(ops:Array Oper)(E:List Nat)(aQ:Array Bool)(i:Nat):Bool:=
 (List.range ops.size).all λk=>k==i||aQ.getD k true || !Ml md ops aQ i ops.size k||E.contains k||match ops[k]? with | some ok=>Fb ok | none=>true
theorem Rd{D D':World->Prop}{E E':List Nat}{k:Nat}{oi ok:Oper}(hk:ops[k]? = some ok)(hap:oi.apart ops ok=true)(Vx:xQ Q)
 (hsi:∀cs b,oi.op≠.select cs b) (hsk:∀cs b,ok.op≠.select cs b) (Sl:∀k∈E',k∈E/\∀w,D w->D' w) (hDk:∀w w',qk w w'->D' w->D' w') (Mn:(∀w,D' w)∨Fb ok=true∨k∈E') (hD:D' w) {K:Act->World->Prop}
 (hy:YD P ops D' oi v a) (h:wpOp P ops Q k (λa w=>(k∈E->D w)/\K a w) (a.put oi.dst v) w):wpOp P ops Q k (λa w=>(k∈E->D w)/\D' w/\YD P ops D' oi v a/\K (a.put oi.dst v) w) a w:=by
 obtain⟨h1,h2,h3⟩:=Oper.apart_spec hap;have keep:∀(a:Act),YD P ops D' oi v a->∀u,YD P ops D' oi v (a.put ok.dst u):=λa hy u=>hy.of_same (execOp_put oi hsi a ok.dst u h3) (wanted_put oi a ok.dst u h3);unfold wpOp at *;simp only[hk]at *;rw[wanted_put ok a oi.dst v h1]at h;by_cases hw:Region.wanted ok (yielded ops a.tmps)=true
 ·rw[aM hw]at h⊢;rcases h with h | h
  ·left
   unfold Oper.wp at *;rw[execOp_put ok hsk a oi.dst v h1]at h;have hkeep:=λ(hb:Fb ok=true) x w' hr=>Mi (P:=P) hb a.eval w w' x hr;generalize (execOp a.eval ok).run P w=r at *;cases r with
   | ok x w' =>
    have hD':(k∈E->D w')->D' w':=by
     intro hE;rcases Mn with zx | hb | hb
     ·exact zx w'
     ·exact hDk w w' (hkeep hb x w' rfl).2 hD
     ·exact(Sl k hb).2 _ (hE (Sl k hb).1)
    cases x<;>simp only[Oper.upon]at h⊢
    case value u=>exact⟨h.1,hD' h.1,keep a hy u,by rw[<-Act.put_comm a v u h2];exact h.2⟩
    case skip=>exact⟨h.1,hD' h.1,keep a hy _,by rw[<-Act.put_comm a v undef h2];exact h.2⟩
    case defer df =>
     refine⟨h.1,hD' h.1,?_,?_⟩
     ·have:YD P ops D' oi v ({a with defers:=df::a.defers}:Act):=hy;exact keep _ this _
     ·have e:=Act.put_comm ({a with defers:=df::a.defers}:Act) v undef h2;rw[<-e];have e2:({(a.put oi.dst v)with defers:=df::(a.put oi.dst v).defers}:Act)=({a with defers:=df::a.defers}:Act).put oi.dst v:=by cases oi.dst<;>rfl
      rw[<-e2];exact h.2
    case enter f args =>
     have SU:∀w'',(k∈E->D w'')->D' w'':=by
      intro w'' hE;rcases Mn with zx | hb | hb
      ·exact zx w''
      ·obtain⟨⟨u,hu⟩,_⟩:=hkeep hb _ _ rfl;cases hu
      ·exact(Sl k hb).2 _ (hE (Sl k hb).1)
     refine h.mono λe w'' he => ?_;cases e with
     | returned u=>exact⟨he.1,SU _ he.1,keep a hy u,by rw[<-Act.put_comm a v u h2];exact he.2⟩
     | panicked ch=>exact Vx ch a w'' _ _ he
     | outgrown=>exact he
    case row rw' args =>
     have SU:∀w'',(k∈E->D w'')->D' w'':=by
      intro w'' hE;rcases Mn with zx | hb | hb
      ·exact zx w''
      ·obtain⟨⟨u,hu⟩,_⟩:=hkeep hb _ _ rfl;cases hu
      ·exact(Sl k hb).2 _ (hE (Sl k hb).1)
     refine h.mono λu w'' he => ?_;exact⟨he.1,SU _ he.1,keep a hy u,by rw[<-Act.put_comm a v u h2];exact he.2⟩
   | halt x w' =>
    cases x<;>simp only[Oper.upon]at h⊢;exact Vx _ a w' _ _ h
  ·right
   refine⟨?_,h.2⟩;have:=h.1;unfold Oper.asks at *;rw[execOp_put ok hsk a oi.dst v h1]at this;exact this
 ·rw[bZ hw]at h⊢;exact⟨h.1,hD,keep a hy _,by rw[<-Act.put_comm a v undef h2];exact h.2⟩
theorem u3{D D':World->Prop}{E E':List Nat}{i:Nat}{oi:Oper}(hi:ops[i]? = some oi)(Vx:xQ Q)(hsel:∀(k:Nat) (o:Oper) cs b,ops[k]? = some o->o.op≠.select cs b)(hiD:i∈E->∀w,D' w->D w)(Sl:∀k∈E',k∈E/\∀w,D w->D' w)(hDk:∀w w',qk w w'->D' w->D' w')
 (tA:Array Bool) (Mn:(∀w,D' w)∨Db md ops E' tA i=true) :
 ∀(fuel:Nat) (aQ:Array Bool) (a:Act) (w:World),
   (∀k ok,ops[k]? = some ok->k≠i->aQ.getD k true=false->(∀e∈ok.after,Region.binds md e=true->e.on≠i)->oi.apart ops ok=true)->
   (∀k,aQ.getD k true=false->tA.getD k true=false)->
   (∀k,aQ.getD k false=true->tA.getD k false=true∨∀f,Ml md ops tA i f k=true)->
   i∈Region.ready md ops aQ->D' w->YD P ops D' oi v a->
   eP P md ops Q D E fuel (aQ.setIfInBounds i true) (a.put oi.dst v) w->eP P md ops Q D E (fuel+1) aQ a w:=by
 intro fuel;have hcan:∀(aQ:Array Bool),(∀k,aQ.getD k false=true->tA.getD k false=true∨∀f,Ml md ops tA i f k=true)->∀k ok,ops[k]? = some ok->k≠i->(∀e∈ok.after,Region.binds md e=true->aQ.getD e.on false=true)->∀f,Ml md ops tA i f k=true:=by
  intro aQ hl k ok hk J0 zx f;cases f with
  | zero=>rfl
  | succ f =>
   simp only[Ml,hk,mE,bne_iff_ne,ne_eq,J0,not_false_eq_true,true_and];rw[Array.all_eq_true_iff_forall_mem];intro e he;by_cases hb:Region.binds md e=true
   ·rcases hl _ (zx e he hb)with h | h
    ·simp[h]
    ·simp[h f]
   ·simp[hb]
 have hp:∀(aQ:Array Bool),(∀k,aQ.getD k true=false->tA.getD k true=false)->(∀k,aQ.getD k false=true->tA.getD k false=true∨∀f,Ml md ops tA i f k=true)->∀k ok,ops[k]? = some ok->k≠i->aQ.getD k true=false->(∀e∈ok.after,Region.binds md e=true->aQ.getD e.on false=true)->(∀w,D' w)∨Fb ok=true∨k∈E':=by
  intro aQ hl0 hl k ok hk J0 hun zx;rcases Mn with h | h
  ·exact .inl h
  ·right
   have hc:=hcan aQ hl k ok hk J0 zx ops.size;have h1:=List.all_eq_true.1 h k (List.mem_range.2 (Array.getElem?_eq_some_iff.1 hk).1);simp only[hk,BH,zn,J0,false_or,hl0 k hun,G5,hc,Bool.not_true,List.contains_iff_mem]at h1;exact h1.symm
 induction fuel with
 | zero =>
  intro aQ a w _ _ _ hr hD hy H;refine⟨λh=>(by rw[h]at hr;cases hr),λk hk => ?_⟩;by_cases J0:k=i
  ·subst J0;exact hy.wpOp hi hD ⟨λh=>hiD h _ hD,H⟩
  ·have:=ready_mono hk J0;rw[H.1]at this;cases this
 | succ fuel ih =>
  intro aQ a w hfree hl0 hl hr hD hy H;refine⟨λh=>(by rw[h]at hr;cases hr),λk hk => ?_⟩;by_cases J0:k=i
  ·subst J0;exact hy.wpOp hi hD ⟨λh=>hiD h _ hD,H⟩
  ·have h1:=H.2 k (ready_mono hk J0);obtain⟨V4,ok,hok,zx⟩:=mem_ready.1 hk;have hnot:∀e∈ok.after,Region.binds md e=true->e.on≠i:=λe he hb heq=>by
    have h1:=zx e he hb;have h0:=(mem_ready.1 hr).1;rw[heq]at h1;rcases AV i aQ.size with h' | h'
    ·simp[h']at h0 h1;rw[h0]at h1;cases h1
    ·simp[Array.getElem?_eq_none h']at h1
   have h2:=Rd (D:=D) (E:=E) (E':=E') hok (hfree k ok hok J0 V4 hnot) Vx (λcs b=>hsel i oi cs b hi) (λcs b=>hsel k ok cs b hok) Sl hDk (hp aQ hl0 hl k ok hok J0 V4 zx) hD hy h1;have YL:∀m om,ops[m]? = some om->m≠i->(aQ.setIfInBounds k true).getD m true=false->
    (∀e∈om.after,Region.binds md e=true->e.on≠i)->oi.apart ops om=true:=λm om hm hmi hun hno=>by
    refine hfree m om hm hmi ?_ hno;by_cases hkm:k=m
    ·subst hkm;exact V4
    ·rw[getD_set_ne true hkm]at hun;exact hun
   have adx:∀m,(aQ.setIfInBounds k true).getD m true=false->tA.getD m true=false:=λm hm=>by
    by_cases hkm:k=m
    ·subst hkm;exact hl0 k V4
    ·rw[getD_set_ne true hkm]at hm;exact hl0 m hm
   have hl':∀m,(aQ.setIfInBounds k true).getD m false=true->tA.getD m false=true∨∀f,Ml md ops tA i f m=true:=λm hm=>by
    by_cases hkm:k=m
    ·subst hkm;exact .inr (hcan aQ hl k ok hok J0 zx)
    ·rw[getD_set_ne false hkm]at hm;exact hl m hm
   refine wpOp_mono (λa' w' h3=>⟨h3.1,ih (aQ.setIfInBounds k true) a' w' YL adx hl' (ready_mono hr (Ne.symm J0)) h3.2.1 h3.2.2.1 ?_⟩) h2;rw[Array.setIfInBounds_comm _ _ J0];exact h3.2.2.2
theorem abi{id:Nat}{lo:List Oper}{H:bu}(D:World->Prop)(E:List Nat)(hF:Fit w0 H w)(hm:P.follows .mixedOrders=true)(k:∀w,Fit w0 H w->eP P .any lo.toArray Q D E lo.toArray.size (Array.replicate lo.toArray.size false) a w) :
 (Code.region id lo.toArray true).wp P Q a w:=V0 hF hm λw h=>Hy _ _ _ _ (k w h)
theorem e_val{D:World->Prop}{E:List Nat}{fuel i:Nat}{aQ:Array Bool}(Vx:xQ Q)(hi:ops[i]? = some o)(Re:Region.noSelect ops=true)(hrd:(Region.ready .any ops aQ).contains i=true)(hfr:Region.free .any ops aQ i=true)
 (hiE:E.contains i=false) (hw:vt o ops a) (hd:o.dst=some d) (hn:Nat.blt d n=true) (hr:cP Df n (lk l j) a) (hrun:∀w,(execOp (eV (lk l j)) o).run P w= .ok (.value v) w)
 (k:∀a,cP Df n (lk ((d,v)::l) j) a->eP P .any ops Q D E fuel (aQ.setIfInBounds i true) a w):eP P .any ops Q D E (fuel+1) aQ a w:=by
 refine u3 (D:=D) (D':=λ_=>True) (E:=E) (E':=[]) (v:=v) hi Vx (L1 Re) (λh=>absurd h (by simpa using hiE)) (λ_ h=>nomatch h) (λ_ _ _ _=>trivial) aQ (.inl λ_=>trivial) fuel aQ a w (Region.free_spec hi hfr) (λ_ h=>h) (λ_ h=>.inl h) (by simpa using hrd) trivial ?_ ?_
 ·exact .inl ⟨hw,λw _=>by rw[hr.eval];exact hrun w⟩
 ·rw[hd];exact k _ (hr.put d v hn)
theorem e_off{D:World->Prop}{E:List Nat}{fuel i:Nat}{aQ:Array Bool}(Vx:xQ Q)(hi:ops[i]? = some o)(Re:Region.noSelect ops=true)(hrd:(Region.ready .any ops aQ).contains i=true)(hfr:Region.free .any ops aQ i=true)
 (hiE:E.contains i=false) (hw:Region.wanted o (yielded ops a.tmps)=false) (hd:o.dst=some d) (hn:Nat.blt d n=true) (hr:cP Df n (lk l j) a)
 (k:∀a,cP Df n (lk ((d,undef)::l) j) a->eP P .any ops Q D E fuel (aQ.setIfInBounds i true) a w):eP P .any ops Q D E (fuel+1) aQ a w:=by
 refine u3 (D:=D) (D':=λ_=>True) (E:=E) (E':=[]) (v:=undef) hi Vx (L1 Re) (λh=>absurd h (by simpa using hiE)) (λ_ h=>nomatch h) (λ_ _ _ _=>trivial) aQ (.inl λ_=>trivial) fuel aQ a w (Region.free_spec hi hfr) (λ_ h=>h) (λ_ h=>.inl h) (by simpa using hrd) trivial ?_ ?_
 ·exact .inr ⟨hw,rfl⟩
 ·rw[hd];exact k _ (hr.put d undef hn)
theorem Hz:∀(cs:List Value) (b off:Nat) (w w':World),qk w w'->rm w b off cs->rm w' b off cs
 | [],_,_,_,_,_,_=>trivial
 | _::cs,b,off,w,w',hg,h=>⟨hg _ _ h.1,Hz cs b (off+1) w w' hg h.2⟩
theorem YM{D:World->Prop}{E:List Nat}(E':List Nat){fuel i:Nat}{aQ:Array Bool}{b off:Nat}{cs:List Value}(Vx:xQ Q)(Sl:∀k∈E',k∈E/\∀w,D w->rm w b off cs)(hi:ops[i]? = some o)(Re:Region.noSelect ops=true)(hrd:(Region.ready .any ops aQ).contains i=true)(hfr:Region.free .any ops aQ i=true)
 (SU:Db .any ops E' aQ i=true) (hiE:E.contains i=false) (hw:vt o ops a) (hd:o.dst=some d) (hn:Nat.blt d n=true) (hr:cP Df n (lk l j) a)
 (hc:rm w b off cs) (hrun:∀w,rm w b off cs->(execOp (eV (lk l j)) o).run P w= .ok (.value v) w)
 (k:∀a,cP Df n (lk ((d,v)::l) j) a->eP P .any ops Q D E fuel (aQ.setIfInBounds i true) a w):eP P .any ops Q D E (fuel+1) aQ a w:=by
 refine u3 (D:=D) (D':=λw=>rm w b off cs) (E:=E) (E':=E') (v:=v) hi Vx (L1 Re) (λh=>absurd h (by simpa using hiE)) Sl (λw w'=>Hz cs b off w w') aQ (.inr SU) fuel aQ a w (Region.free_spec hi hfr) (λ_ h=>h) (λ_ h=>.inl h) (by simpa using hrd) hc ?_ ?_
 ·exact .inl ⟨hw,λw h=>by rw[hr.eval];exact hrun w h⟩
 ·rw[hd];exact k _ (hr.put d v hn)
theorem nj{D:World->Prop}{E:List Nat}{fuel:Nat}{aQ:Array Bool}(r:List Nat)(hrd:Region.ready .any ops aQ=r)(hne:r.isEmpty=false)
 (k:Kr (λi =>∃o,ops[i]? = some o/\wpList P ops (Exit.then (λa w=>(i∈E->D w)/\eP P .any ops Q D E fuel (aQ.setIfInBounds i true) a w) Q) [o] a w) r):eP P .any ops Q D E (fuel+1) aQ a w:=by
 refine⟨(λh=>by rw[hrd]at h;rw[h]at hne;cases hne),λk' hk' => ?_⟩;rw[hrd]at hk';obtain⟨o,hi,k⟩:=Kr.mem k k' hk';unfold wpOp;simp only[hi];unfold wpList at k;have hlo:LetsOut (Exit.then (λa w=>(k'∈E->D w)/\eP P .any ops Q D E fuel (aQ.setIfInBounds k' true) a w) Q)->LetsOut Q:=λ⟨a,w,h⟩=>⟨a,w,h⟩;have hmo:∀{x:Act} {y:World} {K:Act->World->Prop},o.wp P x y K (Exit.then (λa w=>(k'∈E->D w)/\eP P .any ops Q D E fuel (aQ.setIfInBounds k' true) a w) Q)->o.wp P x y K Q:=by
  intro x y K h;unfold Oper.wp at *;generalize (execOp x.eval o).run P y=r at *;cases r with
  | ok z w' =>
   cases z<;>simp only[Oper.upon]at h⊢<;> first
    | exact h
    | (refine h.mono λe w'' he => ?_
       cases e with
       | returned u=>exact he
       | panicked ch=>exact he
       | outgrown=>exact hlo he)
  | halt z w'=>cases z<;>simp only[Oper.upon]at h⊢<;> exact h
 split
 ·rename_i hw;rw[aM hw]at k;rcases k with k | k
  ·exact .inl (Oper.wp_mono (λ_ _ h=>h) (hmo k))
  ·exact .inr ⟨k.1,hlo k.2⟩
 ·rename_i hw;rw[bZ hw]at k;exact k
theorem abj{D:World->Prop}{E:List Nat}{fuel i:Nat}{aQ:Array Bool}(hrd:Region.ready .any ops aQ=[i])(hi:ops[i]? = some o)
 (k:wpList P ops (Exit.then (λa w=>(i∈E->D w)/\eP P .any ops Q D E fuel (aQ.setIfInBounds i true) a w) Q) [o] a w):eP P .any ops Q D E (fuel+1) aQ a w:=
 nj [i] hrd rfl (cQ ⟨o,hi,k⟩ iM)
theorem abk{D:World->Prop}{E:List Nat}{fuel:Nat}{aQ:Array Bool}(hrd:Region.ready .any ops aQ=[])(k:Q .normal a w):eP P .any ops Q D E fuel aQ a w:=by
 cases fuel with
 | zero=>exact⟨hrd,k⟩
 | succ f=>exact⟨λ_=>k,λi hi=>by rw[hrd]at hi;cases hi⟩
theorem sk{c:Code}(afW:Act->World->Prop)(h:c.wp P (Exit.then afW Q) a w)(k:∀a w,afW a w->Q .normal a w):c.wp P Q a w:=
 Code.wp_mono (λe a w q=>by
  cases e with
  | normal=>exact k a w q
  | _=>exact q) h
class PI (Q:Exit->Act->World->Prop):Prop where
 pi:xQ Q
instance adt {fn:Func} {R:Ending->World->Prop}:PI (bodyPost P fn R):=⟨Mj⟩
instance adu {K:Act->World->Prop} [h:PI Q]:PI (Exit.then K Q):=⟨Mk h.pi⟩
instance abl {i:Nat} [h:PI Q]:PI (Exit.inBlock i Q):=⟨Kq h.pi⟩
def okB(ops:Array Oper)(E:List Nat)(aQ:Array Bool)(i:Nat):Bool:=Region.noSelect ops&&(Region.ready .any ops aQ).contains i&&Region.free .any ops aQ i && !E.contains i
theorem SV{E:List Nat}{aQ:Array Bool}{i:Nat}(h:okB ops E aQ i=true):Region.noSelect ops=true/\(Region.ready .any ops aQ).contains i=true/\Region.free .any ops aQ i=true/\E.contains i=false:=by
 unfold okB at h;simp only[mE,Bool.not_eq_true']at h;exact⟨h.1.1.1,h.1.1.2,h.1.2,h.2⟩
theorem ev{D:World->Prop}{E:List Nat}{aQ:Array Bool}[hp:PI Q](fuel i:Nat)(hi:ops[i]? = some o)(hB:okB ops E aQ i=true)(hw:vt o ops a)(hr:cP Df n (lk l j) a)(v:Value)
 (hrun:∀w,(execOp (eV (lk l j)) o).run P w= .ok (.value v) w) (k:∀a,cP Df n (lk ((d,v)::l) j) a->eP P .any ops Q D E fuel (aQ.setIfInBounds i true) a w) (hd:o.dst=some d:=by rfl) (hn:Nat.blt d n=true:=by rfl) :
 eP P .any ops Q D E (fuel+1) aQ a w:=
 have hb:=SV hB
 e_val hp.pi hi hb.1 hb.2.1 hb.2.2.1 hb.2.2.2 hw hd hn hr hrun k
theorem eo{D:World->Prop}{E:List Nat}{aQ:Array Bool}[hp:PI Q](fuel i:Nat)(hi:ops[i]? = some o)(hB:okB ops E aQ i=true)(hw:Region.wanted o (yielded ops a.tmps)=false)(hr:cP Df n (lk l j) a)
 (k:∀a,cP Df n (lk ((d,undef)::l) j) a->eP P .any ops Q D E fuel (aQ.setIfInBounds i true) a w) (hd:o.dst=some d:=by rfl) (hn:Nat.blt d n=true:=by rfl) :
 eP P .any ops Q D E (fuel+1) aQ a w:=
 have hb:=SV hB
 e_off hp.pi hi hb.1 hb.2.1 hb.2.2.1 hb.2.2.2 hw hd hn hr k
def okP(ops:Array Oper)(E:List Nat)(aQ:Array Bool)(i:Nat):Bool:=Region.noSelect ops&&(Region.ready .any ops aQ).contains i&&Region.free .any ops aQ i&&Db .any ops E aQ i
theorem XN{E:List Nat}{aQ:Array Bool}{i:Nat}(h:okP ops E aQ i=true):Region.noSelect ops=true/\(Region.ready .any ops aQ).contains i=true/\Region.free .any ops aQ i=true/\Db .any ops E aQ i=true:=by
 unfold okP at h;simp only[mE]at h;exact⟨h.1.1.1,h.1.1.2,h.1.2,h.2⟩
theorem evD{D:World->Prop}{E:List Nat}{aQ:Array Bool}[hp:PI Q](hgo:∀w w',qk w w'->D w->D w')(hDw:D w)(fuel i:Nat)(hi:ops[i]? = some o)(hB:okP ops E aQ i=true)(hw:vt o ops a)(hr:cP Df n (lk l j) a)(v:Value)
 (hrun:∀w,(execOp (eV (lk l j)) o).run P w= .ok (.value v) w) (k:∀a,cP Df n (lk ((d,v)::l) j) a->eP P .any ops Q D E fuel (aQ.setIfInBounds i true) a w) (hd:o.dst=some d:=by rfl) (hn:Nat.blt d n=true:=by rfl) :
 eP P .any ops Q D E (fuel+1) aQ a w:=by
 have hb:=XN hB;refine u3 (D:=D) (D':=D) (E:=E) (E':=E) (v:=v) hi hp.pi (L1 hb.1) (λ_ _ h=>h) (λk hk=>⟨hk,λ_ h=>h⟩) hgo aQ (.inr hb.2.2.2) fuel aQ a w (Region.free_spec hi hb.2.2.1) (λ_ h=>h) (λ_ h=>.inl h) (by simpa using hb.2.1) hDw ?_ ?_
 ·exact .inl ⟨hw,λw _=>by rw[hr.eval];exact hrun w⟩
 ·rw[hd];exact k _ (hr.put d v hn)
theorem eoD{D:World->Prop}{E:List Nat}{aQ:Array Bool}[hp:PI Q](hgo:∀w w',qk w w'->D w->D w')(hDw:D w)(fuel i:Nat)(hi:ops[i]? = some o)(hB:okP ops E aQ i=true)(hw:Region.wanted o (yielded ops a.tmps)=false)(hr:cP Df n (lk l j) a)
 (k:∀a,cP Df n (lk ((d,undef)::l) j) a->eP P .any ops Q D E fuel (aQ.setIfInBounds i true) a w) (hd:o.dst=some d:=by rfl) (hn:Nat.blt d n=true:=by rfl) :
 eP P .any ops Q D E (fuel+1) aQ a w:=by
 have hb:=XN hB;refine u3 (D:=D) (D':=D) (E:=E) (E':=E) (v:=undef) hi hp.pi (L1 hb.1) (λ_ _ h=>h) (λk hk=>⟨hk,λ_ h=>h⟩) hgo aQ (.inr hb.2.2.2) fuel aQ a w (Region.free_spec hi hb.2.2.1) (λ_ h=>h) (λ_ h=>.inl h) (by simpa using hb.2.1) hDw ?_ ?_
 ·exact .inr ⟨hw,rfl⟩
 ·rw[hd];exact k _ (hr.put d undef hn)
theorem el{D:World->Prop}{E:List Nat}{aQ:Array Bool}(E':List Nat){b off:Nat}{cs:List Value}[hp:PI Q](Sl:∀k∈E',k∈E/\∀w,D w->rm w b off cs)(fuel i:Nat)(hi:ops[i]? = some o)(hB:(okB ops E aQ i&&Db .any ops E' aQ i)=true)(hw:vt o ops a)(hr:cP Df n (lk l j) a)(v:Value)
 (hc:rm w b off cs) (hrun:∀w,rm w b off cs->(execOp (eV (lk l j)) o).run P w= .ok (.value v) w)
 (k:∀a,cP Df n (lk ((d,v)::l) j) a->eP P .any ops Q D E fuel (aQ.setIfInBounds i true) a w) (hd:o.dst=some d:=by rfl) (hn:Nat.blt d n=true:=by rfl) :
 eP P .any ops Q D E (fuel+1) aQ a w:=by
 rw[mE]at hB;have hb:=SV hB.1;exact YM E' hp.pi Sl hi hb.1 hb.2.1 hb.2.2.1 hB.2 hb.2.2.2 hw hd hn hr hc hrun k
theorem ov(hr:cP Df n (lk l j) a)(v:Value)(hrun:(execOp (eV (lk l j)) o).run P w= .ok (.value v) w)(k:∀a,cP Df n (lk ((d,v)::l) j) a->wpList P ops Q rest a w)
 (hg:o.guard=none:=by rfl) (hd:o.dst=some d:=by rfl) (hn:Nat.blt d n=true:=by rfl):wpList P ops Q (o::rest) a w:=Ae (wn hg) hd hn hr hrun k
def Mp(P:Program):List Oper->List Value->List (Nat×Value)->(Nat->Value)->World->List (Option Nat×Option (Nat×Bool)×Result Next)
 | o::os,v::vs,l,j,w=>(o.dst,o.guard,(execOp (eV (lk l j)) o).run P w)::Mp P os vs ((o.dst.getD 0,v)::l) j w
 | _,_,_,_,_=>[]
def Mq:List Nat->List Value->World->List (Option Nat×Option (Nat×Bool)×Result Next)
 | d::ds,v::vs,w=>(some d,none,.ok (.value v) w)::Mq ds vs w
 | _,_,_=>[]
def SW:List Nat->List Value->List (Nat×Value)->List (Nat×Value)
 | d::ds,v::vs,l=>SW ds vs ((d,v)::l)
 | _,_,l=>l
theorem ovs:∀(ds:List Nat) (vs:List Value) {os:List Oper} {a:Act} {l:List (Nat×Value)} (hr:cP Df n (lk l j) a) (hl:ds.length=vs.length/\ds.all (λd=>Nat.blt d n)=true) (hrun:Mp P (os.take ds.length) vs l j w=Mq ds vs w)
 (k:∀a,cP Df n (lk (SW ds vs l) j) a->wpList P ops Q (os.drop ds.length) a w),wpList P ops Q os a w
 | [],[],os,a,l,hr,_,_,k=>k a hr
 | d::ds,v::vs,[],a,l,hr,hl,hrun,k=>by simp[Mp,Mq]at hrun
 | d::ds,v::vs,o::os,a,l,hr,hl,hrun,k=>by
  simp only[Bj,pV,Mp,Mq,List.cons.injEq,Prod.mk.injEq]at hrun;obtain⟨⟨h1,h2,h3⟩,h4⟩:=hrun;obtain⟨Ht,F7⟩:=hl;simp only[List.all_cons,mE]at F7;refine Ae (wn h2) h1 F7.1 hr h3 λa hr => ?_;rw[h1]at h4;exact ovs ds vs hr ⟨by simpa using Ht,F7.2⟩ h4 k
theorem _root_.Go.Proofs.YtaiffafelihaaaaGreatDoor.GX.cP.abm{e:Nat->Value}(h:cP Df n e a)(l:List (Nat×Value))(hl:l.map (λp=>e p.1)=l.map (·.2)) :∃j,cP Df n (lk l j) a:=by
 refine h.fold l ?_
 induction l with
 | nil=>trivial
 | cons p l ih=>simp only[C4,List.cons.injEq]at hl;exact⟨hl.1,ih hl.2⟩
theorem hJ{c:Operand}{x y:Code}{e:Nat->Value}(hr:cP Df n e a){b:Bool}(hb:b=true)(h:x.wp P Q a w)(hc:eV e c= .bool b:=by kernel_rfl):(Code.cond c x y).wp P Q a w:=Ho hr hc hb h
theorem jb{c:Operand}{x y:Code}{e:Nat->Value}(hr:cP Df n e a){b:Bool}(hb:b=false)(h:y.wp P Q a w)(hc:eV e c= .bool b:=by kernel_rfl):(Code.cond c x y).wp P Q a w:=Hq hr hc hb h
end
end GX
end
section
namespace SL
open Go Go.RowKit
structure oz(sz:Nat) where
 cs:List Value
 len:cs.length=sz
 one:∀u∈cs,u.oneCell'=true
theorem GC{sz:Nat}(h:0<sz):uv (oz.cs (sz:=sz)) sz:=⟨λx=>x.len,λx=>x.one,h⟩
def vu{α:Type}(e:TypeId)(sz:Nat)(own:α->List Value->bu)(v:Value)(l:List α):bu:=
 exs λcss:List (oz sz)=>aG (SF (css.length=l.length)::rowOf e sz oz.cs v css::List.zipWith (λx c=>own x c.cs) l css)
def BS{α:Type}(e:TypeId)(sz:Nat)(own:α->List Value->bu)(v:Value)(l:List α)(i:Nat)(cs:List Value):bu:=
 exs λcss:List (oz sz)=>aG (SF (css.length=l.length/\(css[i]?).map oz.cs=some cs)::rowOf e sz oz.cs v css::(List.zipWith (λx c=>own x c.cs) l css).eraseIdx i)
section
variable {w0 w:World}{L:List bu}{α:Type}{e:TypeId}{sz n cc i:Nat}{own:α->List Value->bu}{v:Value}{l:List α}{ca:gF}{cs:List Value}{x y:α}
theorem Fit.GD(h:Fit w0 (aG (vu e sz own v l::L)) w) :∃css:List (oz sz),css.length=l.length/\Fit w0 (aG (rowOf e sz oz.cs v css::(List.zipWith (λx c=>own x c.cs) l css++L))) w:=by
 obtain⟨css,h⟩:=h.nR;have h:=h.uJ;obtain⟨hl,h⟩:=h.BN;exact⟨css,hl,h⟩
theorem Fit.GF{css:List (oz sz)}(hl:css.length=l.length)(h:Fit w0 (aG (rowOf e sz oz.cs v css::(List.zipWith (λx c=>own x c.cs) l css++L))) w):Fit w0 (aG (vu e sz own v l::L)) w:=by
 refine Fit.jR css ?_;refine Fit.tv (SF (css.length=l.length)::rowOf e sz oz.cs v css::List.zipWith (λx c=>own x c.cs) l css) L ?_;exact h.zo hl
theorem Fit.Cu(h:Fit w0 (aG (BS e sz own v l i cs::L)) w) :∃css:List (oz sz),css.length=l.length/\(css[i]?).map oz.cs=some cs/\Fit w0 (aG (rowOf e sz oz.cs v css::((List.zipWith (λx c=>own x c.cs) l css).eraseIdx i++L))) w:=by
 obtain⟨css,h⟩:=h.nR;have h:=h.uJ;obtain⟨hl,h⟩:=h.BN;exact⟨css,hl.1,hl.2,h⟩
theorem Fit.PX{css:List (oz sz)}(hl:css.length=l.length)(hi:(css[i]?).map oz.cs=some cs)(h:Fit w0 (aG (rowOf e sz oz.cs v css::((List.zipWith (λx c=>own x c.cs) l css).eraseIdx i++L))) w):Fit w0 (aG (BS e sz own v l i cs::L)) w:=by
 refine Fit.jR css ?_;refine Fit.tv (SF (css.length=l.length/\(css[i]?).map oz.cs=some cs)::rowOf e sz oz.cs v css::(List.zipWith (λx c=>own x c.cs) l css).eraseIdx i) L ?_;exact h.zo ⟨hl,hi⟩
theorem Fit.HA(h:Fit w0 (aG L) w):Fit w0 (aG (vu e sz own (.slice none 0 0) ([]:List α)::L)) w:=
 Fit.GF (css:=[]) rfl (Fit.kR h)
theorem Fit.Od(h:Fit w0 (aG (vu e sz own (.slice ca n cc) l::L)) w):n=l.length:=by
 obtain⟨css,hl,h⟩:=h.GD;rw[<-hl];exact h.s6
theorem Fit.YN(h:Fit w0 (aG (BS e sz own (.slice ca n cc) l i cs::L)) w):n=l.length:=by
 obtain⟨css,hl,_,h⟩:=h.Cu;rw[<-hl];exact h.s6
theorem Fit.oS(h:Fit w0 (aG (vu e sz own v l::L)) w)(hi:l[i]? = some x) :∃cs,Fit w0 (aG (BS e sz own v l i cs::own x cs::L)) w:=by
 obtain⟨css,hl,h⟩:=h.GD;have Hf:i<css.length:=by rw[hl];exact(List.getElem?_eq_some_iff.1 hi).1
 have hc:css[i]? = some css[i]:=List.getElem?_eq_getElem Hf;refine⟨css[i].cs,Fit.PX hl (by rw[hc];rfl) ?_⟩;have hz:(List.zipWith (λx c=>own x c.cs) l css)[i]? = some (own x css[i].cs):=by
  rw[List.getElem?_zipWith,hi,hc]
 have h2:Fit w0 (aG (List.zipWith (λx c=>own x c.cs) l css++(rowOf e sz oz.cs v css::L))) w:=h.perm (by
  refine(G6 (l₁:=List.zipWith (λx c=>own x c.cs) l css) (a:=rowOf e sz oz.cs v css) (l₂:=L)).symm)
 have h3:=Fit.tv _ _ h2;have h4:Fit w0 (aG (aG (own x css[i].cs::(List.zipWith (λx c=>own x c.cs) l css).eraseIdx i)::rowOf e sz oz.cs v css::L)) w:=by
  refine h3.head λq hq => ?_;have:=E9 i (List.zipWith (λx c=>own x c.cs) l css);unfold SL.pick at this;rw[hz]at this;show aG _ q;rw[this];exact hq
 have h5:=h4.uJ;refine h5.perm ?_;simp only[ua];refine((G6 (l₁:=(List.zipWith (λx c=>own x c.cs) l css).eraseIdx i) (a:=rowOf e sz oz.cs v css) (l₂:=L)).cons _).trans ?_;refine(List.Perm.swap _ _ _).trans (List.Perm.cons _ ?_);exact(G6 (l₁:=(List.zipWith (λx c=>own x c.cs) l css).eraseIdx i) (a:=own x css[i].cs) (l₂:=L)).symm
theorem Fit.SX(hi:i<l.length)(h:Fit w0 (aG (BS e sz own v l i cs::own y cs::L)) w):Fit w0 (aG (vu e sz own v (l.set i y)::L)) w:=by
 obtain⟨css,hl,hc,h⟩:=h.Cu;have Hf:i<css.length:=by rw[hl];exact hi
 have J1:css[i]? = some css[i]:=List.getElem?_eq_getElem Hf;rw[J1]at hc;simp only[vz,Option.some.injEq]at hc;refine Fit.GF (css:=css) (by rw[gV];exact hl) ?_;have hz:(List.zipWith (λx c=>own x c.cs) (l.set i y) css)[i]? = some (own y cs):=by
  rw[List.getElem?_zipWith,List.getElem?_set_self hi,J1,<-hc]
 have he:(List.zipWith (λx c=>own x c.cs) (l.set i y) css).eraseIdx i=(List.zipWith (λx c=>own x c.cs) l css).eraseIdx i:=by
  have h1:List.zipWith (λx c=>own x c.cs) (l.set i y) css=(List.zipWith (λx c=>own x c.cs) l css).set i (own y css[i].cs):=by
   apply zm
   intro k;rw[List.getElem?_zipWith];by_cases hk:i=k
   ·subst hk;rw[List.getElem?_set_self hi,J1,List.getElem?_set_self (by rw[List.length_zipWith];omega)]
   ·rw[List.getElem?_set_ne hk,List.getElem?_set_ne hk,List.getElem?_zipWith]
  rw[h1]
  apply zm
  intro k;rw[List.getElem?_eraseIdx,List.getElem?_eraseIdx];split
  ·rw[List.getElem?_set_ne I]
  ·rw[List.getElem?_set_ne I]
 have h2:Fit w0 (aG ((own y cs::(List.zipWith (λx c=>own x c.cs) (l.set i y) css).eraseIdx i)++(rowOf e sz oz.cs v css::L))) w:=by
  rw[he];refine h.perm ?_;simp only[ua];refine(List.Perm.cons _ (G6 (l₁:=(List.zipWith (λx c=>own x c.cs) l css).eraseIdx i) (a:=own y cs) (l₂:=L))).trans ?_;refine(List.Perm.swap _ _ _).trans (List.Perm.cons _ ?_);exact(G6 (l₁:=(List.zipWith (λx c=>own x c.cs) l css).eraseIdx i) (a:=rowOf e sz oz.cs v css) (l₂:=L)).symm
 have h3:=Fit.tv _ _ h2;have h4:Fit w0 (aG (aG (List.zipWith (λx c=>own x c.cs) (l.set i y) css)::rowOf e sz oz.cs v css::L)) w:=by
  refine h3.head λq hq => ?_;have:=E9 i (List.zipWith (λx c=>own x c.cs) (l.set i y) css);unfold SL.pick at this;rw[hz]at this;rw[<-this];exact hq
 exact h4.uJ.perm (G6 (l₁:=List.zipWith (λx c=>own x c.cs) (l.set i y) css) (a:=rowOf e sz oz.cs v css) (l₂:=L))
theorem Fit.rq(h:Fit w0 (aG (BS e sz own (.slice ca n cc) l i cs::L)) w)(hp:0<sz){f:Nat}{u:Value}(hf:cs[f]? = some u):w.cell? ⟨GX.dR ca,i*sz+f,none⟩=some u:=by
 obtain⟨css,hl,hc,h⟩:=h.Cu;cases J1:css[i]? with
 | none=>rw[J1]at hc;simp at hc
 | some c =>
  rw[J1]at hc;simp only[vz,Option.some.injEq]at hc;exact h.cU (GC hp) J1 (by rw[hc];exact hf)
theorem Fit.PY(h:Fit w0 (aG (BS e sz own v l i cs::L)) w):i<l.length:=by
 obtain⟨css,hl,hc,_⟩:=h.Cu;cases J1:css[i]? with
 | none=>rw[J1]at hc;simp at hc
 | some c=>have:=(List.getElem?_eq_some_iff.1 J1).1;omega
theorem Fit.zy(h:Fit w0 (aG (BS e sz own v l i cs::own y cs::L)) w):Fit w0 (aG (vu e sz own v (l.set i y)::L)) w:=h.SX h.PY
theorem Fit.iE[Inhabited α](h:Fit w0 (aG (BS e sz own v l i cs::own (GX.J l i) cs::L)) w):Fit w0 (aG (vu e sz own v l::L)) w:=by
 have hi:=h.PY;have h:=h.zy;have e1:l.set i (GX.J l i)=l:=by
  apply zm
  intro k;by_cases hk:i=k
  ·subst hk;rw[List.getElem?_set_self hi,GX.get_at hi]
  ·rw[List.getElem?_set_ne hk]
 rw[e1]at h;exact h
theorem Fit.Rf(h:Fit w0 (aG (vu e sz own (.slice ca n cc) l::L)) w)(hl:0<l.length):ca=some ⟨GX.dR ca,0,none⟩:=by
 obtain⟨css,hl',h⟩:=h.GD;exact(h.ud I).1
theorem Fit.Rg(h:Fit w0 (aG (BS e sz own (.slice ca n cc) l i cs::L)) w):ca=some ⟨GX.dR ca,0,none⟩:=by
 obtain⟨css,hl',hc,h⟩:=h.Cu;have:0<css.length:=by
  cases J1:css[i]? with
  | none=>rw[J1]at hc;simp at hc
  | some c=>have:=(List.getElem?_eq_some_iff.1 J1).1;omega
 exact(h.ud this).1
theorem Fit.Cv{enc:α->List Value}{b:Nat}{cs:Array Value}{T:TypeId}(hl:l.length=n)(hc:cs.toList=l.flatMap enc)(he:uv enc sz)(hm:n<=maxLen)(h:Fit w0 (aG (pts b (.cells cs T)::L)) w) :
 Fit w0 (aG (rowOf T sz enc (.slice (some ⟨b,0,none⟩) n n) l::L)) w:=by
 subst hl;refine h.head λz hz=>.inr ⟨b,l.length,cs,rfl,ja _,hm,?_,?_,hz⟩
 ·rw[<-vy,hc,he.flat]
 ·rw[hc];exact FT (by rw[he.flat];exact ja _)
end
end SL
namespace GX
open Go Go.RowKit SL
section
variable {P:Program}{ops:Array Oper}{Q:Exit->Act->World->Prop}{a:Act}{w w0 w1:World}{rest:List Oper}{o:Oper}{n d t:Nat}{v:Value}{l:List (Nat×Value)}{j e:Nat->Value}{L:List bu}{H:bu}{Df:List Deferred}
variable {α:Type}{E:TypeId}{sz n0 cc:Nat}{enc:α->List Value}{xs:List α}{ca:gF}{own:α->List Value->bu}
theorem GG{w':World}{x y:Operand}{k:IntKind}{i:Int}(ho:o.op= .indexAddr t x y)(hx:eV e x= .slice ca n cc)(hy:eV e y= .int k i)
 (ht:P.underlying t=some (.slice E)) (hs:(P.info? E).map (·.size)=some sz) (hF:Fit w0 (aG (vu E sz own (.slice ca n cc) xs::L)) w) (hi:bM i xs.length):(execOp (eV e) o).run P w'= .ok (.value (.pointer (some ⟨dR ca,i.toNat*sz,none⟩))) w':=by
 have hn:=hF.Od;have h0:=hi.1;have h1:=hi.2;exact YA (hF.Rf I) ho hx hy ht hs h0 I
theorem xn{w':World}{x y:Operand}{k:IntKind}{i:Int}{i0:Nat}{cs:List Value}(ho:o.op= .indexAddr t x y)(hx:eV e x= .slice ca n cc)(hy:eV e y= .int k i)
 (ht:P.underlying t=some (.slice E)) (hs:(P.info? E).map (·.size)=some sz) (hF:Fit w0 (aG (BS E sz own (.slice ca n cc) xs i0 cs::L)) w) (hi:bM i xs.length):(execOp (eV e) o).run P w'= .ok (.value (.pointer (some ⟨dR ca,i.toNat*sz,none⟩))) w':=by
 have hn:=hF.YN;have h0:=hi.1;have h1:=hi.2;exact YA hF.Rg ho hx hy ht hs h0 I
theorem Oe{x y:Operand}{k:IntKind}{i:Int}{b N:Nat}{w':World}(ho:o.op= .indexAddr t x y)(hx:eV e x= .pointer (some ⟨b,0,none⟩))(hy:eV e y= .int k i)
 (ht:P.underlying t=some (.array N E)) (hs:(P.info? E).map (·.size)=some sz) (hN:xs.length=N) (hi:bM i xs.length):(execOp (eV e) o).run P w'= .ok (.value (.pointer (some ⟨dR (some ⟨b,0,none⟩),i.toNat*sz,none⟩))) w':=by
 unfold execOp;have h0:=hi.1;have h1:=hi.2;simp only[ho,hx,hy];subst hN;cases hq:P.info? E with
 | none=>simp[hq]at hs
 | some q =>
  simp[hq]at hs;simp[Instr.indexAt,Instr.sureAddr,run_underlying ht,asIntOf,h0,h1,sizeOf,typeInfo,hq,hs,w4,dR]
theorem Dc{x y:Operand}{i f:Nat}{cs:List Value}(hw:vt o ops a)(hd:o.dst=none)(hr:cP Df n (lk l j) a)(ho:o.op= .store t x y)
 (hx:eV (lk l j) x= .pointer (some ⟨dR ca,i*sz+f,none⟩)) (hy:eV (lk l j) y=v) (hv:v.cells=#[v]) (h1:v.oneCell'=true) (hs:(P.info? t).map (·.size)=some 1) (hp:Nat.blt 0 sz=true)
 (hF:Fit w0 (aG (BS E sz own (.slice ca n0 cc) xs i cs::L)) w) (hf:f<sz)
 (k:∀w1,Fit w0 (aG (BS E sz own (.slice ca n0 cc) xs i (cs.set f v)::L)) w1->wpList P ops Q rest a w1):wpList P ops Q (o::rest) a w:=by
 obtain⟨css,hl,hc,h⟩:=hF.Cu;have hp':0<sz:=pU hp;cases J1:css[i]? with
 | none=>rw[J1]at hc;simp at hc
 | some c =>
  rw[J1]at hc;simp only[vz,Option.some.injEq]at hc;have hlt:i<css.length:=(List.getElem?_eq_some_iff.1 J1).1
  let q:oz sz:=⟨c.cs.set f v,by rw[gV];exact c.len,λu hu=>by
   rcases List.mem_or_eq_of_mem_set hu with h | h
   ·exact c.one u h
   ·subst h;exact h1⟩
  refine qm hw hd hr ho hx hy hv h1 hs (GC hp') h (p:=c) (q:=q) J1 hf rfl λw1 h=>k w1 ?_;refine Fit.PX (css:=css.set i q) (by rw[gV];exact hl) (by rw[List.getElem?_set_self hlt,<-hc];rfl) ?_;have he:(List.zipWith (λx c=>own x c.cs) xs (css.set i q)).eraseIdx i=(List.zipWith (λx c=>own x c.cs) xs css).eraseIdx i:=by
   apply zm
   intro k;rw[List.getElem?_eraseIdx,List.getElem?_eraseIdx];split
   ·rw[List.getElem?_zipWith,List.getElem?_zipWith,List.getElem?_set_ne I]
   ·rw[List.getElem?_zipWith,List.getElem?_zipWith,List.getElem?_set_ne I]
  rw[he];exact h
theorem FY{bytes:Nat}{s x:Operand}{ad:Addr}{c:Nat}{y:α}{cs:List Value}(hw:vt o ops a)(hd:o.dst=some d)(hn:Nat.blt d n=true)(hr:cP Df n (lk l j) a)
 (ho:o.op= .call {callee:=.builtin .append,args:=#[s,x],argTypes:=#[t,t]}) (hs:eV (lk l j) s= .slice ca n0 cc) (hx:eV (lk l j) x= .slice (some ad) 1 c)
 (hty:P.underlying t=some (.slice E)) (rS:(P.info? E).map (λi=>(i.size,i.bytes,i.zero.map (·.cells.size)))=some (sz,bytes,some sz))
 (hsz:cs.length=sz) (hone:cs.all (·.oneCell')=true) (hp:Nat.blt 0 sz=true)
 (hF:Fit w0 (aG (vu E sz own (.slice ca n0 cc) xs::own y cs::L)) w) (hnews:∀j u,cs[j]? = some u->w.cell? (ad.add j)=some u)
 (hb:(xs.length+1)*bytes<=140737488355328) (N0:Nat.blt 0 bytes=true)
 (k:∀ca cc w1 a,Fit w0 (aG (vu E sz own (.slice ca (xs++[y]).length cc) (xs++[y])::L)) w1->cP Df n (lk ((d,.slice ca (xs++[y]).length cc)::l) j) a->wpList P ops Q rest a w1):wpList P ops Q (o::rest) a w:=by
 obtain⟨css,hl,h⟩:=hF.GD;have hp':0<sz:=pU hp
 let c0:oz sz:=⟨cs,hsz,by simpa using hone⟩
 have hlen:(css++[c0]).length=(xs++[y]).length:=by rw[kQ,kQ,hl];rfl
 refine nY (m:=1) (c:=c) (bytes:=bytes) hw hd hn hr ho hs hx (GC hp') (E:=E) (xs:=css) hty rS h (news:=[c0]) rfl (by simpa using hnews) (by rw[hl];exact hb) N0 λca cc w1 a h Hj => ?_;rw[hlen]at h Hj;refine k ca cc w1 a (Fit.GF (css:=css++[c0]) hlen ?_) Hj;rw[List.zipWith_append (by rw[hl])];simp only[List.zipWith_cons_cons,List.zipWith_nil_right,s5,ua,CF];exact h
theorem Ai{bytes:Nat}{s x:Operand}{va:gF}{m0 c:Nat}(hw:vt o ops a)(hd:o.dst=some d)(hn:Nat.blt d n=true)(hr:cP Df n (lk l j) a)
 (ho:o.op= .call {callee:=.builtin .append,args:=#[s,x],argTypes:=#[t,t]}) (hs:eV (lk l j) s= .slice ca n0 cc) {news:List α} (hx:eV (lk l j) x= .slice va news.length c)
 (he:uv enc sz) (hty:P.underlying t=some (.slice E)) (rS:(P.info? E).map (λi=>(i.size,i.bytes,i.zero.map (·.cells.size)))=some (sz,bytes,some sz))
 (hF:Fit w0 (aG (rowOf E sz enc (.slice ca n0 cc) xs::L)) w) (hnews:cx L sz enc va news)
 (hb:(xs.length+news.length)*bytes<=140737488355328) (N0:Nat.blt 0 bytes=true)
 (k:∀ca cc w1 a,Fit w0 (aG (rowOf E sz enc (.slice ca (xs++news).length cc) (xs++news)::L)) w1->cP Df n (lk ((d,.slice ca (xs++news).length cc)::l) j) a->wpList P ops Q rest a w1):wpList P ops Q (o::rest) a w:=by
 by_cases h0:news.length=0
 ·have GB:news=[]:=G3 h0;subst GB;have XO:=hF.s6;simp only[G7]at k;obtain⟨q,z,hq,h1,h2,h3,h4⟩ :∃i z,P.info? E=some i/\i.size=sz/\i.bytes=bytes/\i.zero=some z/\z.cells.size=sz:=by
   cases hi:P.info? E with
   | none=>simp[hi]at rS
   | some i =>
    simp only[hi,vz,Option.some.injEq,Prod.mk.injEq]at rS;cases hz:i.zero with
    | none=>simp[hz]at rS
    | some z=>exact⟨i,z,rfl,rS.1,rS.2.1,hz,by simpa [hz]using rS.2.2⟩
  obtain⟨a',c',e1,_,Sm⟩:=hF.GA;simp only[Value.slice.injEq]at e1;obtain⟨rfl,_,rfl⟩:=e1;refine tw (w1:=w) (v:=.slice ca xs.length cc) hw hd hn hr ?_ (λa hr=>k ca cc w a (XO▸ hF) hr);unfold execOp;have hle:n0<=cc:=by omega
  simp only[ho,resolve,invoke,builtin,ou,uW,ox,JQ,C4,Ea,hs,hx];subst XO;cases ca with
  | none=>cases va<;>simp[Builtin.append_,run_underlying hty,sizeOf,typeInfo,hq,Builtin.lenOf,Builtin.firstCells,loadCells,loadCellsFrom,Sm]
  | some ac=>cases va<;>simp[Builtin.append_,run_underlying hty,sizeOf,typeInfo,hq,Builtin.lenOf,Builtin.firstCells,loadCells,loadCellsFrom,Sm,storeCells]
 ·obtain⟨y,hy⟩ :∃y,news[0]? = some y:=⟨_,List.getElem?_eq_getElem I⟩;have hva:=(hnews 0 y hy).1;rw[hva]at hx;refine nY (m:=news.length) (c:=c) (bytes:=bytes) hw hd hn hr ho hs hx he hty rS hF (news:=news) rfl (λi u hu => ?_) hb N0 k;have hlt:=(List.getElem?_eq_some_iff.1 hu).1;rw[he.flat]at hlt;have hp:=he.pos;have hdiv:i/sz<news.length:=(Nat.div_lt_iff_lt_mul hp).2 hlt;have hm:i%sz<sz:=BF _ hp;have hyi:news[i/sz]? = some (news[i/sz]'hdiv):=List.getElem?_eq_getElem hdiv;have hg:=he.get news (i/sz) (i%sz) _ hyi hm;rw[show i/sz*sz+i%sz=i by rw[Nat.mul_comm];exact FU i sz,hu]at hg;have:=(hnews _ _ hyi).2 (i%sz) u hg.symm w0 w hF.drop;rw[w4];rw[show kz va+i=kz va+i/sz*sz+i%sz by rw[Nat.add_assoc,Nat.mul_comm,FU]];exact this
end
end GX
end
section
namespace Ar
open Go Go.RowKit SL GX
structure Acc where
 who:Int
 kind:Int
 addr:Int
 a:Int
 b:Int
 ok:Bool
deriving Inhabited,DecidableEq
def nS(x:Int):List Value:=[.int .i64 x]
def HB(x:Acc):List Value:=[.int .i64 x.who,.int .i64 x.kind,.int .i64 x.addr,.int .i64 x.a,.int .i64 x.b,.bool x.ok]
structure E2 where
 size:Int
 cells:List Int
 log:List Acc
 u4:Int
 on:Bool
def ady(on:Bool)(log:List Acc)(x:Acc):List Acc:=if on=true then log++[x]else log
def E2.note(S:E2)(k i x y:Int)(ok:Bool):E2:={S with log:=ady S.on S.log ⟨S.u4,k,i,x,y,ok⟩}
def V5(mk ad:Int):Bool:=decide (ad>=0)&&decide (ad<mk)
def E2.load(S:E2)(i:Int):(Int×Int)×E2:=
 if V5 S.cells.length i=true then((J S.cells i.toNat,0),S.note 0 i (J S.cells i.toNat) 0 true)else((0,20),S)
def E2.store(S:E2)(i v:Int):Int×E2:=
 if V5 S.cells.length i=true then(0,{S with cells:=S.cells.set i.toNat v}.note 1 i v 0 true)else(20,S)
def E2.cas(S:E2)(i x y:Int):(Bool×Int)×E2:=
 if V5 S.cells.length i=true then
  if J S.cells i.toNat=x then((true,0),{S with cells:=S.cells.set i.toNat y}.note 2 i x y true)
  else ((false,0),S.note 2 i x y false)
 else ((false,20),S)
def E2.add(S:E2)(i d:Int):(Int×Int)×E2:=
 if V5 S.cells.length i=true then
  ((IntKind.i64.wrap (J S.cells i.toNat+d),0),{S with cells:=S.cells.set i.toNat (IntKind.i64.wrap (J S.cells i.toNat+d))}.note 3 i d (IntKind.i64.wrap (J S.cells i.toNat+d)) true)
 else ((0,20),S)
def E2.reserve(S:E2)(n:Int):(Int×Int)×E2:=
 if n<1 then((0,21),S)
 else if n>S.size-S.cells.length then((0,22),S)
 else ((((S.cells.length:Nat):Int),0),{S with cells:=S.cells++List.replicate n.toNat 0}.note 4 S.cells.length n 0 true)
def E2.done(S:E2)(k i x y:Int):(Int×Bool×Int)×E2:=
 if k=0 then(((S.load i).1.1,(S.load i).1.2==0,(S.load i).1.2),(S.load i).2)
 else if k=1 then((0,(S.store i x).1==0,(S.store i x).1),(S.store i x).2)
 else if k=2 then((0,(S.cas i x y).1.1,(S.cas i x y).1.2),(S.cas i x y).2)
 else if k=3 then(((S.add i x).1.1,(S.add i x).1.2==0,(S.add i x).1.2),(S.add i x).2)
 else (((S.reserve x).1.1,(S.reserve x).1.2==0,(S.reserve x).1.2),(S.reserve x).2)
def E2.new(n:Int):E2:={size:=n,cells:=[],log:=[],u4:=0,on:=false}
def PZ(S:E2)(ca:gF)(cc:Nat)(la:gF)(lc:Nat):Obj:=
 .cells #[.int .i64 S.size,.int .i64 ((S.cells.length:Nat):Int),.slice ca S.cells.length cc,.slice la S.log.length lc,.int .i64 S.u4,.bool S.on] 78
def Dy(A:Nat)(S:E2):bu:=exs λca=>exs λcc=>exs λla=>exs λlc =>
 aG [pts A (PZ S ca cc la lc),rowOf 2 1 nS (.slice ca S.cells.length cc) S.cells,rowOf 269 6 HB (.slice la S.log.length lc) S.log]
section
variable {z w:World}{L:List bu}{A:Nat}{S:E2}
theorem Dy.op(h:Fit z (aG (Dy A S::L)) w) :∃ca cc la lc,Fit z (aG (pts A (PZ S ca cc la lc)::rowOf 2 1 nS (.slice ca S.cells.length cc) S.cells::rowOf 269 6 HB (.slice la S.log.length lc) S.log::L)) w:=by
 obtain⟨ca,h⟩:=h.nR;obtain⟨cc,h⟩:=h.nR;obtain⟨la,h⟩:=h.nR;obtain⟨lc,h⟩:=h.nR;exact⟨ca,cc,la,lc,h.uJ⟩
theorem Dy.sh{n m:Nat}{q:Int}{ca cc la lc}(h:Fit z (aG (pts A (.cells #[.int .i64 S.size,.int .i64 q,.slice ca n cc,.slice la m lc,.int .i64 S.u4,.bool S.on] 78)::rowOf 2 1 nS (.slice ca n cc) S.cells::rowOf 269 6 HB (.slice la m lc) S.log::L)) w)
 (hq:q=((n:Nat):Int)) (hn:n=S.cells.length) (hm:m=S.log.length):Fit z (aG (Dy A S::L)) w:=by
 subst hq;subst hn;subst hm;exact Fit.jR ca (Fit.jR cc (Fit.jR la (Fit.jR lc (Fit.tv [_,_,_] L h))))
theorem Dy.mk{n:Int}(h:Fit z (aG (pts A (.cells #[.int .i64 n,.int .i64 0,.slice none 0 0,.slice none 0 0,.int .i64 0,.bool false] 78)::L)) w):Fit z (aG (Dy A (E2.new n)::L)) w:=by
 have h1:Fit z (aG (rowOf 269 6 HB (.slice none 0 0) ([]:List Acc)::pts A _::L)) w:=h.kR;have h2:Fit z (aG (rowOf 2 1 nS (.slice none 0 0) ([]:List Int)::rowOf 269 6 HB (.slice none 0 0) ([]:List Acc)::pts A _::L)) w:=h1.kR;exact Dy.sh (S:=E2.new n) (h2.pick 2) rfl rfl rfl
end
end Ar
end
section
namespace RK
open Go Go.RowKit Go.ChangeShapes Go.WideShapes Go.Deep SL GX Ar
section
variable {H:Type}{enc:TypeId×Value->H}{P:Program}{w afU:World}{base:Nat}{spare:Nat->Bool}{held:Bool}{r:Reach}{b0:Nat}{t e:TypeId}{v:Value}{d:DataW H}{ps:List MemPlace}
theorem Dd(hl:laidOutB P=true){W':World}(hb:Below afU.heap.size afU W'):∀{ts:List TypeId} {vs:List Value} {ds:List (DataW H)} {ps:List MemPlace},
 ts.all (λt=>P.readableRec t&&decide (t<P.types.size))=true->DataW.TrodAll enc P afU 0 (λ_=>true) true ts vs ds ps->DataW.TrodAll enc P W' 0 (λb=>decide (b<afU.heap.size)) true ts vs ds ps
 | [],[],[],_,_,h=>h
 | t::ts,v::vs,d::ds,_,hts,⟨p,q,h1,h2,e⟩=>by
  simp only[List.all_cons,mE,BI]at hts;refine⟨p,q,Below.trod hl hts.1.1 hts.1.2 h1 hb ?_,Dd hl hb hts.2 h2,e⟩;obtain⟨n,hn⟩:=h1;exact DataW.trod_lt n _ _ _ hn
theorem wf_i64{x:Int}(h:(Lit.int .i64 x).wf=true):-9223372036854775808<=x/\x<=9223372036854775807:=by
 simp only[Lit.wf,mE,BI]at h;exact⟨h.1,h.2⟩
end
open Go Go.RowKit Go.ChangeShapes Go.WideShapes Go.Deep SL GX
theorem Mr{H:Type}(d:DataW H):1<=Rows.uptoBulk d:=by
 cases d with
 | lit l=>cases l<;>simp[Rows.uptoBulk]
 | nil=>simp[Rows.uptoBulk]
 | ptr d=>simp[Rows.uptoBulk]
 | slice elems spare=>simp[Rows.uptoBulk]
 | agg parts=>simp[Rows.uptoBulk]
 | iface t d=>simp[Rows.uptoBulk]
 | map entries=>simp[Rows.uptoBulk]
 | held h=>simp[Rows.uptoBulk]
theorem J2{H:Type}{d:DataW H}{l:List (DataW H)}(h:d∈l):Rows.uptoBulk d<=Rows.uptoBulkAll l:=by
 induction l with
 | nil=>cases h
 | cons x r ih =>
  simp only[Rows.uptoBulkAll];cases List.mem_cons.1 h with
  | inl e=>subst e;omega
  | inr e=>have:=ih e;omega
theorem SY{H:Type}(l:List (DataW H)):l.length<=Rows.uptoBulkAll l:=by
 induction l with
 | nil=>simp
 | cons x r ih=>have:=Mr x;simp only[Rows.uptoBulkAll,Bj];omega
def HC(x:Int):Prop:=-9223372036854775808<=x/\x<=9223372036854775807
end RK
end
section
namespace GX
open Go Go.RowKit SL
abbrev Z(x:Int):Value:=.int .i64 x
abbrev vB(x:Bool):Value:=.bool x
abbrev pN:Value:=.pointer none
abbrev pA(b off:Nat):Value:=.pointer (some ⟨b,off,none⟩)
section
variable {P:Program}{ops:Array Oper}{Q:Exit->Act->World->Prop}{a:Act}{w w0 w1:World}{rest:List Oper}{o:Oper}{n d t T:Nat}{v u:Value}{l:List (Nat×Value)}{j e:Nat->Value}{L:List bu}{Df:List Deferred}
theorem sY{i:Nat}{b x c r:Bool}(hr:cP Df n e a)(pf:x=c)(hg:o.guard=some (i,b):=by rfl)(hi:(ops[i]?).bind (·.dst)=some t:=by rfl)(ht:Nat.blt t n=true:=by rfl)(he:e t= .bool x:=by kernel_rfl)(hc:(c==b)=r:=by rfl) :
 Region.wanted o (yielded ops a.tmps)=r:=by
 subst pf hc;exact wg hr hg hi ht he
theorem adz(hw:Region.wanted o (yielded ops a.tmps)=false)(hr:cP Df n (lk l j) a)(k:∀a,cP Df n (lk ((d,undef)::l) j) a->wpList P ops Q rest a w)(hd:o.dst=some d:=by rfl)(hn:Nat.blt d n=true:=by rfl):wpList P ops Q (o::rest) a w:=N8 hw hd hn hr k
theorem Dz(hw:vt o ops a)(hr:cP Df n (lk l j) a)(v:Value)(hrun:(execOp (eV (lk l j)) o).run P w= .ok (.value v) w)(k:∀a,cP Df n (lk ((d,v)::l) j) a->wpList P ops Q rest a w)(hd:o.dst=some d:=by rfl)(hn:Nat.blt d n=true:=by rfl):wpList P ops Q (o::rest) a w:=Ae hw hd hn hr hrun k
theorem ld{x:Operand}{ad:Addr}(hw:vt o ops a)(hr:cP Df n (lk l j) a)(v:Value)(hc:w.cell? ad=some v)(k:∀a,cP Df n (lk ((d,v)::l) j) a->wpList P ops Q rest a w)
 (hd:o.dst=some d:=by rfl) (hn:Nat.blt d n=true:=by rfl) (ho:o.op= .load T x:=by rfl) (hx:eV (lk l j) x= .pointer (some ad):=by kernel_rfl) (hu:xO (P.underlying T)=true:=by kernel_rfl):wpList P ops Q (o::rest) a w:=Ae hw hd hn hr (rl ho hx hu hc) k
theorem ldm{x:Operand}{b off:Nat}{cs:List Value}(hw:vt o ops a)(hr:cP Df n (lk l j) a)(v:Value)(hc:rm w b off cs)(k:∀a,cP Df n (lk ((d,v)::l) j) a->wpList P ops Q rest a w)(hv: .agg cs.toArray=v:=by rfl)
 (hd:o.dst=some d:=by rfl) (hn:Nat.blt d n=true:=by rfl) (ho:o.op= .load T x:=by rfl) (hx:eV (lk l j) x= .pointer (some ⟨b,off,none⟩):=by kernel_rfl) (hu:uC (P.underlying T)=true:=by kernel_rfl) (hs:(P.info? T).map (·.size)=some cs.length:=by kernel_rfl):wpList P ops Q (o::rest) a w:=by
 subst hv;exact Ae hw hd hn hr (rlm ho hx hu hs hc) k
theorem _root_.Go.Proofs.YtaiffafelihaaaaGreatDoor.SL.Fit.held{z:World}{b:Nat}{cs:Array Value}{t:TypeId}{q:Nat×Nat}(h:Fit z (aG (pts b (.cells cs t q)::L)) w)(off:Nat){xs:List Value}(hx:(cs.toList.drop off).take xs.length=xs):rm w b off xs:=by
 have hg:∀k u,xs[k]? = some u->w.cell? ⟨b,off+k,none⟩=some u:=by
  intro k u hk;refine h.cell (off+k) ?_;rw[<-hx,List.getElem?_take]at hk;split at hk
  ·rw[List.getElem?_drop]at hk;simpa using hk
  ·cases hk
 clear hx
 induction xs generalizing off with
 | nil=>trivial
 | cons x xs ih =>
  refine⟨hg 0 x rfl,ih (off+1) λk u hk => ?_⟩;have:=hg (k+1) u (by simpa using hk);rw[show off+1+k=off+(k+1) by omega];exact this
theorem sr{S2:Nat}{y:Code}{os:List Oper}(h:wpList P os.toArray (Exit.then (y.wp P Q) Q) os a w):(Code.seq (.region S2 os.toArray false) y).wp P Q a w:=wp_seq (wp_region_lit h)
theorem evs{D:World->Prop}{E:List Nat}{aQ:Array Bool}[hp:PI Q](fuel i:Nat)(hi:ops[i]? = some o)(hw:vt o ops a)(hr:cP Df n (lk l j) a)(v:Value)
 (k:∀a,cP Df n (lk ((d,v)::l) j) a->eP P .any ops Q D E fuel (aQ.setIfInBounds i true) a w) (hB:okB ops E aQ i=true:=by kernel_rfl)
 (hrun:∀w,(execOp (eV (lk l j)) o).run P w= .ok (.value v) w:=by intro w;kernel_rfl) (hd:o.dst=some d:=by rfl) (hn:Nat.blt d n=true:=by rfl) :
 eP P .any ops Q D E (fuel+1) aQ a w:=ev fuel i hi hB hw hr v hrun k hd hn
theorem XP{D:World->Prop}{E:List Nat}{aQ:Array Bool}[hp:PI Q](fuel i:Nat)(hi:ops[i]? = some o)(hw:Region.wanted o (yielded ops a.tmps)=false)(hr:cP Df n (lk l j) a)
 (k:∀a,cP Df n (lk ((d,undef)::l) j) a->eP P .any ops Q D E fuel (aQ.setIfInBounds i true) a w) (hB:okB ops E aQ i=true:=by kernel_rfl) (hd:o.dst=some d:=by rfl) (hn:Nat.blt d n=true:=by rfl) :
 eP P .any ops Q D E (fuel+1) aQ a w:=eo fuel i hi hB hw hr k hd hn
abbrev nb(b:Nat):Value:=pA b 0
theorem o1(hr:cP Df n (lk l j) a)(v:Value)(k:∀a,cP Df n (lk ((d,v)::l) j) a->wpList P ops Q rest a w)(hrun:(execOp (eV (lk l j)) o).run P w= .ok (.value v) w:=by kernel_rfl)(hg:o.guard=none:=by rfl)(hd:o.dst=some d:=by rfl)(hn:Nat.blt d n=true:=by rfl):wpList P ops Q (o::rest) a w:=ov hr v hrun k hg hd hn
theorem oo(ds:List Nat)(vs:List Value){os:List Oper}(hr:cP Df n (lk l j) a)(k:∀a,cP Df n (lk (SW ds vs l) j) a->wpList P ops Q (os.drop ds.length) a w)(hl:ds.length=vs.length/\ds.all (λd=>Nat.blt d n)=true:=by exact⟨rfl,rfl⟩)(hrun:Mp P (os.take ds.length) vs l j w=Mq ds vs w:=by kernel_rfl):wpList P ops Q os a w:=ovs ds vs hr hl hrun k
theorem cl{f:FuncId}{args:Array Value}{R:Ending->World->Prop}(hw:vt o ops a)(hr:cP Df n (lk l j) a)(hc:Calls P f args w R)
 (k:∀e w1,R e w1->∃v,e= .returned v/\∀a,cP Df n (lk ((d,v)::l) j) a->wpList P ops Q rest a w1) (hrun:(execOp (eV (lk l j)) o).run P w= .ok (.enter f args) w:=by kernel_rfl) (hd:o.dst=some d:=by rfl) (hn:Nat.blt d n=true:=by rfl):wpList P ops Q (o::rest) a w:=uY hw hd hn hr hrun hc k
theorem YO(hw:vt o ops a)(hr:cP Df n (lk l j) a)(hF:Fit w0 (aG L) w)(vf:Nat->Value)(cs:Array Value)(T:TypeId)
 (k:∀b w1 a,Fit w0 (aG (pts b (.cells cs T)::L)) w1->cP Df n (lk ((d,vf b)::l) j) a->wpList P ops Q rest a w1) (hrun:(execOp (eV (lk l j)) o).run P w= .ok (.value (vf w.heap.size)) (w.alloc (.cells cs T)):=by kernel_rfl) (hd:o.dst=some d:=by rfl) (hn:Nat.blt d n=true:=by rfl):wpList P ops Q (o::rest) a w:=N9 hw hd hn hr hF hrun k
theorem Kt{α:Type}{E:TypeId}{sz n0 cc:Nat}{enc:α->List Value}{xs:List α}{ca:gF}{x y:Operand}(hw:vt o ops a)(hr:cP Df n (lk l j) a)(he:uv enc sz)(hF:Fit w0 (aG (rowOf E sz enc (.slice ca n0 cc) xs::L)) w)(i f:Nat)(v:Value)(p q:α)(hp:xs[i]? = some p)
 (k:∀w1,Fit w0 (aG (rowOf E sz enc (.slice ca n0 cc) (xs.set i q)::L)) w1->wpList P ops Q rest a w1) (hd:o.dst=none:=by rfl) (ho:o.op= .store T x y:=by rfl) (hx:eV (lk l j) x= .pointer (some ⟨dR ca,i*sz+f,none⟩):=by kernel_rfl) (hy:eV (lk l j) y=v:=by kernel_rfl)
 (hv:v.cells=#[v]:=by rfl) (h1:v.oneCell'=true:=by rfl) (hs:(P.info? T).map (·.size)=some 1:=by kernel_rfl) (hf:f<sz:=by decide) (hq:enc q=(enc p).set f v:=by rfl):wpList P ops Q (o::rest) a w:=qm hw hd hr ho hx hy hv h1 hs he hF hp hf hq k
theorem ln{K:Act->World->Prop}(h:K a w):wpList P ops (Exit.then K Q) [] a w:=wpList_nil (Mb h)
end
end GX
end
section
namespace SL
open Go Go.RowKit
section
variable {z w:World}{L L':List bu}
theorem Fit.m1{A0 A1:bu}(h:Fit z (aG (A0::A1::L)) w):Fit z (aG (A1::A0::L)) w:=h.pick 1
theorem Fit.m2{A0 A1 A2:bu}(h:Fit z (aG (A0::A1::A2::L)) w):Fit z (aG (A2::A0::A1::L)) w:=h.pick 2
theorem Fit.m3{A0 A1 A2 A3:bu}(h:Fit z (aG (A0::A1::A2::A3::L)) w):Fit z (aG (A3::A0::A1::A2::L)) w:=h.pick 3
theorem Fit.m4{A0 A1 A2 A3 A4:bu}(h:Fit z (aG (A0::A1::A2::A3::A4::L)) w):Fit z (aG (A4::A0::A1::A2::A3::L)) w:=h.pick 4
theorem Fit.m5{A0 A1 A2 A3 A4 A5:bu}(h:Fit z (aG (A0::A1::A2::A3::A4::A5::L)) w):Fit z (aG (A5::A0::A1::A2::A3::A4::L)) w:=h.pick 5
theorem Fit.m6{A0 A1 A2 A3 A4 A5 A6:bu}(h:Fit z (aG (A0::A1::A2::A3::A4::A5::A6::L)) w):Fit z (aG (A6::A0::A1::A2::A3::A4::A5::L)) w:=h.pick 6
theorem Fit.m7{A0 A1 A2 A3 A4 A5 A6 A7:bu}(h:Fit z (aG (A0::A1::A2::A3::A4::A5::A6::A7::L)) w):Fit z (aG (A7::A0::A1::A2::A3::A4::A5::A6::L)) w:=h.pick 7
theorem Fit.m8{A0 A1 A2 A3 A4 A5 A6 A7 A8:bu}(h:Fit z (aG (A0::A1::A2::A3::A4::A5::A6::A7::A8::L)) w):Fit z (aG (A8::A0::A1::A2::A3::A4::A5::A6::A7::L)) w:=h.pick 8
theorem Fit.m9{A0 A1 A2 A3 A4 A5 A6 A7 A8 A9:bu}(h:Fit z (aG (A0::A1::A2::A3::A4::A5::A6::A7::A8::A9::L)) w):Fit z (aG (A9::A0::A1::A2::A3::A4::A5::A6::A7::A8::L)) w:=h.pick 9
theorem Fit.V6{A0 A1 A2 A3 A4 A5 A6 A7 A8 A9 A10:bu}(h:Fit z (aG (A0::A1::A2::A3::A4::A5::A6::A7::A8::A9::A10::L)) w):Fit z (aG (A10::A0::A1::A2::A3::A4::A5::A6::A7::A8::A9::L)) w:=h.pick 10
theorem Fit.I2{n m:Nat}(e:n=m)(F:Nat->bu)(h:Fit z (aG (F n::L)) w):Fit z (aG (F m::L)) w:=e▸ h
theorem Fit.Ku{α:Type}{e sz cc n:Nat}{enc:α->List Value}{ca:gF}{l:List α}{P:bu}(h:Fit z (aG (rowOf e sz enc (.slice ca n cc) l::P::L)) w)(f:Nat->bu)(hp:P=f n:=by rfl):Fit z (aG (rowOf e sz enc (.slice ca l.length cc) l::f l.length::L)) w:=by
 have hn:=h.s6;subst hn;exact hp▸ h
theorem Fit.se(h:Fit z (aG L) w)(n:Nat)(is:List Nat)(hB:GX.abh n is=true:=by kernel_rfl)(e:is.map (λi=>L.getD i NY)++L.drop n=L':=by kernel_rfl):Fit z (aG L') w:=h.sel n is hB e
end
end SL
namespace GX
open Go Go.RowKit SL
section
variable {P:Program}{ops:Array Oper}{Q:Exit->Act->World->Prop}{a:Act}{w w0 w1:World}{rest os:List Oper}{o:Oper}{n d t T:Nat}{v u:Value}{l:List (Nat×Value)}{j e:Nat->Value}{L:List bu}{Df:List Deferred}
theorem cP.fj{X:Prop}(h:cP Df n e a)(hX:X)(hl:l.map (λp=>e p.1)=l.map (·.2):=by kernel_rfl) :∃j,cP Df n (lk l j) a/\X:=let ⟨j,h⟩:=h.abm l hl;⟨j,h,hX⟩
theorem cP.re(h:cP Df n (lk l j) a)(t:Nat){v v':Value}(e:v=v')(hv:lk l j t=v:=by kernel_rfl):cP Df n (lk ((t,v')::l) j) a:=by
 obtain⟨h1,h2,h3⟩:=h;refine⟨h1,λq => ?_,h3⟩;rw[h2 q];show lk l j q=bif Nat.beq q t then v' else lk l j q;cases hb:Nat.beq q t with
 | false=>rfl
 | true=>have:=PN hb;subst this;rw[hv,e];rfl
def HL:List (Nat×Nat×List Value)->World->Prop
 | [],_=>True
 | p::r,w=>rm w p.1 p.2.1 p.2.2/\HL r w
theorem S4:∀D w w',qk w w'->HL D w->HL D w'
 | [],_,_,_,_=>trivial
 | p::r,w,w',g,h=>⟨Hz _ _ _ _ _ g h.1,S4 r w w' g h.2⟩
theorem HD:∀{D:List (Nat×Nat×List Value)} {k:Nat} {p:Nat×Nat×List Value},D[k]? = some p->HL D w->rm w p.1 p.2.1 p.2.2
 | [],k,p,e,_=>by simp at e
 | q::r,0,p,e,h=>by simp at e;subst e;exact h.1
 | q::r,k+1,p,e,h=>HD (D:=r) (k:=k) (by simpa using e) h.2
variable {D:List (Nat×Nat×List Value)}{E:List Nat}{aQ:Array Bool}{N:Nat}
theorem DA{id:Nat}{lo:List Oper}{H:bu}(D:List (Nat×Nat×List Value))(E:List Nat)(N:Nat)(hF:Fit w0 H w)(hd:∀{w},Fit w0 H w->HL D w)
 (k:∀w,Fit w0 H w->HL D w->eP P .any lo.toArray Q (HL D) E N (Array.replicate N false) a w) (hm:P.follows .mixedOrders=true:=by kernel_rfl) (hN:lo.toArray.size=N:=by rfl) :
 (Code.region id lo.toArray true).wp P Q a w:=by
 subst hN;exact abi (HL D) E hF hm λw h=>k w h (hd h)
def YP(ops:Array Oper)(E:List Nat)(aQ:Array Bool)(i:Nat):Bool:=okB ops E aQ i||okP ops E aQ i
theorem e1[hp:PI Q](hd:HL D w)(fuel i:Nat)(hi:ops[i]? = some o)(hB:YP ops E aQ i=true)(hw:vt o ops a)(hr:cP Df n (lk l j) a)(v:Value)
 (hrun:∀w,(execOp (eV (lk l j)) o).run P w= .ok (.value v) w) (k:∀a,cP Df n (lk ((d,v)::l) j) a->eP P .any ops Q (HL D) E fuel (aQ.setIfInBounds i true) a w) (h1:o.dst=some d) (hn:Nat.blt d n=true) :
 eP P .any ops Q (HL D) E (fuel+1) aQ a w:=by
 unfold YP at hB;rw[BH]at hB;rcases hB with hB | hB
 ·exact ev fuel i hi hB hw hr v hrun k h1 hn
 ·exact evD (S4 D) hd fuel i hi hB hw hr v hrun k h1 hn
theorem e0[hp:PI Q](hd:HL D w)(fuel i:Nat)(hi:ops[i]? = some o)(hB:YP ops E aQ i=true)(hw:Region.wanted o (yielded ops a.tmps)=false)(hr:cP Df n (lk l j) a)
 (k:∀a,cP Df n (lk ((d,undef)::l) j) a->eP P .any ops Q (HL D) E fuel (aQ.setIfInBounds i true) a w) (h1:o.dst=some d) (hn:Nat.blt d n=true) :
 eP P .any ops Q (HL D) E (fuel+1) aQ a w:=by
 unfold YP at hB;rw[BH]at hB;rcases hB with hB | hB
 ·exact eo fuel i hi hB hw hr k h1 hn
 ·exact eoD (S4 D) hd fuel i hi hB hw hr k h1 hn
theorem Rh[hp:PI Q](hd:HL D w)(f i:Nat)(hi:ops[i]? = some o)(hw:vt o ops a)(hr:cP Df n (lk l j) a)(v:Value)
 (k:∀a,cP Df n (lk ((d,v)::l) j) a->eP P .any ops Q (HL D) E f (aQ.setIfInBounds i true) a w) (hB:YP ops E aQ i=true:=by kernel_rfl) (hrun:∀w,(execOp (eV (lk l j)) o).run P w= .ok (.value v) w:=by intro w;kernel_rfl) (h1:o.dst=some d:=by rfl) (hn:Nat.blt d n=true:=by rfl) :
 eP P .any ops Q (HL D) E (f+1) aQ a w:=e1 hd f i hi hB hw hr v hrun k h1 hn
def S5:List (Nat×Nat×Value)->Array Bool->Array Bool
 | [],s=>s
 | p::r,s=>S5 r (s.setIfInBounds p.1 true)
def Ta:List (Nat×Nat×Value)->List (Nat×Value)->List (Nat×Value)
 | [],l=>l
 | p::r,l=>Ta r ((p.2.1,p.2.2)::l)
def Kv(P:Program)(ops:Array Oper):List (Nat×Nat×Value)->List (Nat×Value)->(Nat->Value)->World->List (Option (Option Nat×Option (Nat×Bool))×Result Next)
 | [],_,_,_=>[]
 | p::r,l,j,w=>((ops[p.1]?).map λo=>(o.dst,o.guard),(match ops[p.1]? with | some o=>(execOp (eV (lk l j)) o).run P w | none=>.ok .skip w))::Kv P ops r ((p.2.1,p.2.2)::l) j w
def Eg:List (Nat×Nat×Value)->World->List (Option (Option Nat×Option (Nat×Bool))×Result Next)
 | [],_=>[]
 | p::r,w=>(some (some p.2.1,none),.ok (.value p.2.2) w)::Eg r w
def okE(ops:Array Oper)(E:List Nat)(n:Nat):List (Nat×Nat×Value)->Array Bool->Bool
 | [],_=>true
 | p::r,s=>YP ops E s p.1&&Nat.blt p.2.1 n&&okE ops E n r (s.setIfInBounds p.1 true)
theorem evl[hp:PI Q](hd:HL D w)(f:Nat):∀(is:List (Nat×Nat×Value)) {aQ:Array Bool} {a:Act} {l:List (Nat×Value)} (hr:cP Df n (lk l j) a)
 (k:∀a,cP Df n (lk (Ta is l) j) a->eP P .any ops Q (HL D) E f (S5 is aQ) a w) (hB:okE ops E n is aQ=true:=by kernel_rfl) (hrun:∀w,Kv P ops is l j w=Eg is w:=by intro w;kernel_rfl),
 eP P .any ops Q (HL D) E (f+is.length) aQ a w
 | [],aQ,a,l,hr,k,_,_=>k a hr
 | p::is,aQ,a,l,hr,k,hB,hrun=>by
  simp only[okE,mE]at hB;obtain⟨⟨h1,h2⟩,h3⟩:=hB;have abn:∀w,Kv P ops is ((p.2.1,p.2.2)::l) j w=Eg is w:=λw=>by have:=hrun w;simp only[Kv,Eg,List.cons.injEq]at this;exact this.2
  cases ho:ops[p.1]? with
  | none=>have:=hrun w;simp only[Kv,Eg,ho,List.cons.injEq]at this;simp at this
  | some o =>
   have h4:∀w,(o.dst=some p.2.1/\o.guard=none)/\(execOp (eV (lk l j)) o).run P w= .ok (.value p.2.2) w:=λw=>by
    have:=hrun w;simp only[Kv,Eg,ho,List.cons.injEq,vz,Prod.mk.injEq,Option.some.injEq]at this;exact this.1
   have h5:=(h4 w).1;exact e1 hd (f+is.length) p.1 ho h1 (wn h5.2) hr p.2.2 (λw=>(h4 w).2) (λa hr=>evl hd f is hr k h3 abn) h5.1 h2
theorem adB[hp:PI Q](hd:HL D w)(f:Nat)(is:List (Nat×Nat×Value))(hr:cP Df n (lk l j) a)(k:∀a,cP Df n (lk (Ta is l) j) a->eP P .any ops Q (HL D) E f (S5 is aQ) a w)
 (hN:f+is.length=N:=by rfl) (hB:okE ops E n is aQ=true:=by kernel_rfl) (hrun:∀w,Kv P ops is l j w=Eg is w:=by intro w;kernel_rfl):eP P .any ops Q (HL D) E N aQ a w:=by
 subst hN;exact evl hd f is hr k hB hrun
theorem elx[hp:PI Q](hd:HL D w)(q f i:Nat){b off:Nat}{x:Operand}(hr:cP Df n (lk l j) a)(hw:vt o ops a)(hi:ops[i]? = some o)(hq:D[q]? = some (b,off,[v]))
 (k:∀a,cP Df n (lk ((d,v)::l) j) a->eP P .any ops Q (HL D) E f (aQ.setIfInBounds i true) a w) (hB:(okB ops E aQ i&&Db .any ops E aQ i)=true:=by kernel_rfl)
 (ho:o.op= .load T x:=by rfl) (hx:eV (lk l j) x= .pointer (some ⟨b,off,none⟩):=by kernel_rfl) (hu:xO (P.underlying T)=true:=by kernel_rfl) (h1:o.dst=some d:=by rfl) (hn:Nat.blt d n=true:=by rfl) :
 eP P .any ops Q (HL D) E (f+1) aQ a w:=
 el E (b:=b) (off:=off) (cs:=[v]) (λ_ hk=>⟨hk,λw h=>HD hq h⟩) f i hi hB hw hr v (HD hq hd) (λw hc=>rl ho hx hu hc.1) k h1 hn
theorem elm[hp:PI Q](hd:HL D w)(q f i:Nat){b off:Nat}{cs:List Value}{x:Operand}(hr:cP Df n (lk l j) a)(hw:vt o ops a)(hi:ops[i]? = some o)(hq:D[q]? = some (b,off,cs))
 (k:∀a,cP Df n (lk ((d,.agg cs.toArray)::l) j) a->eP P .any ops Q (HL D) E f (aQ.setIfInBounds i true) a w) (hB:(okB ops E aQ i&&Db .any ops E aQ i)=true:=by kernel_rfl)
 (ho:o.op= .load T x:=by rfl) (hx:eV (lk l j) x= .pointer (some ⟨b,off,none⟩):=by kernel_rfl) (hu:uC (P.underlying T)=true:=by kernel_rfl) (hs:(P.info? T).map (·.size)=some cs.length:=by kernel_rfl) (h1:o.dst=some d:=by rfl) (hn:Nat.blt d n=true:=by rfl) :
 eP P .any ops Q (HL D) E (f+1) aQ a w:=
 el E (b:=b) (off:=off) (cs:=cs) (λ_ hk=>⟨hk,λw h=>HD hq h⟩) f i hi hB hw hr _ (HD hq hd) (λw hc=>rlm ho hx hu hs hc) k h1 hn
theorem eE{p X afT:Prop}(hd:afT)(k:afT->X):(p->afT)/\X:=⟨λ_=>hd,k hd⟩
theorem xE{i:Nat}{X afT:Prop}(k:X)(hB:¬i∈E:=by decide):(i∈E->afT)/\X:=⟨λh=>absurd h hB,k⟩
theorem lQ(i:Nat){D:World->Prop}{fuel:Nat}(hi:ops[i]? = some o)(k:wpList P ops (Exit.then (λa w=>(i∈E->D w)/\eP P .any ops Q D E fuel (aQ.setIfInBounds i true) a w) Q) [o] a w)
 (hrd:Region.ready .any ops aQ=[i]:=by kernel_rfl):eP P .any ops Q D E (fuel+1) aQ a w:=abj hrd hi k
theorem yK{D:World->Prop}{fuel:Nat}(k:Q .normal a w)(hrd:Region.ready .any ops aQ=[]:=by kernel_rfl):eP P .any ops Q D E fuel aQ a w:=abk hrd k
section
variable {β:Type}{p:Prop}[Decidable p]{X afT r:Option β}{c:Operand}{x y:Code}
theorem cD(hr:cP Df n e a)(H:(if p then X else afT)=r)(k1:p->X=r->x.wp P Q a w)(k2:¬p->afT=r->y.wp P Q a w)(hc:eV e c= .bool (decide p):=by kernel_rfl):(Code.cond c x y).wp P Q a w:=by
 by_cases h:p
 ·rw[aM h]at H;exact Ho hr hc (tJ h) (k1 h H)
 ·rw[bZ h]at H;exact Hq hr hc (JS h) (k2 h H)
theorem cN(hr:cP Df n e a)(H:(if p then X else afT)=r)(k1:p->X=r->y.wp P Q a w)(k2:¬p->afT=r->x.wp P Q a w)(hc:eV e c= .bool (!decide p):=by kernel_rfl):(Code.cond c x y).wp P Q a w:=by
 by_cases h:p
 ·rw[aM h]at H;exact Hq hr hc (by simp[h]) (k1 h H)
 ·rw[bZ h]at H;exact Ho hr hc (by simp[h]) (k2 h H)
theorem cV{b:Bool}(hr:cP Df n e a)(H:(if b=true then X else afT)=r)(k1:b=true->X=r->x.wp P Q a w)(k2:¬b=true->afT=r->y.wp P Q a w)(hc:eV e c= .bool b:=by kernel_rfl):(Code.cond c x y).wp P Q a w:=by
 by_cases h:b=true
 ·rw[aM h]at H;exact Ho hr hc h (k1 h H)
 ·rw[bZ h]at H;exact Hq hr hc (by simpa using h) (k2 h H)
theorem cM{b:Bool}(hr:cP Df n e a)(H:(if b=true then X else afT)=r)(k1:b=true->X=r->y.wp P Q a w)(k2:¬b=true->afT=r->x.wp P Q a w)(hc:eV e c= .bool (!b):=by kernel_rfl):(Code.cond c x y).wp P Q a w:=by
 by_cases h:b=true
 ·rw[aM h]at H;exact Hq hr hc (by simp[h]) (k1 h H)
 ·rw[bZ h]at H;exact Ho hr hc (by simpa using h) (k2 h H)
end
def Tb(P:Program)(ops:Array Oper)(n:Nat):List Oper->List Value->List (Nat×Value)->(Nat->Value)->World->List (Option Nat×Option (Bool×Option (Bool×Value))×Result Next)
 | o::os,v::vs,l,j,w=>(o.dst,o.guard.map (λg=>(g.2,((ops[g.1]?).bind (·.dst)).map λt=>(Nat.blt t n,lk l j t))),(execOp (eV (lk l j)) o).run P w)::Tb P ops n os vs ((o.dst.getD 0,v)::l) j w
 | _,_,_,_,_=>[]
def Ms(x c:Bool):List Nat->List Value->World->List (Option Nat×Option (Bool×Option (Bool×Value))×Result Next)
 | d::ds,v::vs,w=>(some d,some (c,some (true,.bool x)),.ok (.value v) w)::Ms x c ds vs w
 | _,_,_=>[]
theorem wgx{i:Nat}{b x c:Bool}(hr:cP Df n e a)(pf:x=c)(h:o.guard.map (λg=>(g.2,((ops[g.1]?).bind (·.dst)).map λt=>(Nat.blt t n,e t)))=some (b,some (true,.bool x))):Region.wanted o (yielded ops a.tmps)=(c==b):=by
 subst pf;cases hg:o.guard with
 | none=>rw[hg]at h;cases h
 | some g =>
  obtain⟨i,b'⟩:=g;simp only[hg,vz,Option.some.injEq,Prod.mk.injEq]at h;obtain⟨rfl,h⟩:=h;cases ht:(ops[i]?).bind (·.dst)with
  | none=>rw[ht]at h;cases h
  | some t =>
   simp only[ht,vz,Option.some.injEq,Prod.mk.injEq]at h;exact wg hr hg ht h.1 h.2
theorem onl{x c:Bool}(pf:x=c):∀(ds:List Nat) (vs:List Value) {os:List Oper} {a:Act} {l:List (Nat×Value)} (hr:cP Df n (lk l j) a) (k:∀a,cP Df n (lk (SW ds vs l) j) a->wpList P ops Q (os.drop ds.length) a w)
 (hl:ds.length=vs.length/\ds.all (λd=>Nat.blt d n)=true:=by exact⟨rfl,rfl⟩) (hrun:Tb P ops n (os.take ds.length) vs l j w=Ms x c ds vs w:=by kernel_rfl),wpList P ops Q os a w
 | [],[],os,a,l,hr,k,_,_=>k a hr
 | [],v::vs,os,a,l,hr,k,hl,_=>by simp at hl
 | d::ds,[],os,a,l,hr,k,hl,_=>by simp at hl
 | d::ds,v::vs,[],a,l,hr,k,hl,hrun=>by simp[Tb,Ms]at hrun
 | d::ds,v::vs,o::os,a,l,hr,k,hl,hrun=>by
  simp only[Bj,pV,Tb,Ms,List.cons.injEq,Prod.mk.injEq]at hrun;obtain⟨⟨h1,h2,h3⟩,h4⟩:=hrun;obtain⟨Ht,F7⟩:=hl;simp only[List.all_cons,mE]at F7;refine Ae (by unfold vt;rw[wgx (i:=0) hr pf h2];simp) h1 F7.1 hr h3 λa hr => ?_;rw[h1]at h4;exact onl pf ds vs hr k ⟨by simpa using Ht,F7.2⟩ h4
def Kw(ops:Array Oper)(n:Nat):List Oper->List (Nat×Value)->(Nat->Value)->List (Option Nat×Option (Bool×Option (Bool×Value)))
 | o::os,l,j=>(o.dst,o.guard.map (λg=>(g.2,((ops[g.1]?).bind (·.dst)).map λt=>(Nat.blt t n,lk l j t))))::Kw ops n os ((o.dst.getD 0,undef)::l) j
 | _,_,_=>[]
def Eh(b:Bool)(gv:Value):List Nat->List (Option Nat×Option (Bool×Option (Bool×Value)))
 | d::ds=>(some d,some (b,some (true,gv)))::Eh b gv ds
 | _=>[]
def Tc:List Nat->List (Nat×Value)->List (Nat×Value)
 | d::ds,l=>Tc ds ((d,undef)::l)
 | _,l=>l
theorem abo{x c:Bool}(pf:x=c):∀(ds:List Nat) {os:List Oper} {a:Act} {l:List (Nat×Value)} (hr:cP Df n (lk l j) a) (k:∀a,cP Df n (lk (Tc ds l) j) a->wpList P ops Q (os.drop ds.length) a w)
 (hl:ds.all (λd=>Nat.blt d n)=true:=by rfl) (hrun:Kw ops n (os.take ds.length) l j=Eh (!c) (.bool x) ds:=by kernel_rfl),wpList P ops Q os a w
 | [],os,a,l,hr,k,_,_=>k a hr
 | d::ds,[],a,l,hr,k,hl,hrun=>by simp[Kw,Eh]at hrun
 | d::ds,o::os,a,l,hr,k,hl,hrun=>by
  simp only[Bj,pV,Kw,Eh,List.cons.injEq,Prod.mk.injEq]at hrun;obtain⟨⟨h1,h2⟩,h4⟩:=hrun;simp only[List.all_cons,mE]at hl;refine N8 (by rw[wgx (i:=0) hr pf h2];cases c<;>rfl) h1 hl.1 hr λa hr => ?_;rw[h1]at h4;exact abo pf ds hr k hl.2 h4
theorem wux{b:Bool}(hr:cP Df n e a)(h:o.guard.map (λg=>(g.2,((ops[g.1]?).bind (·.dst)).map λt=>(Nat.blt t n,e t)))=some (b,some (true,undef))):Region.wanted o (yielded ops a.tmps)=false:=by
 cases hg:o.guard with
 | none=>rw[hg]at h;cases h
 | some g =>
  obtain⟨i,b'⟩:=g;simp only[hg,vz,Option.some.injEq,Prod.mk.injEq]at h;obtain⟨rfl,h⟩:=h;cases ht:(ops[i]?).bind (·.dst)with
  | none=>rw[ht]at h;cases h
  | some t =>
   simp only[ht,vz,Option.some.injEq,Prod.mk.injEq]at h;exact SR hr hg ht h.1 h.2
theorem abp(b:Bool):∀(ds:List Nat) {os:List Oper} {a:Act} {l:List (Nat×Value)} (hr:cP Df n (lk l j) a) (k:∀a,cP Df n (lk (Tc ds l) j) a->wpList P ops Q (os.drop ds.length) a w)
 (hl:ds.all (λd=>Nat.blt d n)=true:=by rfl) (hrun:Kw ops n (os.take ds.length) l j=Eh b undef ds:=by kernel_rfl),wpList P ops Q os a w
 | [],os,a,l,hr,k,_,_=>k a hr
 | d::ds,[],a,l,hr,k,hl,hrun=>by simp[Kw,Eh]at hrun
 | d::ds,o::os,a,l,hr,k,hl,hrun=>by
  simp only[Bj,pV,Kw,Eh,List.cons.injEq,Prod.mk.injEq]at hrun;obtain⟨⟨h1,h2⟩,h4⟩:=hrun;simp only[List.all_cons,mE]at hl;refine N8 (wux hr h2) h1 hl.1 hr λa hr => ?_;rw[h1]at h4;exact abp b ds hr k hl.2 h4
theorem st1{x y:Operand}{b:Nat}{cs:Array Value}{T':TypeId}(hw:vt o ops a)(hr:cP Df n (lk l j) a)(hF:Fit w0 (aG (pts b (.cells cs T')::L)) w)(i:Nat)(v:Value)(A:bu)
 (k:∀w1,Fit w0 (aG (A::L)) w1->wpList P ops Q rest a w1) (hd:o.dst=none:=by rfl) (ho:o.op= .store T x y:=by rfl) (hx:eV (lk l j) x= .pointer (some ⟨b,i,none⟩):=by kernel_rfl) (hy:eV (lk l j) y=v:=by kernel_rfl)
 (hv:v.cells=#[v]:=by rfl) (h1:v.oneCell'=true:=by rfl) (hs:(P.info? T).map (·.size)=some 1:=by kernel_rfl) (hc:(cs[i]?).isSome=true:=by kernel_rfl) (hA:pts b (.cells (cs.setIfInBounds i v) T')=A:=by kernel_rfl):wpList P ops Q (o::rest) a w:=by
 subst hA;cases hu:cs[i]? with
 | none=>rw[hu]at hc;cases hc
 | some u=>exact Mf hw hd hr ho hx hy hv h1 hs hF hu k
theorem YQ{x y:Operand}{b:Nat}{cs:Array Value}{T':TypeId}(hw:vt o ops a)(hr:cP Df n (lk l j) a)(hF:Fit w0 (aG (pts b (.cells cs T')::L)) w)(i:Nat)(vs:List Value)(A:bu)
 (k:∀w1,Fit w0 (aG (A::L)) w1->wpList P ops Q rest a w1) (hd:o.dst=none:=by rfl) (ho:o.op= .store T x y:=by rfl) (hx:eV (lk l j) x= .pointer (some ⟨b,i,none⟩):=by kernel_rfl) (hy:eV (lk l j) y= .agg vs.toArray:=by kernel_rfl)
 (h1:vs.all (·.oneCell')=true:=by rfl) (hfit:Nat.ble (i+vs.length) cs.size=true:=by rfl) (hs:(P.info? T).map (·.size)=some vs.length:=by kernel_rfl) (hA:pts b (.cells (cs.toList.take i++vs++cs.toList.drop (i+vs.length)).toArray T')=A:=by kernel_rfl):wpList P ops Q (o::rest) a w:=by
 subst hA;exact JZ hw hd hr ho hx hy h1 hfit hs hF rfl k
end
end GX
end
section
namespace GX
open Go Go.RowKit SL
section
variable {P:Program}{w w0 w1 z:World}{ops:Array Oper}{a:Act}{rest:List Oper}{e:Nat->Value}{o:Oper}{t E:TypeId}{n d cc sz yh:Nat}{α β:Type}{l:List (Nat×Value)}{j:Nat->Value}{Df:List Deferred}{L:List bu}
def Aj(L:List bu)(sz yh:Nat)(enc:gF->Nat->α->List Value)(nS:β->List Value)(J3:α->List β)(va:gF)(hs:Nat->Option Addr×Nat)(l:List α):Prop:=
 ∀i x,l[i]? = some x->va=some ⟨dR va,kz va,none⟩/\(∀f u,(enc (hs i).1 (hs i).2 x)[f]? = some u->∀z w,Fit z (aG L) w->w.cell? ⟨dR va,kz va+i*sz+f,none⟩=some u)/\cx L yh nS (hs i).1 (J3 x)
section
variable {enc:gF->Nat->α->List Value}{nS:β->List Value}{J3:α->List β}{va:gF}{hs:Nat->Option Addr×Nat}{l:List α}
theorem Aj.nil{L:List bu}:Aj L sz yh enc nS J3 va hs ([]:List α):=λi x h=>by simp at h
theorem Aj.up(k:Nat){L':List bu}(h:Aj (L'.drop k) sz yh enc nS J3 va hs l):Aj L' sz yh enc nS J3 va hs l:=
 λi x hx=>⟨(h i x hx).1,λf u hu z w hw=>(h i x hx).2.1 f u hu z w (hw.dn k),(h i x hx).2.2.up k⟩
theorem Aj.take{L:List bu}(h:Aj L sz yh enc nS J3 va hs l)(k:Nat):Aj L sz yh enc nS J3 va hs (l.take k):=by
 intro i x hx;refine h i x ?_;rw[List.getElem?_take]at hx;split at hx
 ·exact hx
 ·cases hx
theorem Aj.cell{z:World}{L:List bu}[Inhabited α]{i:Int}(hF:Aj L sz yh enc nS J3 va hs l)(hi:bM i l.length)(h:Fit z (aG L) w)(f:Nat){u:Value}(hu:(enc (hs i.toNat).1 (hs i.toNat).2 (J l i.toNat))[f]? = some u):w.cell? ⟨dR va,kz va+i.toNat*sz+f,none⟩=some u:=
 (hF _ _ (bp hi)).2.1 f u hu z w h
theorem Aj.wm{L:List bu}[Inhabited α]{i:Int}(hF:Aj L sz yh enc nS J3 va hs l)(hi:bM i l.length):cx L yh nS (hs i.toNat).1 (J3 (J l i.toNat)):=(hF _ _ (bp hi)).2.2
theorem Aj.ne{L:List bu}(hF:Aj L sz yh enc nS J3 va hs l)(h:0<l.length):va=some ⟨dR va,kz va,none⟩:=(hF 0 _ (List.getElem?_eq_getElem h)).1
end
theorem cx.ne{L:List bu}{enc:α->List Value}{va:gF}{l:List α}(hF:cx L sz enc va l)(h:0<l.length):va=some ⟨dR va,kz va,none⟩:=(hF 0 _ (List.getElem?_eq_getElem h)).1
theorem cx.HE{z:World}{L:List bu}{enc:α->List Value}{b:Nat}[Inhabited α]{l:List α}{i:Int}(hF:cx L sz enc (some ⟨b,0,none⟩) l)(hi:bM i l.length)(h:Fit z (aG L) w)(f:Nat){u:Value}(hu:(enc (J l i.toNat))[f]? = some u):w.cell? ⟨dR (some ⟨b,0,none⟩),i.toNat*sz+f,none⟩=some u:=by
 have e:=(hF _ _ (bp hi)).2 f u hu z w h;have o:kz (some ⟨b,0,none⟩:gF)=0:=rfl;rw[o,Dv]at e;exact e
theorem abq{x y:Operand}{k:IntKind}{i:Int}{n0:Nat}{L:List bu}{enc:gF->Nat->α->List Value}{nS:β->List Value}{J3:α->List β}{va:gF}{hs:Nat->Option Addr×Nat}[Inhabited α]{l:List α}(ho:o.op= .indexAddr t x y)(hx:eV e x= .slice va n0 cc)(hy:eV e y= .int k i)(GB:n0=l.length)
 (ht:P.underlying t=some (.slice E)) (hs':(P.info? E).map (·.size)=some sz) (hF:Aj L sz yh enc nS J3 va hs l) (hi:bM i l.length):(execOp (eV e) o).run P w= .ok (.value (.pointer (some ⟨dR va,kz va+i.toNat*sz,none⟩))) w:=by
 have h0:=hi.1;have h1:=hi.2;exact rie (hF _ _ (bp hi)).1 ho hx hy ht hs' h0 I
theorem J4(d:Nat){T:TypeId}(b:Addr)(m c n' c':Nat)(h:P.underlying T=some (.slice E)):(Op.equalIn (d+1) T (.slice (some b) m c) (.slice none n' c')).run P w= .ok false w:=by
 simp[Op.equalIn,run_underlying h]
theorem V7{x y:Operand}{T T':TypeId}{n0:Nat}{va:gF}(ho:o.op= .binOp .eql T x y T')(hx:eV e x= .slice va n0 cc)(hy:eV e y= .slice none 0 0)(ht:P.underlying T=some (.slice E))(hv:va=some ⟨dR va,kz va,none⟩):(execOp (eV e) o).run P w= .ok (.value (.bool false)) w:=by
 rw[hv]at hx;have h:=J4 (P:=P) (w:=w) 9999 ⟨dR va,kz va,none⟩ n0 cc 0 0 ht;unfold execOp;simp only[ho,hx,hy,eqGuard,binOp,Op.equal,Op.maxDepth];simp[h]
theorem Td{x y:Operand}{T T':TypeId}{n0:Nat}{va:gF}(ho:o.op= .binOp .neq T x y T')(hx:eV e x= .slice va n0 cc)(hy:eV e y= .slice none 0 0)(ht:P.underlying T=some (.slice E))(hv:va=some ⟨dR va,kz va,none⟩):(execOp (eV e) o).run P w= .ok (.value (.bool true)) w:=by
 rw[hv]at hx;have h:=J4 (P:=P) (w:=w) 9999 ⟨dR va,kz va,none⟩ n0 cc 0 0 ht;unfold execOp;simp only[ho,hx,hy,eqGuard,binOp,Op.equal,Op.maxDepth];simp[h]
def iq(x y:Int):Int:=IntKind.i64.wrap ((BitVec.ofInt 64 x &&& BitVec.ofInt 64 y).toNat)
def Of(x y:Int):Int:=IntKind.i64.wrap ((BitVec.ofInt 64 x ||| BitVec.ofInt 64 y).toNat)
theorem rand{x y:Operand}{p q:Int}{T T':TypeId}(ho:o.op= .binOp .and T x y T')(hx:eV e x= .int .i64 p)(hy:eV e y= .int .i64 q):(execOp (eV e) o).run P w= .ok (.value (.int .i64 (iq p q))) w:=by
 unfold execOp;simp[ho,hx,hy,eqGuard,binOp,Op.intBits];rfl
theorem ror{x y:Operand}{p q:Int}{T T':TypeId}(ho:o.op= .binOp .or T x y T')(hx:eV e x= .int .i64 p)(hy:eV e y= .int .i64 q):(execOp (eV e) o).run P w= .ok (.value (.int .i64 (Of p q))) w:=by
 unfold execOp;simp[ho,hx,hy,eqGuard,binOp,Op.intBits];rfl
theorem Fit.XQ{Q:bu}(hz:∀{z w:World} {L:List bu},Fit z (aG L) w->Fit z (aG (Q::L)) w){L:List bu}(h:Fit w0 (aG L) w):∀n,Fit w0 (aG (List.replicate n Q++L)) w
 | 0=>h
 | n+1=>by rw[List.replicate_succ];exact hz (Fit.XQ hz h n)
theorem _root_.Go.Proofs.YtaiffafelihaaaaGreatDoor.SL.Fit.Ri{own:α->List Value->bu}{v:Value}{z0:α}{c:oz sz}{L:List bu}(hz:∀{z w:World} {L:List bu},Fit z (aG L) w->Fit z (aG (own z0 c.cs::L)) w)(n:Nat)(h:Fit w0 (aG (rowOf E sz oz.cs v (List.replicate n c)::L)) w):Fit w0 (aG (vu E sz own v (List.replicate n z0)::L)) w:=by
 refine Fit.GF (css:=List.replicate n c) (by simp) ?_;have e:List.zipWith (λx c=>own x c.cs) (List.replicate n z0) (List.replicate n c)=List.replicate n (own z0 c.cs):=by simp[List.zipWith_replicate']
 rw[e];exact(Fit.XQ hz h n).perm G6
variable {Q:Exit->Act->World->Prop}
theorem Ei{x y:Operand}{i:Int}{bytes:Nat}{zc:Array Value}{own:α->List Value->bu}(z0:α)(hw:vt o ops a)(hd:o.dst=some d)(hn:Nat.blt d n=true)(hr:cP Df n (lk l j) a)
 (ho:o.op= .makeSlice t x y) (hx:eV (lk l j) x= .int .i64 i) (hy:eV (lk l j) y= .int .i64 i) (hi:0<=i/\i*bytes<=140737488355328) (hlen:zc.toList.length=sz) (hone:∀u∈zc.toList,u.oneCell'=true) (hsz:0<sz) (hty:P.underlying t=some (.slice E))
 (rS:(P.info? E).map (λi=>(i.size,i.bytes,i.zero.map (·.cells)))=some (sz,bytes,some zc)) (N0:Nat.blt 0 bytes=true) (hz:∀{z w:World} {L:List bu},Fit z (aG L) w->Fit z (aG (own z0 zc.toList::L)) w) (hF:Fit w0 (aG L) w)
 (k:∀ca w1 a,Fit w0 (aG (vu E sz own (.slice ca (List.replicate i.toNat z0).length i.toNat) (List.replicate i.toNat z0)::L)) w1->cP Df n (lk ((d,.slice ca (List.replicate i.toNat z0).length i.toNat)::l) j) a->wpList P ops Q rest a w1):wpList P ops Q (o::rest) a w:=
 uL (⟨zc.toList,hlen,hone⟩:oz sz) hw hd hn hr ho hx hy hi (GC hsz) hty rS rfl N0 hF λca w1 a h Hj=>by
  have e:(List.replicate i.toNat (⟨zc.toList,hlen,hone⟩:oz sz)).length=(List.replicate i.toNat z0).length:=by simp
  rw[e]at h Hj;exact k ca w1 a (h.Ri hz) Hj
theorem DB{β:Type}(F vs:List β)(a s f:Nat)(hf:f+vs.length<=s)(hs:a+s<=F.length) :
 F.take a++(((F.drop a).take s).take f++vs++((F.drop a).take s).drop (f+vs.length))++F.drop (a+s)=F.take (a+f)++vs++F.drop (a+f+vs.length):=by
 have e1:F.take a++((F.drop a).take s).take f=F.take (a+f):=by
  rw[List.take_take,yu I,List.take_add]
 have e2:((F.drop a).take s).drop (f+vs.length)++F.drop (a+s)=F.drop (a+f+vs.length):=by
  have h:=G8 s (F.drop a);rw[List.drop_drop]at h;have h2:=nu (List.drop (f+vs.length)) h;rw[JN (by rw[uV,C3];omega),List.drop_drop]at h2;rw[h2];congr 1;omega
 rw[<-e1,<-e2];simp only[s5]
theorem gO{x y:Operand}{vs:List Value}{f:Nat}{α:Type}{sz n0 cc:Nat}{enc:α->List Value}{xs:List α}{ca:gF}(hw:vt o ops a)(hd:o.dst=none)(hr:cP Df n (lk l j) a)(ho:o.op= .store t x y)
 {i:Nat} (hx:eV (lk l j) x= .pointer (some ⟨dR ca,i*sz+f,none⟩)) (hy:eV (lk l j) y= .agg vs.toArray) (h1:vs.all (·.oneCell')=true) (hs:(P.info? t).map (·.size)=some vs.length)
 (he:uv enc sz) (hF:Fit w0 (aG (rowOf E sz enc (.slice ca n0 cc) xs::L)) w) {p q:α} (hp:xs[i]? = some p) (hfit:f+vs.length<=sz) (hq:enc q=(enc p).take f++vs++(enc p).drop (f+vs.length))
 (k:∀w1,Fit w0 (aG (rowOf E sz enc (.slice ca n0 cc) (xs.set i q)::L)) w1->wpList P ops Q rest a w1):wpList P ops Q (o::rest) a w:=by
 have hi:i<xs.length:=(List.getElem?_eq_some_iff.1 hp).1;have hn:=hF.s6;obtain⟨hca,Fa⟩:=hF.ud I;obtain⟨Ht,F7⟩:=Fa.Ad;obtain⟨cur,YB,NZ,hP⟩:=Fa.sH;have hle:i*sz+sz<=xs.length*sz:=by
  have:(i+1)*sz<=xs.length*sz:=rQ _ hi;rw[uB]at this;omega
 have YC:xs.length*sz<=cc*sz:=rQ _ Ht;have hst:=run_storeCells_at P (dR ca) (i*sz+f) E vs 0 cur w hP.block I (by simpa using h1);simp only[w5]at hst;refine Eb (w1:=w.setRow (dR ca) (cur.toList.take (i*sz+f)++vs++cur.toList.drop (i*sz+f+vs.length)).toArray) hw hd hr ?_ (k _ (Fit.zw ?_ hca (by rw[gV];exact hn)))
 ·unfold execOp;cases Dx:P.info? t with
  | none=>simp[Dx]at hs
  | some q =>
   simp[Dx]at hs;simp only[ho,hx,hy,Instr.storeAt,Instr.sureAddr,storeVar,ou,uW,ox,sizeOf,typeInfo,run_program,Dx,Value.cells];simp[hs,hst]
 ·refine(hP.turn (w':=w.setRow (dR ca) (cur.toList.take (i*sz+f)++vs++cur.toList.drop (i*sz+f+vs.length)).toArray) (setRow_heap w (dR ca) cur _ E (0,0) hP.block) (λk hk _=>setRow_other w (dR ca) k _ hk) rfl rfl rfl (by simp)).head λz hz=>⟨by simpa using Ht,F7,_,?_,?_,hz⟩
  ·simp only[D8,kQ,uV,C3,vy];omega
  ·have XR:((xs.flatMap enc).drop (i*sz)).take sz=enc p:=by
    apply zm
    intro k;rw[List.getElem?_take];by_cases hk:k<sz
    ·rw[aM hk,List.getElem?_drop];exact he.get xs i k p hp hk
    ·rw[bZ hk,List.getElem?_eq_none (by rw[he.len];omega)]
   rw[gV,he.set xs i q hi,hq,<-XR,DB _ _ _ _ _ hfit (by rw[he.flat];exact hle),<-NZ];have hA:(cur.toList.take (i*sz+f)).length=i*sz+f:=by rw[uV,vy];omega
   have e1:(cur.toList.take (i*sz+f)++vs++cur.toList.drop (i*sz+f+vs.length)).take (xs.length*sz)=cur.toList.take (i*sz+f)++vs++(cur.toList.drop (i*sz+f+vs.length)).take (xs.length*sz-(i*sz+f+vs.length)):=by
    rw[JO,FT (by rw[kQ,hA];omega),kQ,hA]
   rw[LZ,e1,List.take_take,yu I,JP]
structure zz(l:List Value)(n:Nat):Prop where
 len:l.length=n
 one:∀u∈l,u.oneCell'=true
theorem zz.lit{l:List Value}(n:Nat)(h:(Nat.beq l.length n&&l.all (·.oneCell'))=true):zz l n:=by
 simp only[mE,List.all_eq_true]at h;exact⟨PN h.1,h.2⟩
theorem zz.app{a b:List Value}{m n:Nat}(h:zz a m)(k:zz b n):zz (a++b) (m+n):=
 ⟨by rw[kQ,h.len,k.len],λu hu=>(List.mem_append.1 hu).elim (h.one u) (k.one u)⟩
theorem _root_.Go.Proofs.YtaiffafelihaaaaGreatDoor.SL.uv.p{enc:α->List Value}(he:uv enc sz)(x:α):zz (enc x) sz:=⟨he.len x,he.one x⟩
theorem zz.enc{enc:α->List Value}{N:Nat}(h:∀x,zz (enc x) N)(hp:0<N)(e:N=sz):uv enc sz:=by
 subst e;exact⟨λx=>(h x).len,λx=>(h x).one,hp⟩
def ef[Inhabited α](N:Nat)(enc:α->List Value)(l:List α):List Value:=(List.range N).flatMap (λi=>enc (J l i))
theorem GH[Inhabited α](N:Nat){enc:α->List Value}(he:uv enc sz)(l:List α):zz (ef N enc l) (N*sz):=by
 unfold ef;refine⟨?_,λu hu => ?_⟩
 ·have e:(List.range N).flatMap (λi=>enc (J l i))=((List.range N).map (λi=>J l i)).flatMap enc:=by rw[List.flatMap_map]
  rw[e,he.flat];simp
 ·obtain⟨i,_,hi⟩:=List.mem_flatMap.1 hu;exact he.one _ u hi
theorem HF{b:Nat}:∀(xs:List Value) (off:Nat),(∀k u,xs[k]? = some u->w.cell? ⟨b,off+k,none⟩=some u)->rm w b off xs
 | [],_,_=>trivial
 | x::xs,off,h=>⟨by simpa using h 0 x rfl,HF xs (off+1) λk u hu=>by have:=h (k+1) u (by simpa using hu);rw[show off+1+k=off+(k+1) by omega];exact this⟩
theorem _root_.Go.Proofs.YtaiffafelihaaaaGreatDoor.SL.Fit.HG{L:List bu}{enc:α->List Value}{ca:gF}{n i f:Nat}{l:List α}{x:α}{xs:List Value}(h:Fit w0 (aG (rowOf E sz enc (.slice ca n cc) l::L)) w)(he:uv enc sz)(hx:l[i]? = some x)(hxs:((enc x).drop f).take xs.length=xs):rm w (dR ca) (i*sz+f) xs:=by
 refine HF xs _ λk u hu => ?_;rw[<-hxs,List.getElem?_take]at hu;split at hu
 ·rw[List.getElem?_drop]at hu;rw[show i*sz+f+k=i*sz+(f+k) by omega];exact h.cU he hx hu
 ·cases hu
def Ej[Inhabited α](N:Nat)(ys l:List α):List α:=(List.range N).map (λi=>if i<ys.length then J ys i else J l i)
def mB[Inhabited α](N:Nat)(l:List α)(k:Nat)(y:α):List α:=(List.range N).map (λi=>if i=k then y else J l i)
theorem Te[Inhabited α]{l:List α}{i:Nat}(h:i<l.length):J l i=l[i]:=by
 have:=get_at h;rw[List.getElem?_eq_getElem h]at this;exact(Option.some.inj this).symm
theorem XS[Inhabited α]{N i:Nat}(f:Nat->α)(h:i<N):J ((List.range N).map f) i=f i:=by
 rw[Te (by simpa using h)];simp
theorem Cw[Inhabited α](N:Nat)(enc:α->List Value)(l:List α):ef N enc l=((List.range N).map (λi=>J l i)).flatMap enc:=by unfold ef;rw[List.flatMap_map]
theorem Kx[Inhabited α]{N:Nat}{enc:α->List Value}(he:uv enc sz){ys l:List α}(h:ys.length<=N):ef N enc (Ej N ys l)=ys.flatMap enc++(ef N enc l).drop (ys.length*sz):=by
 have e1:(List.range N).map (λi=>J (Ej N ys l) i)=ys++((List.range N).map (λi=>J l i)).drop ys.length:=by
  apply L2
  ·simp;omega
  ·intro i h1 h2;have hi:i<N:=by simpa using h1
   simp only[List.getElem_map,List.getElem_range];unfold Ej;rw[XS _ hi,List.getElem_append];by_cases c:i<ys.length
   ·rw[aM c,dif_pos c,Te c]
   ·rw[bZ c,dif_neg c];simp only[List.getElem_drop,List.getElem_map,List.getElem_range]
    congr 1;omega
 have e2:∀(m:List α) (k:Nat),(m.drop k).flatMap enc=(m.flatMap enc).drop (k*sz):=by
  intro m k;by_cases hk:k<=m.length
  ·have e:(m.take k).flatMap enc++(m.drop k).flatMap enc=m.flatMap enc:=by rw[<-D9,G8]
   have hl:((m.take k).flatMap enc).length=k*sz:=by rw[he.flat,uV,yu hk]
   rw[<-e,<-hl,List.drop_left]
  ·rw[PO I,PO (by rw[he.flat];exact rQ _ I)];rfl
 rw[Cw,e1,D9,e2,<-Cw]
theorem Tf[Inhabited α]{N k:Nat}{enc:α->List Value}(he:uv enc sz){l:List α}{y:α}(h:k<N):ef N enc (mB N l k y)=(ef N enc l).take (k*sz)++enc y++(ef N enc l).drop (k*sz+sz):=by
 have e1:(List.range N).map (λi=>J (mB N l k y) i)=((List.range N).map (λi=>J l i)).set k y:=by
  apply L2
  ·simp
  ·intro i h1 h2;have hi:i<N:=by simpa using h1
   simp only[List.getElem_map,List.getElem_range];unfold mB;rw[XS _ hi,List.getElem_set];by_cases c:i=k
   ·rw[aM c,aM c.symm]
   ·rw[bZ c,bZ (λe=>c e.symm)];simp
 rw[Cw,e1,he.set _ _ _ (by simpa using h),<-Cw]
theorem Tg{A E ys:List Value}{f k:Nat}(hA:A.length=f):A++(ys++E.drop k)=(A++E).take f++ys++(A++E).drop (f+k):=by
 subst hA;rw[G2,s5,List.drop_append];simp
theorem HH{s x:Operand}{α β:Type}{sz yh n0 cc i f N cv:Nat}{enc:α->List Value}{nS:β->List Value}{xs:List α}{ca va:gF}{ys:List β}{E afW:TypeId}{p q:α}(hw:vt o ops a)(hd:o.dst=some d)(hn:Nat.blt d n=true)(hr:cP Df n (lk l j) a)
 (ho:o.op= .call {callee:=.builtin .copy,args:=#[s,x],argTypes:=#[t,t]}) (hs:eV (lk l j) s= .slice (some ⟨dR ca,i*sz+f,none⟩) N N) (hx:eV (lk l j) x= .slice va ys.length cv)
 (he:uv enc sz) (hi:uv nS yh) (hty:P.underlying t=some (.slice afW)) (hsz:(P.info? afW).map (·.size)=some yh) (hlen:ys.length<=N)
 (hF:Fit w0 (aG (rowOf E sz enc (.slice ca n0 cc) xs::L)) w) (hv:cx L yh nS va ys) (hp:xs[i]? = some p) (hfit:f+ys.length*yh<=sz) (hq:enc q=(enc p).take f++ys.flatMap nS++(enc p).drop (f+ys.length*yh))
 (k:∀w1 a,Fit w0 (aG (rowOf E sz enc (.slice ca n0 cc) (xs.set i q)::L)) w1->cP Df n (lk ((d,.int .i64 ((ys.length:Nat):Int))::l) j) a->wpList P ops Q rest a w1):wpList P ops Q (o::rest) a w:=by
 have Hf:i<xs.length:=(List.getElem?_eq_some_iff.1 hp).1;have hn':=hF.s6;obtain⟨hca,Fa⟩:=hF.ud I;obtain⟨Ht,F7⟩:=Fa.Ad;obtain⟨cur,YB,NZ,hP⟩:=Fa.sH;have hle:i*sz+sz<=xs.length*sz:=by
  have:(i+1)*sz<=xs.length*sz:=rQ _ Hf;rw[uB]at this;omega
 have YC:xs.length*sz<=cc*sz:=rQ _ Ht;have hfl:(ys.flatMap nS).length=ys.length*yh:=hi.flat ys;have hmin:Nat.min ys.length N=ys.length:=yu hlen;have hcells:(Builtin.firstCells yh ys.length (.slice va ys.length cv)).run P w= .ok (ys.flatMap nS).toArray w:=by
  rcases Nat.eq_zero_or_pos ys.length with h0 | h0
  ·have e:ys=[]:=G3 h0;subst e;cases va with
   | none=>exact run_firstCells_none (P:=P) w yh _ _ _
   | some ad=>exact run_firstCells_some (P:=P) w yh 0 _ _ _ [] (by simp) (by simp)
  ·have hva:=hv.ne h0;rw[hva];refine run_firstCells_some (P:=P) w yh ys.length _ _ _ (ys.flatMap nS) hfl ?_;intro jj u hu;have hj:jj<ys.length*yh:=by rw[<-hfl];exact(List.getElem?_eq_some_iff.1 hu).1
   have hpos:0<yh:=hi.pos;have h1:jj/yh<ys.length:=Nat.div_lt_of_lt_mul (by rw[Nat.mul_comm];exact hj);have h2:jj%yh<yh:=BF _ hpos;have h3:jj/yh*yh+jj%yh=jj:=by rw[Nat.mul_comm];exact FU jj yh
   have h4:=hi.get ys (jj/yh) (jj%yh) ys[jj/yh] (List.getElem?_eq_getElem h1) h2;rw[h3,hu]at h4;have h5:=(hv _ _ (List.getElem?_eq_getElem h1)).2 _ _ h4.symm _ _ hF.drop;rw[w4,show kz va+jj=kz va+jj/yh*yh+jj%yh by omega];exact h5
 have hst:=run_storeCells_at P (dR ca) (i*sz+f) E (ys.flatMap nS) 0 cur w hP.block (by rw[hfl];omega) (hi.BO ys);simp only[w5]at hst;refine tw (w1:=w.setRow (dR ca) (cur.toList.take (i*sz+f)++ys.flatMap nS++cur.toList.drop (i*sz+f+(ys.flatMap nS).length)).toArray) (v:=.int .i64 ((ys.length:Nat):Int)) hw hd hn hr ?_ (λa hr=>k _ a (Fit.zw ?_ hca (by rw[gV];exact hn')) hr)
 ·unfold execOp;cases Dx:P.info? afW with
  | none=>simp[Dx]at hsz
  | some q =>
   simp[Dx]at hsz;simp only[ho,resolve,invoke,builtin,ou,uW,ox,JQ,C4,Ea,hs,hx];simp[Builtin.copy_,run_underlying hty,Builtin.lenOf,sizeOf,typeInfo,Dx,hsz,hmin,hcells,hst,goInt]
 ·refine(hP.turn (w':=w.setRow (dR ca) (cur.toList.take (i*sz+f)++ys.flatMap nS++cur.toList.drop (i*sz+f+(ys.flatMap nS).length)).toArray) (setRow_heap w (dR ca) cur _ E (0,0) hP.block) (λk hk _=>setRow_other w (dR ca) k _ hk) rfl rfl rfl (by simp)).head λz hz=>⟨by simpa using Ht,F7,_,?_,?_,hz⟩
  ·simp only[D8,kQ,uV,C3,vy];omega
  ·have XR:((xs.flatMap enc).drop (i*sz)).take sz=enc p:=by
    apply zm
    intro k;rw[List.getElem?_take];by_cases hk:k<sz
    ·rw[aM hk,List.getElem?_drop];exact he.get xs i k p hp hk
    ·rw[bZ hk,List.getElem?_eq_none (by rw[he.len];omega)]
   rw[<-hfl]at hq hfit;generalize ys.flatMap nS=vs at hq hfit hst⊢;rw[gV,he.set xs i q Hf,hq,<-XR,DB _ _ _ _ _ hfit (by rw[he.flat];exact hle),<-NZ];have hA:(cur.toList.take (i*sz+f)).length=i*sz+f:=by rw[uV,vy];omega
   have e1:(cur.toList.take (i*sz+f)++vs++cur.toList.drop (i*sz+f+vs.length)).take (xs.length*sz)=cur.toList.take (i*sz+f)++vs++(cur.toList.drop (i*sz+f+vs.length)).take (xs.length*sz-(i*sz+f+vs.length)):=by
    rw[JO,FT (by rw[kQ,hA];omega),kQ,hA]
   rw[LZ,e1,List.take_take,yu I,JP]
end
end GX
end
section
namespace RK
open Go Go.RowKit Go.ChangeShapes Go.WideShapes Go.Deep SL GX
section
variable {H:Type}{Fc:TypeId×Value->H}{P:Program}{afU:World}{base:Nat}{spare:Nat->Bool}{held:Bool}{t e:TypeId}{n:Nat}{cs:List Value}{y:DataW H×List MemPlace}
theorem P0{l:List (DataW H)}{d:DataW H}(h:d∈l):Rows.uptoBulk d<=Rows.uptoBulkAll l:=J2 h
theorem ru{fs:Array Field}(hs:P.underlying t=some (.struct fs))(h:DataW.trod Fc P afU base spare held n t cs=some y)(i:Nat){f:Field}(hf:fs[i]? = some f) :
 ∃m z,DataW.trod Fc P afU base spare held m f.type ((cs.drop f.offset).take (P.cellsOf f.type))=some z/\Rows.uptoBulk z.1<=Rows.uptoBulk y.1:=by
 obtain⟨xs,m,_,hx,_,hl,hg⟩:=DataW.trod_struct hs h;have hi:i<fs.size:=(Array.getElem?_eq_some_iff.1 hf).1;have hg:=hg i f hf;rw[List.getElem?_eq_getElem I]at hg;refine⟨m,_,hg,?_⟩;rw[hx];simp only[Rows.uptoBulk];have:=P0 (l:=xs.map (·.1)) (List.mem_map.2 ⟨_,List.getElem_mem (show i<xs.length by omega),rfl⟩);omega
theorem YR{fs:Array Field}(hs:P.underlying t=some (.struct fs))(h:DataW.trod Fc P afU base spare held n t cs=some y):cs.length=P.cellsOf t:=by
 obtain⟨xs,m,_,hx,hl,_⟩:=DataW.trod_struct hs h;exact hl
theorem vJ(ht:P.underlying t=some (.int .i64))(h:DataW.trod Fc P afU base spare held n t cs=some y) :∃x:Int,cs=[.int .i64 x]/\HC x:=by
 obtain⟨x,hx,_,hw⟩:=DataW.trod_int ht h;exact⟨x,hx,wf_i64 hw⟩
theorem Og{α:Type}{Q:α->DataW H->Prop}{enc:α->List Value}{sz:Nat}(he:uv enc sz)(ht:P.underlying t=some (.slice e))(hC:P.cellsOf e=sz)
 (Ti:∀n cs y,DataW.trod Fc P afU base spare held n e cs=some y->cs.length=sz->∃x:α,cs=enc x/\Q x y.1) (h:DataW.trod Fc P afU base spare held n t cs=some y) :
 ∃(va:gF) (l:List α) (cap:Nat),cs=[.slice va l.length cap]/\cx [old afU] sz enc va l/\(∀x∈l,∃d,Q x d/\Rows.uptoBulk d<=Rows.uptoBulk y.1)/\l.length+1<=Rows.uptoBulk y.1/\l.length<=cap:=by
 rcases open_slice ht h with ⟨h0,_⟩ | ⟨a',len,cap,m,n,D,Pl,hcs,_,hl,hm,YE,hx,hi⟩
 ·exact⟨none,[],0,h0,cx.nil,λx h=>by simp at h,by simpa using Mr y.1,by simp⟩
 ·have hlm:len<=m:=by rw[YE];split<;>omega
  rw[hC]at hi;have hex:∀i,i<m->∃x:α,afU.cells? base (a'.add (i*sz)) sz=some (enc x)/\Q x (D i):=λi him=>by
   obtain⟨cs',h1,h2⟩:=hi i him;obtain⟨_,h3,_⟩:=World.cells?_some h1;obtain⟨x,hx,hq⟩:=Ti n cs' _ h2 h3;exact⟨x,by rw[h1,hx],hq⟩
  have hlen:∀k,k<=m->∃l:List α,l.length=k/\∀i x,l[i]? = some x->afU.cells? base (a'.add (i*sz)) sz=some (enc x)/\Q x (D i):=by
   intro k
   induction k with
   | zero=>intro _;exact⟨[],rfl,λi x h=>by simp at h⟩
   | succ k ih =>
    intro hk;obtain⟨l,h1,h2⟩:=ih I;obtain⟨x,hx⟩:=hex k I;refine⟨l++[x],by simp[h1],λi y hy => ?_⟩;by_cases hik:i<l.length
    ·rw[List.getElem?_append_left hik]at hy;exact h2 i y hy
    ·rw[List.getElem?_append_right I]at hy;have hM:i=k:=by
      have:=(List.getElem?_eq_some_iff.1 hy).1;simp at this;omega
     subst hM;rw[h1,Nat.sub_self]at hy;simp at hy;subst hy;exact hx
  obtain⟨l,Ht,F7⟩:=hlen len hlm;have hd:y.1= .slice ((List.range len).map D) ((List.range (m-len)).map λj=>D (len+j)):=nu Prod.fst hx;refine⟨some a',l,cap,by rw[Ht];exact hcs,λi x hx => ?_,λx hx => ?_,?_,I⟩
  ·have hc:=(F7 i x hx).1;obtain⟨_,_,hat⟩:=World.cells?_some hc;have hcell:∀f u,(enc x)[f]? = some u->afU.cell? ((a'.add (i*sz)).add f)=some u:=λf u hu=>by
    have hf:f<sz:=by rw[<-he.len x];exact(List.getElem?_eq_some_iff.1 hu).1
    rw[hat f hf,hu]
   have hsp:a'.spot=none:=by
    have hp:=he.pos;have Hf:i<l.length:=(List.getElem?_eq_some_iff.1 hx).1;have hx0:l[0]? = some (l[0]' I):=List.getElem?_eq_getElem I;obtain⟨_,_,adC⟩:=World.cells?_some (F7 0 _ hx0).1;have h0:0<(enc (l[0]' I)).length:=by rw[he.len];exact hp
    have h1:afU.cell? ((a'.add (0*sz)).add 0)=some _:=(adC 0 hp).trans (List.getElem?_eq_getElem h0);have h2:=World.cell?_spot h1;rw[Nat.zero_mul,Addr.add,aM rfl,Addr.add,aM rfl]at h2;exact h2
   obtain⟨ab,ao,asp⟩:=a';simp only at hsp;subst hsp;refine⟨rfl,λf u hu z w hw => ?_⟩;refine hw.L9 ?_;have:=hcell f u hu;rw[w4,w4]at this;exact this
  ·obtain⟨i,hi,rfl⟩:=List.getElem_of_mem hx;obtain⟨_,hq⟩:=F7 i _ (List.getElem?_eq_getElem hi);refine⟨D i,hq,?_⟩;rw[hd];simp only[Rows.uptoBulk];have:=P0 (l:=(List.range len).map D) (List.mem_map.2 ⟨i,List.mem_range.2 I,rfl⟩);omega
  ·rw[hd,Ht];simp only[Rows.uptoBulk];have:=SY ((List.range len).map D);simp only[C5,List.length_range]at this;omega
theorem Ky(ht:P.underlying t=some (.slice e))(he:P.underlying e=some (.int .i64))(hC:P.cellsOf e=1)(h:DataW.trod Fc P afU base spare held n t cs=some y) :
 ∃(va:gF) (l:List Int) (cap:Nat),cs=[.slice va l.length cap]/\cx [old afU] 1 aO va l/\(∀x∈l,HC x)/\l.length+1<=Rows.uptoBulk y.1/\l.length<=cap:=by
 obtain⟨va,l,cap,h1,h2,h3,h4,h5⟩:=Og (Q:=λx _=>HC x) aL ht hC (λn cs y h hl=>by
  obtain⟨x,hx,hi⟩:=vJ he h;exact⟨x,by rw[hx];rfl,hi⟩) h
 exact⟨va,l,cap,h1,h2,λx hx=>by obtain⟨_,h,_⟩:=h3 x hx;exact h,h4,h5⟩
theorem V8{α β:Type}{Q:α->DataW H->Prop}{enc:gF->Nat->α->List Value}{nS:β->List Value}{J3:α->List β}{sz yh:Nat}(he:∀a c,uv (enc a c) sz)(ht:P.underlying t=some (.slice e))(hC:P.cellsOf e=sz)
 (Ti:∀n cs y,DataW.trod Fc P afU base spare held n e cs=some y->cs.length=sz->∃(a:gF) (c:Nat) (x:α),cs=enc a c x/\cx [old afU] yh nS a (J3 x)/\Q x y.1) (h:DataW.trod Fc P afU base spare held n t cs=some y) :
 ∃(va:gF) (hs:Nat->Option Addr×Nat) (l:List α) (cap:Nat),cs=[.slice va l.length cap]/\Aj [old afU] sz yh enc nS J3 va hs l/\(∀x∈l,∃d,Q x d/\Rows.uptoBulk d<=Rows.uptoBulk y.1)/\l.length+1<=Rows.uptoBulk y.1/\l.length<=cap:=by
 obtain⟨va,l,cap,h1,h2,h3,h4,h5⟩:=Og (α:=(Option Addr×Nat)×α) (Q:=λp d=>cx [old afU] yh nS p.1.1 (J3 p.2)/\Q p.2 d) (enc:=λp=>enc p.1.1 p.1.2 p.2)
  ⟨λp=>(he _ _).len _,λp u h=>(he _ _).one _ u h,(he none 0).pos⟩ ht hC (λn cs y h hl=>by
   obtain⟨a,c,x,e1,e2,e3⟩:=Ti n cs y h hl;exact⟨((a,c),x),e1,e2,e3⟩) h
 refine⟨va,λi=>(l[i]?.map (·.1)).getD (none,0),l.map (·.2),cap,by rw[C5];exact h1,λi x hx => ?_,λx hx => ?_,by rw[C5];exact h4,by rw[C5];exact h5⟩
 ·rw[List.getElem?_map]at hx;cases hq:l[i]? with
  | none=>rw[hq]at hx;cases hx
  | some p =>
   rw[hq]at hx;simp only[vz,Option.some.injEq]at hx;subst hx;obtain⟨a1,a2⟩:=h2 i p hq;obtain⟨_,a3,_⟩:=h3 p (List.mem_of_getElem? hq);simp only[hq,vz,nQ];exact⟨a1,a2,a3.1⟩
 ·obtain⟨p,hp,rfl⟩:=List.mem_map.1 hx;obtain⟨d,a,b⟩:=h3 p hp;exact⟨d,a.2,b⟩
end
theorem Mt{P:Program}{afU:World}{α:Type}{enc:α->List Value}{dE:α->DataW Unit}{sz:Nat}{name:String}{g:Nat}{t e:TypeId}{N:Nat}{l:List α}{rest:List (String×DataW Unit)}{ps:List MemPlace}(hsz:0<sz)
 (hg:P.globalNamed name=some g) (hty:(P.globals[g]?).map (·.type)=some t) (ht:P.underlying t=some (.array N e)) (hC:P.cellsOf e=sz) (hCt:P.cellsOf t=N*sz) (hN:N=l.length)
 (hlen:∀x,(enc x).length=sz) (Ti:∀m cs y x,DataW.trod (λ_=>()) P afU 0 (λ_=>true) false m e cs=some y->cs.length=sz->y.1=dE x->cs=enc x)
 (h:DataW.LaidVars P afU ((name,.agg (l.map dE))::rest) ps):cx [old afU] sz enc (some ⟨g,0,none⟩) l/\∃qs,DataW.LaidVars P afU rest qs:=by
 obtain⟨g',t',cs,fuel,p,q,JY,ht',adD,hd,hr,_⟩:=h;obtain rfl:=Option.some.inj (hg.symm.trans JY);obtain rfl:=Option.some.inj (hty.symm.trans ht');refine⟨λi x hx => ?_,_,hr⟩;have hi:i<l.length:=(List.getElem?_eq_some_iff.1 hx).1;refine⟨rfl,λf u hu z w hw=>hw.L9 ?_⟩;obtain⟨xs,m,_,ex,hlc,hl,hel⟩:=DataW.trod_array ht hd;have hf:f<sz:=by rw[<-hlen x];exact(List.getElem?_eq_some_iff.1 hu).1
 have h1:=hel i I;rw[hC,List.getElem?_eq_getElem I]at h1;have h2:(xs[i]' I).1=dE x:=by
  simp only[Prod.mk.injEq,DataW.agg.injEq]at ex;have:=nu (·[i]?) ex.1;simp only[List.getElem?_map,hx,vz,List.getElem?_eq_getElem (show i<xs.length by omega),Option.some.injEq]at this;exact this.symm
 have hlt:cs.toList.length=N*sz:=by rw[hlc,hCt]
 have h4:i*sz+sz<=N*sz:=by
  have:=rQ sz (show i+1<=N by omega);rw[FW]at this;exact this
 have h3:=Ti m _ _ x h1 (by rw[uV,C3,hlt];omega) h2;have:=World.var?_cell hg adD (i*sz+f);rw[show(kz (some ⟨g,0,none⟩:gF))=0 from rfl,Dv];show afU.cell? ⟨g,i*sz+f,none⟩=some u;rw[this,<-Array.getElem?_toList];rw[<-h3,List.getElem?_take,aM hf,List.getElem?_drop]at hu;exact hu
end RK
end
section
namespace GX
open Go Go.RowKit SL
def Oh(x y:Int):Int:=IntKind.i64.wrap ((BitVec.ofInt 64 x ^^^ BitVec.ofInt 64 y).toNat)
def Rj(x y:Int):Int:=IntKind.i64.wrap (x*2 ^ (min y.toNat 64))
def Mu(x y:Int):Int:=x.fdiv (2 ^ (min y.toNat 64))
section
variable {P:Program}{ops:Array Oper}{Q:Exit->Act->World->Prop}{a:Act}{w w0 w1:World}{rest:List Oper}{o:Oper}{n d t:Nat}{v v1:Value}{l:List (Nat×Value)}{j e:Nat->Value}{L:List bu}{Df:List Deferred}{E:TypeId}
theorem adE{x y:Operand}{p q:Int}{T T':TypeId}(ho:o.op= .binOp .xor T x y T')(hx:eV e x= .int .i64 p)(hy:eV e y= .int .i64 q):(execOp (eV e) o).run P w= .ok (.value (.int .i64 (Oh p q))) w:=by
 unfold execOp;simp[ho,hx,hy,eqGuard,binOp,Op.intBits];rfl
theorem Tj(x:Int):0<=IntKind.u64.wrap x:=by
 simp only[IntKind.wrap,IntKind.min,IntKind.max,IntKind.signed,IntKind.bits];simp;omega
theorem adF{x y:Operand}{p q:Int}{T T':TypeId}(ho:o.op= .binOp .shl T x y T')(hx:eV e x= .int .i64 p)(hy:eV e y= .int .u64 q)(hq:0<=q):(execOp (eV e) o).run P w= .ok (.value (.int .i64 (Rj p q))) w:=by
 have h:¬q<0:=by omega
 unfold execOp;simp[ho,hx,hy,eqGuard,binOp,Op.shift,h];rfl
theorem adG{x y:Operand}{p q:Int}{T T':TypeId}(ho:o.op= .binOp .shr T x y T')(hx:eV e x= .int .i64 p)(hy:eV e y= .int .u64 q)(hq:0<=q):(execOp (eV e) o).run P w= .ok (.value (.int .i64 (Mu p q))) w:=by
 have h:¬q<0:=by omega
 unfold execOp;simp[ho,hx,hy,eqGuard,binOp,Op.shift,h];rfl
theorem uM{x y:Operand}{k:IntKind}{i:Int}{b N off sz:Nat}{w':World}(ho:o.op= .indexAddr t x y)(hx:eV e x= .pointer (some ⟨b,off,none⟩))(hy:eV e y= .int k i)
 (ht:P.underlying t=some (.array N E)) (hs:(P.info? E).map (·.size)=some sz) (hi:bM i N):(execOp (eV e) o).run P w'= .ok (.value (.pointer (some ⟨b,off+i.toNat*sz,none⟩))) w':=by
 unfold execOp;have h0:=hi.1;have h1:=hi.2;simp only[ho,hx,hy];cases hq:P.info? E with
 | none=>simp[hq]at hs
 | some q =>
  simp[hq]at hs;simp[Instr.indexAt,Instr.sureAddr,run_underlying ht,asIntOf,h0,h1,sizeOf,typeInfo,hq,hs,w4]
theorem adH{x y:Operand}{kd:IntKind}{i j:Int}{v:Value}{w:World}(ho:o.op= .index t x y)(hy:eV e y= .int kd i)(hi:i=j)(hrun:(Instr.index t (eV e x) (.int kd j)).run P w= .ok v w):(execOp (eV e) o).run P w= .ok (.value v) w:=by
 subst hi;unfold execOp;simp[ho,hy,hrun]
theorem YS{x y:Operand}{k:IntKind}{i:Int}{b N R off sz:Nat}{w':World}(ho:o.op= .indexAddr t x y)(hx:eV e x= .pointer (some ⟨b,R+off,none⟩))(hy:eV e y= .int k i)
 (ht:P.underlying t=some (.array N E)) (hs:(P.info? E).map (·.size)=some sz) (hi:bM i N):(execOp (eV e) o).run P w'= .ok (.value (.pointer (some ⟨b,R+(off+i.toNat*sz),none⟩))) w':=by
 rw[<-Nat.add_assoc];exact uM ho hx hy ht hs hi
end
section
variable {α:Type}[Inhabited α]{enc:α->List Value}{sz N:Nat}{C pre post:List Value}{l:List α}{o:Nat}
theorem kZ{i:Int}(h:bM i N):i.toNat<N:=by have h0:=h.1;have h1:=h.2;omega
theorem Tk(he:uv enc sz){i f:Nat}(hi:i<N){u:Value}(hu:(enc (J l i))[f]? = some u):(ef N enc l)[i*sz+f]? = some u:=by
 have hf:f<sz:=by rw[<-he.len (J l i)];exact(List.getElem?_eq_some_iff.1 hu).1
 rw[Cw,he.get _ i f (J l i) (by simp[hi]) hf];exact hu
theorem oF(hC:C=pre++(ef N enc l++post))(he:uv enc sz)(ho:pre.length=o){i f:Nat}(hi:i<N){u:Value}(hu:(enc (J l i))[f]? = some u):C[o+i*sz+f]? = some u:=by
 have h1:=Tk (N:=N) he hi hu;have h2:i*sz+f<(ef N enc l).length:=(List.getElem?_eq_some_iff.1 h1).1;rw[hC,List.getElem?_append_right I,ho,show o+i*sz+f-o=i*sz+f by omega,List.getElem?_append_left h2];exact h1
theorem V9(hC:C=pre++(ef N enc l++post))(he:uv enc sz)(ho:pre.length=o){i:Nat}(hi:i<N){xs:List Value}(hx:enc (J l i)=xs):(C.drop (o+i*sz)).take xs.length=xs:=by
 subst hx
 apply zm
 intro k;rw[List.getElem?_take];by_cases hk:k<(enc (J l i)).length
 ·rw[aM hk,List.getElem?_drop,oF hC he ho hi (List.getElem?_eq_getElem hk),List.getElem?_eq_getElem hk]
 ·rw[bZ hk,List.getElem?_eq_none I]
theorem Oi{C':List Value}(hC:C=pre++(ef N enc l++post))(he:uv enc sz)(ho:pre.length=o){i:Nat}(hi:i<N){y:α}{vs:List Value}(hy:enc y=vs)(hC':C'=pre++(ef N enc (mB N l i y)++post)):C'=C.take (o+i*sz)++vs++C.drop (o+i*sz+vs.length):=by
 have hl:=(GH N he l).len;have hvs:vs.length=sz:=by rw[<-hy];exact he.len y
 have hm:i*sz+sz<=N*sz:=by
  have:=rQ sz (show i+1<=N by omega);rw[FW]at this;exact this
 have e1:(pre++(ef N enc l++post)).take (o+i*sz)=pre++(ef N enc l).take (i*sz):=by
  rw[JO,FT I,ho,show o+i*sz-o=i*sz by omega,List.take_append_of_le_length I]
 have e2:(pre++(ef N enc l++post)).drop (o+i*sz+sz)=(ef N enc l).drop (i*sz+sz)++post:=by
  rw[List.drop_append,G0 I,ho,show o+i*sz+sz-o=i*sz+sz by omega,CF,JN I]
 rw[hC',hC,Tf he hi,<-hy,he.len y,e1,e2];simp only[s5]
theorem Wa{C:List Value}{k:Nat}{u:Value}(h:C[k]? = some u):C.toArray[k]? = some u:=by simpa using h
theorem HI(hC:C=pre++(ef N enc l++post))(he:uv enc sz)(ho:pre.length=o){i m:Nat}(hi:i<N)(hm:m<=sz):o+i*sz+m<=C.length:=by
 have hl:=(GH N he l).len;have:i*sz+sz<=N*sz:=by
  have:=rQ sz (show i+1<=N by omega);rw[FW]at this;exact this
 rw[hC,kQ,kQ,hl];omega
theorem uw{C':List Value}{v:Value}(hC:C=pre++(ef N enc l++post))(he:uv enc 1)(ho:pre.length=o){i:Nat}(hi:i<N){y:α}(hy:enc y=[v])(hC':C'=pre++(ef N enc (mB N l i y)++post)):C'=C.set (o+i*1) v:=by
 have h:=Oi hC he ho hi hy hC';have hl:=HI (m:=1) hC he ho hi (ja _);rw[h,List.set_eq_take_append_cons_drop,sR];simp
end
section
variable {P:Program}{ops:Array Oper}{Q:Exit->Act->World->Prop}{a:Act}{w w0 w1:World}{rest:List Oper}{o:Oper}{n d t:Nat}{v v1:Value}{l:List (Nat×Value)}{j e:Nat->Value}{L:List bu}{Df:List Deferred}{E:TypeId}
theorem _root_.Go.Proofs.YtaiffafelihaaaaGreatDoor.SL.Fit.Tm{b k:Nat}{C xs:List Value}{T:TypeId}(h:Fit w0 (aG (pts b (.cells C.toArray T)::L)) w)(hx:(C.drop k).take xs.length=xs):rm w b k xs:=by
 refine HF xs _ λq u hu => ?_;rw[<-hx,List.getElem?_take]at hu;split at hu
 ·rw[List.getElem?_drop]at hu;exact h.cell (k+q) (by simpa using hu)
 ·cases hu
theorem s9{x y:Operand}{b k:Nat}{C C':List Value}{T:TypeId}{u:Value}(hw:vt o ops a)(hd:o.dst=none)(hr:cP Df n (lk l j) a)(ho:o.op= .store t x y)
 (hx:eV (lk l j) x= .pointer (some ⟨b,k,none⟩)) (hy:eV (lk l j) y=v) (hv:v.cells=#[v]) (h1:v.oneCell'=true) (hs:(P.info? t).map (·.size)=some 1)
 (hF:Fit w0 (aG (pts b (.cells C.toArray T)::L)) w) (hk:C[k]? = some u) (hC:C'=C.set k v)
 (K:∀w1,Fit w0 (aG (pts b (.cells C'.toArray T)::L)) w1->wpList P ops Q rest a w1):wpList P ops Q (o::rest) a w:=
 Mf hw hd hr ho hx hy hv h1 hs hF (by simpa using hk) λw1 h=>K w1 (by
  have e:C.toArray.setIfInBounds k v=C'.toArray:=by rw[hC];simp
  exact e▸ h)
theorem Ek{x y:Operand}{b k:Nat}{C C' vs:List Value}{T:TypeId}(hw:vt o ops a)(hd:o.dst=none)(hr:cP Df n (lk l j) a)(ho:o.op= .store t x y)
 (hx:eV (lk l j) x= .pointer (some ⟨b,k,none⟩)) (hy:eV (lk l j) y= .agg vs.toArray) (h1:vs.all (·.oneCell')=true) (hs:(P.info? t).map (·.size)=some vs.length)
 (hF:Fit w0 (aG (pts b (.cells C.toArray T)::L)) w) (hk:k+vs.length<=C.length) (hC:C'=C.take k++vs++C.drop (k+vs.length))
 (K:∀w1,Fit w0 (aG (pts b (.cells C'.toArray T)::L)) w1->wpList P ops Q rest a w1):wpList P ops Q (o::rest) a w:=
 JZ hw hd hr ho hx hy h1 (Nat.ble_eq_true_of_le (by simpa using hk)) hs hF (cs':=C'.toArray) (by rw[hC]) K
end
section
variable {P:Program}{w w0 w1 z:World}{ops:Array Oper}{Q:Exit->Act->World->Prop}{a:Act}{rest:List Oper}{e:Nat->Value}{o:Oper}{n d:Nat}{l:List (Nat×Value)}{j:Nat->Value}{Df:List Deferred}{L:List bu}{u:Value}
theorem Fe{x:Operand}{T:TypeId}(hw:vt o ops a)(hr:cP Df n (lk l j) a)(ho:o.op= .panic x)(hx:eV (lk l j) x= .iface T u)
 (k:Q (.panic [{v:=.iface T u,recovered:=false}]) a w):wpList P ops Q (o::rest) a w:=by
 refine xk hw ?_;unfold Oper.wp;have h:(execOp (eV (lk l j)) o).run P w= .halt (.panic (.iface T u)) w:=by
  unfold execOp;simp[ho,hx,Instr.panic,goPanic]
 rw[hr.eval,h,Oper.upon_panic];exact k
theorem Mv{f:FuncId}{args:Array Value}{R:Ending->World->Prop}(hw:vt o ops a)(hr:cP Df n (lk l j) a)
 (hrun:(execOp (eV (lk l j)) o).run P w= .ok (.enter f args) w) (hc:Calls P f args w R)
 (k:∀e w1,R e w1->∃ch,e= .panicked ch/\Q (.panic ch) a w1):wpList P ops Q (o::rest) a w:=by
 refine xk hw ?_;unfold Oper.wp;rw[hr.eval,hrun,Oper.upon_enter];refine hc.mono λe w1 h => ?_;obtain⟨ch,rfl,h2⟩:=k e w1 h;exact h2
theorem oA{K:Act->World->Prop}{ch:List PanicEntry}(h:Q (.panic ch) a w):Exit.then K Q (.panic ch) a w:=h
theorem ux{i:Nat}{ch:List PanicEntry}(h:Q (.panic ch) a w):Exit.inBlock i Q (.panic ch) a w:=h
theorem Cx{fn:Func}{R:Ending->World->Prop}{ch:List PanicEntry}(hr:mF n e a)(h:R (.panicked ch) w):bodyPost P fn R (.panic ch) a w:=⟨hr.defers,h⟩
theorem ejR{γ δ:Type}{x y:δ}(h:some (Sum.inr x:γ⊕δ)=some (Sum.inr y)):x=y:=by cases h;rfl
theorem Tn(h:Q .ret a w):Exit.noGoto Q .ret a w:=h
instance afi [h:PI Q]:PI (Exit.noGoto Q):=⟨λch a w dst v k=>h.pi ch a w dst v k⟩
end
section
variable {P:Program}{w:World}
theorem Kz(em:Bool)(d:Nat)(xs:Array Value):∀(fs:List Field) (i:Nat) (us:List Value),C9 P i fs us us=true->(∀j,us[j]? = xs[i+j]?∨us.length<=j)->
 Sem.run P (forIn fs PUnit.unit λf _=>if f.name≠ "_" then do let v<-part f.type xs f.offset;Instr.checkKey em (d+1) f.type v;pure (ForInStep.yield PUnit.unit)else pure (ForInStep.yield PUnit.unit)) w= .ok PUnit.unit w
 | [],_,[],_,_=>by simp
 | f::fs,i,.int k a::us,h,hx=>by
  simp only[C9,mE,bne_iff_ne,ne_eq,zn]at h;obtain⟨⟨⟨⟨hn,ho⟩,ht⟩,_⟩,hr⟩:=h;have hx0:xs[i]? = some (.int k a):=by rcases hx 0 with h | h;simpa using h.symm;simp at h
  have hty :∃kk,P.underlying f.type=some (.int kk):=by
   revert ht
   cases hq:P.underlying f.type with
   | none=>simp
   | some d=>cases d<;>simp
  obtain⟨kk,hty⟩:=hty;have ih:=Kz em d xs fs (i+1) us hr (λj=>by rcases hx (j+1)with h | h;left;simpa [N7,JR]using h;right;simpa using h);have pa:=sI (P:=P) (w:=w) (t:=f.type) (cs:=xs) (i:=f.offset) (v:=.int k a) (by rw[hty]) (by rw[ho];exact hx0);have hc:(Instr.checkKey em (d+1) f.type (.int k a)).run P w= .ok () w:=by simp[Instr.checkKey,run_underlying hty]
  rw[List.forIn_cons];simp only[ne_eq,aM hn,ou,pa,hc,ox,uW]
  simpa using ih
 | f::fs,i,.bool a::us,h,hx=>by
  simp only[C9,mE,bne_iff_ne,ne_eq,zn]at h;obtain⟨⟨⟨hn,ho⟩,ht⟩,hr⟩:=h;have hx0:xs[i]? = some (.bool a):=by rcases hx 0 with h | h;simpa using h.symm;simp at h
  have hty:P.underlying f.type=some .bool:=by
   revert ht
   cases hq:P.underlying f.type with
   | none=>simp
   | some d=>cases d<;>simp
  have ih:=Kz em d xs fs (i+1) us hr (λj=>by rcases hx (j+1)with h | h;left;simpa [N7,JR]using h;right;simpa using h);have pa:=sI (P:=P) (w:=w) (t:=f.type) (cs:=xs) (i:=f.offset) (v:=.bool a) (by rw[hty]) (by rw[ho];exact hx0);have hc:(Instr.checkKey em (d+1) f.type (.bool a)).run P w= .ok () w:=by simp[Instr.checkKey,run_underlying hty]
  rw[List.forIn_cons];simp only[ne_eq,aM hn,ou,pa,hc,ox,uW]
  simpa using ih
theorem To{em:Bool}{T:TypeId}{us:List Value}(d:Nat)(hu:P.underlying T=some (.struct (P.fieldsOf T)))(hf:C9 P 0 (P.fieldsOf T).toList us us=true):(Instr.checkKey em (d+2) T (.agg us.toArray)).run P w= .ok () w:=by
 unfold Instr.checkKey;simp only[run_underlying hu,ou,ox,<-Array.forIn_toList];rw[Kz em d us.toArray _ 0 us hf (λj=>by left;simp)];simp
structure Mw{α:Type}[DecidableEq α](P:Program)(kt:TypeId)(ek:α->List Value):Prop where
 hp:P.stoodInHeld kt=false
 hu:P.underlying kt=some (.struct (P.fieldsOf kt))
 hf:∀x y,C9 P 0 (P.fieldsOf kt).toList (ek x) (ek y)=true
 eq:∀x y,uZ (ek x) (ek y)=decide (x=y)
end
section
variable {α β:Type}[DecidableEq α]
def sD(ek:α->List Value)(ev:β->List Value)(l:List (α×β))(k:Nat):List MapEntry:=(l.zipIdx k).map λp=>{key:=.agg (ek p.1.1).toArray,val:=.agg (ev p.1.2).toArray,born:=p.2}
def mapOf(ek:α->List Value)(ev:β->List Value)(b:Nat)(l:List (α×β)):bu:=pts b (.map (sD ek ev l 0).toArray l.length)
def yj:List (α×β)->α->Option β
 | [],_=>none
 | p::l,x=>if x=p.1 then some p.2 else yj l x
variable {P:Program}{w w0 w1 z:World}{ops:Array Oper}{Q:Exit->Act->World->Prop}{a:Act}{rest:List Oper}{e:Nat->Value}{o:Oper}{n d:Nat}{l:List (Nat×Value)}{j:Nat->Value}{Df:List Deferred}{L:List bu}{u:Value}
variable {ek:α->List Value}{ev:β->List Value}{b:Nat}{m:List (α×β)}{t kt et:TypeId}
theorem Mx(hk:Mw P kt ek)(x:α):∀(m:List (α×β)) (k i:Nat),((yj m x=none/\(Instr.findAsking kt (.agg (ek x).toArray) (sD ek ev m k) i).run P w= .ok none w)∨∃v q,yj m x=some v/\(Instr.findAsking kt (.agg (ek x).toArray) (sD ek ev m k) i).run P w= .ok (some (q,.agg (ev v).toArray)) w)
 | [],k,i=>by left;exact⟨rfl,by simp[sD,Instr.findAsking]⟩
 | p::m,k,i=>by
  have h1:=run_equalIn_struct (P:=P) w 9999 kt (ek x).toArray (ek p.1).toArray hk.hu hk.hp;rw[Ks (P:=P) (w:=w) 9998 (ek x).toArray (ek p.1).toArray (P.fieldsOf kt).toList 0 (ek x) (ek p.1) (hk.hf x p.1) (λj=>by left;simp) (λj=>by left;simp)]at h1;have h2:(Op.equal kt (.agg (ek x).toArray) (.agg (ek p.1).toArray)).run P w= .ok (decide (x=p.1)) w:=by rw[<-hk.eq];exact h1
  have e:sD ek ev (p::m) k={key:=.agg (ek p.1).toArray,val:=.agg (ev p.2).toArray,born:=k}::sD ek ev m (k+1):=rfl;rw[e];by_cases c:x=p.1
  ·right
   refine⟨p.2,i,by simp[yj,c],?_⟩;rw[Instr.findAsking];simp only[ou,h2,ox];simp[c]
  ·have ih:=Mx hk x m (k+1) (i+1);have e2:(Instr.findAsking kt (.agg (ek x).toArray) ({key:=.agg (ek p.1).toArray,val:=.agg (ev p.2).toArray,born:=k}::sD ek ev m (k+1)) i).run P w=(Instr.findAsking kt (.agg (ek x).toArray) (sD ek ev m (k+1)) (i+1)).run P w:=by
    rw[Instr.findAsking];simp[h2,c]
   rw[e2]
   simpa [yj,c]using ih
theorem J5(hk:Mw P kt ek)(x:α)(m:List (α×β)):((yj m x=none/\(Instr.findKey kt (.agg (ek x).toArray) (sD ek ev m 0)).run P w= .ok none w)∨∃v q,yj m x=some v/\(Instr.findKey kt (.agg (ek x).toArray) (sD ek ev m 0)).run P w= .ok (some (q,.agg (ev v).toArray)) w):=by
 have h:=Mx (P:=P) (w:=w) (ev:=ev) hk x m 0 0;unfold Instr.findKey;simp only[ou,run_underlying hk.hu,ox];cases m with
 | nil=>left;exact⟨rfl,by simp[sD,Instr.findNow]⟩
 | cons p m =>
  have e:Instr.findNow (.struct (P.fieldsOf kt)) (.agg (ek x).toArray) (sD ek ev (p::m) 0) 0=none:=rfl;rw[e];exact h
theorem Tp(hw:vt o ops a)(hd:o.dst=some d)(hn:Nat.blt d n=true)(hr:cP Df n (lk l j) a)(ho:o.op= .makeMap t none)(ek:α->List Value)(ev:β->List Value)(hF:Fit z (aG L) w)
 (k:∀b w a,Fit z (aG (mapOf ek ev b []::L)) w->cP Df n (lk ((d,.map (some b))::l) j) a->wpList P ops Q rest a w):wpList P ops Q (o::rest) a w:=by
 refine tw hw hd hn hr (w1:=w.alloc (.map #[] 0)) (v:=.map (some w.heap.size)) ?_ λa Hj=>k _ _ a (hF.alloc _) Hj;unfold execOp;simp[ho,Instr.makeMap,newObj]
 rfl
theorem Wb{zc:Array Value}(h:(P.info? et).bind (·.zero)=some (.agg zc)):(zeroValue et).run P w= .ok (.agg zc) w:=by
 cases hi:P.info? et with
 | none=>simp[hi]at h
 | some i =>
  simp[hi]at h;simp[zeroValue,typeInfo,hi,h]
theorem Wc{x y:Operand}{v0:β}(hw:vt o ops a)(hd:o.dst=some d)(hn:Nat.blt d n=true)(hr:cP Df n (lk l j) a)(ho:o.op= .lookup t x y true)(hx:eV (lk l j) x= .map (some b))(q:α)(hy:eV (lk l j) y= .agg (ek q).toArray)
 (ht:P.underlying t=some (.map kt et)) (hk:Mw P kt ek) (hz:(P.info? et).bind (·.zero)=some (.agg (ev v0).toArray)) (hF:Fit z (aG (mapOf ek ev b m::L)) w)
 (k:∀a,cP Df n (lk ((d,.tuple #[.agg (ev ((yj m q).getD v0)).toArray,.bool (yj m q).isSome])::l) j) a->wpList P ops Q rest a w):wpList P ops Q (o::rest) a w:=by
 refine tw hw hd hn hr (w1:=w) ?_ k;unfold execOp;have hb:(getObj b).run P w= .ok (.map (sD ek ev m 0).toArray m.length) w:=PR hF.block;have hc:∀em,(Instr.checkKey em 10000 kt (.agg (ek q).toArray)).run P w= .ok () w:=λem=>To 9998 hk.hu (hk.hf q q);have hzv:=Wb (P:=P) (w:=w) hz;rcases J5 (P:=P) (w:=w) (ev:=ev) hk q m with ⟨e,h⟩ | ⟨v,i,e,h⟩
 ·simp[ho,hx,hy,Instr.lookup,run_underlying ht,hb,hc,h,e,hzv]
 ·simp[ho,hx,hy,Instr.lookup,run_underlying ht,hb,hc,h,e]
theorem J6(p:α×β):∀(m:List (α×β)) (k:Nat),sD ek ev (m++[p]) k=sD ek ev m k++[{key:=.agg (ek p.1).toArray,val:=.agg (ev p.2).toArray,born:=k+m.length}]
 | [],k=>rfl
 | q::m,k=>by
  have ih:=J6 p m (k+1);show _::sD ek ev (m++[p]) (k+1)=_::(sD ek ev m (k+1)++_);rw[ih]
  congr 3
  simp;omega
theorem P1{o o':Obj}(h:Fit w0 (aG (pts b o::L)) w):Fit w0 (aG (pts b o'::L)) {w with heap:=w.heap.setIfInBounds b o' }:=by
 refine h.turn ?_ (λk hk hlt => ?_) rfl rfl rfl (by simp)
 ·simp[h.lt]
 ·show(w.heap.setIfInBounds b o')[k]? = _;rw[Array.getElem?_setIfInBounds_ne I]
theorem Tq{x y v:Operand}(hw:vt o ops a)(hd:o.dst=none)(hr:cP Df n (lk l j) a)(ho:o.op= .mapUpdate t x y v∨o.op= .insert t x y v)(hx:eV (lk l j) x= .map (some b))(q:α)(r:β)(hy:eV (lk l j) y= .agg (ek q).toArray)(hv:eV (lk l j) v= .agg (ev r).toArray)
 (ht:P.underlying t=some (.map kt et)) (hk:Mw P kt ek) (hq:yj m q=none) (hF:Fit z (aG (mapOf ek ev b m::L)) w)
 (k:∀w,Fit z (aG (mapOf ek ev b (m++[(q,r)])::L)) w->wpList P ops Q rest a w):wpList P ops Q (o::rest) a w:=by
 have hb:(getObj b).run P w= .ok (.map (sD ek ev m 0).toArray m.length) w:=PR hF.block;have hc:∀em,(Instr.checkKey em 10000 kt (.agg (ek q).toArray)).run P w= .ok () w:=λem=>To 9998 hk.hu (hk.hf q q);have hrun:(Instr.mapUpdate t (.map (some b)) (.agg (ek q).toArray) (.agg (ev r).toArray)).run P w= .ok () {w with heap:=w.heap.setIfInBounds b (.map (sD ek ev (m++[(q,r)]) 0).toArray (m++[(q,r)]).length)}:=by
  rcases J5 (P:=P) (w:=w) (ev:=ev) hk q m with ⟨e,h⟩ | ⟨v,i,e,h⟩
  ·rw[J6];have hs:∀o',(setObj b o').run P w= .ok () {w with heap:=w.heap.setIfInBounds b o' }:=λo'=>by simp[setObj,Sem.run,hF.block]
   simp[Instr.mapUpdate,run_underlying ht,hb,hc,h,hs]
  ·rw[e]at hq;cases hq
 refine xk hw ?_;unfold Oper.wp;have h2:(execOp (eV (lk l j)) o).run P w= .ok .skip {w with heap:=w.heap.setIfInBounds b (.map (sD ek ev (m++[(q,r)]) 0).toArray (m++[(q,r)]).length)}:=by
  unfold execOp;rcases ho with ho | ho<;>simp[ho,hx,hy,hv,hrun]
 rw[hr.eval,h2,Oper.upon_skip,hd];exact k _ (P1 hF)
section
variable {ξ γ:Type}
noncomputable def wo(aC:ξ->γ->Option γ)(s0:γ)(l:List ξ):Option γ:=
 open Classical in if h :∃r,∀l':List ξ,l'.Perm l->l'.foldlM (λs x=>aC x s) s0=some r then some h.choose else none
theorem De{aC:ξ->γ->Option γ}{s0 r:γ}{l l':List ξ}(h:wo aC s0 l=some r)(p:l'.Perm l):l'.foldlM (λs x=>aC x s) s0=some r:=by
 unfold wo at h;split at h
 ·rename_i hx;rw[<-Option.some.inj h];exact hx.choose_spec l' p
 ·cases h
theorem My{aC:ξ->γ->Option γ}{s0 r:γ}{l:List ξ}(h:∀l':List ξ,l'.Perm l->l'.foldlM (λs x=>aC x s) s0=some r):wo aC s0 l=some r:=by
 unfold wo;have hx :∃r,∀l':List ξ,l'.Perm l->l'.foldlM (λs x=>aC x s) s0=some r:=⟨r,h⟩;rw[dif_pos hx];have e:=hx.choose_spec l (List.Perm.refl l);rw[h l (List.Perm.refl l)]at e;rw[<-Option.some.inj e]
structure Seen(l:List ξ)(aC:ξ->γ->Option γ)(s0:γ)(seen:Array Nat)(s:γ):Prop where
 nd:seen.toList.Nodup
 lt:∀i∈seen.toList,i<l.length
 fold:(seen.toList.filterMap (λi=>l[i]?)).foldlM (λs x=>aC x s) s0=some s
theorem Seen.nil{l:List ξ}{aC:ξ->γ->Option γ}{s0:γ}:Seen l aC s0 #[] s0:=⟨by simp,by simp,rfl⟩
theorem J7(l:List ξ):(List.range l.length).filterMap (λi=>l[i]?)=l:=by
 apply zm
 intro i;have h:∀(l:List ξ),(List.range l.length).filterMap (λi=>l[i]?)=l:=by
  intro l
  induction l with
  | nil=>rfl
  | cons x l ih =>
   rw[Bj,List.range_succ_eq_map,List.filterMap_cons];simp only[List.getElem?_cons_zero,List.filterMap_map]
   congr 1
 rw[h]
theorem vK{n:Nat}{l:List Nat}(h:l.Nodup)(hlt:∀i∈l,i<n)(zx:∀i,i<n->i∈l):l.Perm (List.range n):=
 (List.perm_ext_iff_of_nodup h List.nodup_range).2 λi=>⟨λhi=>List.mem_range.2 (hlt i hi),λhi=>zx i (List.mem_range.1 hi)⟩
theorem Seen.done{l:List ξ}{aC:ξ->γ->Option γ}{s0 s r:γ}{seen:Array Nat}(h:Seen l aC s0 seen s)(H:wo aC s0 l=some r)(zx:∀i,i<l.length->i∈seen.toList):s=r:=by
 have p:=(vK h.nd h.lt zx).filterMap (λi=>l[i]?);rw[J7]at p;have e:=De H p;rw[h.fold]at e;exact Option.some.inj e
theorem Seen.push{l:List ξ}{aC:ξ->γ->Option γ}{s0 s r:γ}{seen:Array Nat}(h:Seen l aC s0 seen s)(H:wo aC s0 l=some r){i:Nat}{x:ξ}(hx:l[i]? = some x)(hi:i∉seen.toList) :∃s',aC x s=some s'/\Seen l aC s0 (seen.push i) s':=by
 have Hf:i<l.length:=(List.getElem?_eq_some_iff.1 hx).1;have hnd:(seen.toList++[i]).Nodup:=by
  rw[List.nodup_append];exact⟨h.nd,by simp,λa ha b hb=>by simp at hb;subst hb;intro e;subst e;exact hi ha⟩
 have hlt:∀k∈seen.toList++[i],k<l.length:=λk hk=>by
  rcases List.mem_append.1 hk with hk | hk
  ·exact h.lt k hk
  ·simp at hk;omega
 let rest:=(List.range l.length).filter (λk => !(seen.toList++[i]).contains k)
 have p:((seen.toList++[i])++rest).Perm (List.range l.length):=by
  refine vK ?_ ?_ ?_
  ·rw[List.nodup_append];refine⟨hnd,List.nodup_range.filter _,λa ha b hb => ?_⟩;intro e;subst e;have:=(List.mem_filter.1 hb).2;simp at this ha;rcases ha with ha | ha
   ·exact this.1 ha
   ·exact this.2 ha
  ·intro k hk;rcases List.mem_append.1 hk with hk | hk
   ·exact hlt k hk
   ·exact List.mem_range.1 (List.mem_filter.1 hk).1
  ·intro k hk;by_cases c:k∈seen.toList++[i]
   ·exact List.mem_append.2 (.inl c)
   ·refine List.mem_append.2 (.inr (List.mem_filter.2 ⟨List.mem_range.2 hk,?_⟩))
    simpa using c
 have p2:=p.filterMap (λi=>l[i]?);rw[J7]at p2;have e:=De H p2;rw[List.filterMap_append,List.filterMap_append,List.foldlM_append,List.foldlM_append,h.fold]at e;have e1:List.filterMap (λi=>l[i]?) [i]=[x]:=by simp[hx]
 rw[e1]at e;cases hs:aC x s with
 | none=>simp[hs]at e
 | some s' =>
  refine⟨s',rfl,⟨by simpa using hnd,λk hk=>hlt k (by simpa using hk),?_⟩⟩;rw[Array.toList_push,List.filterMap_append,List.foldlM_append,h.fold,e1];simp[hs]
theorem Seen.size{l:List ξ}{aC:ξ->γ->Option γ}{s0 s:γ}{seen:Array Nat}(h:Seen l aC s0 seen s):seen.size<=l.length:=by
 have p:(seen.toList++(List.range l.length).filter (λk => !seen.toList.contains k)).Perm (List.range l.length):=by
  refine vK ?_ ?_ ?_
  ·rw[List.nodup_append];refine⟨h.nd,List.nodup_range.filter _,λa ha b hb => ?_⟩;intro e;subst e;have:=(List.mem_filter.1 hb).2;simp at this ha;exact this ha
  ·intro k hk;rcases List.mem_append.1 hk with hk | hk
   ·exact h.lt k hk
   ·exact List.mem_range.1 (List.mem_filter.1 hk).1
  ·intro k hk;by_cases c:k∈seen.toList
   ·exact List.mem_append.2 (.inl c)
   ·refine List.mem_append.2 (.inr (List.mem_filter.2 ⟨List.mem_range.2 hk,?_⟩))
    simpa using c
 have h1:=p.length_eq;simp at h1;omega
end
theorem Oj{ξ γ:Type}{c:Code}(m:List ξ)(aC:ξ->γ->Option γ)(s0:γ)(afW:Array Nat->γ->Act->World->Prop)(h0:afW #[] s0 a w)
 (round:∀seen s a w,Seen m aC s0 seen s->afW seen s a w->c.wp P (Exit.then (λa w =>∃i s',Seen m aC s0 (seen.push i) s'/\afW (seen.push i) s' a w) Q) a w):(Code.loop c).wp P Q a w:=by
 refine eD (λx:Array Nat×γ=>m.length-x.1.size) (λx a w=>Seen m aC s0 x.1 x.2/\afW x.1 x.2 a w) (#[],s0) ⟨Seen.nil,h0⟩ ?_
 rintro ⟨seen,s⟩ a w ⟨hs,hI⟩
 refine Code.wp_mono (λe a w q => ?_) (round seen s a w hs hI);cases e with
 | normal =>
  obtain⟨i,s',h1,h2⟩:=q;refine⟨(seen.push i,s'),⟨h1,h2⟩,?_⟩;have:=h1.size;simp at this⊢;omega
 | _=>exact q
def HJ(it b n:Nat)(seen:Array Nat):bu:=pts it (.mapIter (some b) n seen n)
theorem Ts{x:Operand}(hw:vt o ops a)(hd:o.dst=some d)(hn:Nat.blt d n=true)(hr:cP Df n (lk l j) a)(ho:o.op= .range t x)(hx:eV (lk l j) x= .map (some b))(ht:P.underlying t=some (.map kt et))
 (hF:Fit z (aG (mapOf ek ev b m::L)) w)
 (k:∀it w a,Fit z (aG (HJ it b m.length #[]::mapOf ek ev b m::L)) w->cP Df n (lk ((d,.pointer (some ⟨it,0,none⟩))::l) j) a->wpList P ops Q rest a w):wpList P ops Q (o::rest) a w:=by
 refine tw hw hd hn hr (w1:=w.alloc (.mapIter (some b) m.length #[] m.length)) (v:=.pointer (some ⟨w.heap.size,0,none⟩)) ?_ λa Hj=>k _ _ a (hF.alloc _) Hj;have h:=run_range_map (P:=P) w t kt et b (sD ek ev m 0).toArray m.length ht hF.block;unfold execOp;simp[ho,hx,h]
theorem El(m:List (α×β))(k i:Nat):(sD ek ev m k)[i]? = (m[i]?).map λp=>{key:=.agg (ek p.1).toArray,val:=.agg (ev p.2).toArray,born:=k+i}:=by
 unfold sD;rw[List.getElem?_map,List.getElem?_zipIdx];cases m[i]? <;> rfl
theorem Mz{m:List (α×β)}{x:MapEntry}(h:x∈sD ek ev m 0) :∃p,m[x.born]? = some p/\x={key:=.agg (ek p.1).toArray,val:=.agg (ev p.2).toArray,born:=x.born}:=by
 obtain⟨i,hi⟩:=List.getElem?_of_mem h;rw[El]at hi;cases hm:m[i]? with
 | none=>simp[hm]at hi
 | some p =>
  simp[hm]at hi;subst hi;exact⟨p,hm,rfl⟩
theorem Wd{x:Operand}{it n0:Nat}{seen:Array Nat}(hw:vt o ops a)(hd:o.dst=some d)(hn:Nat.blt d n=true)(hr:cP Df n (lk l j) a)(ho:o.op= .next x false)(hx:eV (lk l j) x= .pointer (some ⟨it,0,none⟩))(GB:n0=m.length)
 (hF:Fit z (aG (HJ it b n0 seen::mapOf ek ev b m::L)) w)
 (k0:(∀i,i<m.length->i∈seen.toList)->∀a,cP Df n (lk ((d,.tuple #[.bool false])::l) j) a->wpList P ops Q rest a w)
 (k1:∀i x w a,m[i]? = some x->i∉seen.toList->Fit z (aG (HJ it b n0 (seen.push i)::mapOf ek ev b m::L)) w->cP Df n (lk ((d,.tuple #[.bool true,.agg (ek x.1).toArray,.agg (ev x.2).toArray])::l) j) a->wpList P ops Q rest a w):wpList P ops Q (o::rest) a w:=by
 subst GB;have hb1:(getObj it).run P w= .ok (.mapIter (some b) m.length seen m.length) w:=by simp[getObj,Sem.run,hF.block]
 have hb2:(getObj b).run P w= .ok (.map (sD ek ev m 0).toArray m.length) w:=PR (hF.pick 1).block;have hold:∀x∈(sD ek ev m 0).toArray.toList,x.born<m.length:=λx hx=>by
  obtain⟨p,hp,_⟩:=Mz (by simpa using hx);exact(List.getElem?_eq_some_iff.1 hp).1
 have abr:=next_test_false seen (sD ek ev m 0).toArray m.length m.length hold (ja _);have adI:∀(w:World) o',w.heap[it]? = some (.mapIter (some b) m.length seen m.length)->(setObj it o').run P w= .ok () {w with heap:=w.heap.setIfInBounds it o' }:=λw o' h=>by simp[setObj,Sem.run,h]
 have hmem:∀x∈(Array.filter (λe => !seen.contains e.born) (sD ek ev m 0).toArray).toList,x.born<m.length:=λx hx=>hold x (by simp at hx⊢;exact hx.1);have hsrc:∀x∈(Array.filter (λe => !seen.contains e.born) (sD ek ev m 0).toArray).toList,∃p,m[x.born]? = some p/\x.born∉seen.toList/\x={key:=.agg (ek p.1).toArray,val:=.agg (ev p.2).toArray,born:=x.born}:=λx hx=>by
  simp at hx;obtain⟨p,h1,h2⟩:=Mz hx.1;exact⟨p,h1,by simpa using hx.2,h2⟩
 have zx:(Array.filter (λe => !seen.contains e.born) (sD ek ev m 0).toArray).size=0->∀i,i<m.length->i∈seen.toList:=by
  intro h0 i hi;have h1:Array.filter (λe => !seen.contains e.born) (sD ek ev m 0).toArray=#[]:=Array.eq_empty_of_size_eq_zero h0;rw[Array.filter_eq_empty_iff]at h1;have h2:=h1 {key:=.agg (ek m[i].1).toArray,val:=.agg (ev m[i].2).toArray,born:=i} (by
   have:(sD ek ev m 0)[i]? = some {key:=.agg (ek m[i].1).toArray,val:=.agg (ev m[i].2).toArray,born:=i}:=by rw[El,List.getElem?_eq_getElem hi];simp
   simpa using List.mem_of_getElem? this)
  simpa using h2
 have hrun:∀ty,(∃i x w1,m[i]? = some x/\i∉seen.toList/\Fit z (aG (HJ it b m.length (seen.push i)::mapOf ek ev b m::L)) w1/\(Instr.next (.pointer (some ⟨it,0,none⟩)) false ty).run P w= .ok (.tuple #[.bool true,.agg (ek x.1).toArray,.agg (ev x.2).toArray]) w1)∨
  ((∀i,i<m.length->i∈seen.toList)/\(Instr.next (.pointer (some ⟨it,0,none⟩)) false ty).run P w= .ok (.tuple #[.bool false]) w):=by
  intro ty;simp only[Instr.next,ou,hb1,hb2,ox,abr,G5,if_false];generalize Array.filter (λe => !seen.contains e.born) (sD ek ev m 0).toArray=K at hmem hsrc zx⊢;have e1:K.filter (λx=>decide (x.born<m.length))=K:=Array.filter_eq_self.2 (λx hx=>by simpa using hmem x (by simpa using hx));have e2:K.filter (λx=>decide (x.born>=m.length))=#[]:=by
   rw[Array.filter_eq_empty_iff];intro x hx;have:=hmem x (by simpa using hx);simp;omega
  simp only[e1,e2,Array.append_empty];by_cases h0:K.size=0
  ·right
   have h1:K=#[]:=Array.eq_empty_of_size_eq_zero h0;refine⟨zx h0,?_⟩;subst h1;simp[choose,Sem.run,Question.forced]
  ·left
   have hne:K.isEmpty=false:=by simp[Array.isEmpty,h0]
   simp only[hne,G5,if_false,Array.empty_append,Array.size_map];have hch :∃(q:Nat) (w1:World),q<K.size/\(w1=w∨w1=w.drew)/\(choose (Question.mapNext K.size)).run P w= .ok q w1:=by
    by_cases hf:K.size<=1
    ·exact⟨0,w,I,.inl rfl,by simp[choose,Sem.run,Question.forced,hf]⟩
    ·exact⟨_,w.drew,BF _ I,.inr rfl,by
      simp only[choose,Sem.run,Question.forced,BI,hf,if_false,Question.cut]
      rfl⟩
   obtain⟨q,w1,hq,hw1,hrun⟩:=hch;obtain⟨p,hp1,hp2,hp3⟩:=hsrc K[q] (by simp);have hF1:Fit z (aG (HJ it b m.length seen::mapOf ek ev b m::L)) w1:=by
    rcases hw1 with rfl | rfl
    ·exact hF
    ·exact hF.drew
   refine⟨K[q].born,p,_,hp1,hp2,P1 (o':=.mapIter (some b) m.length (seen.push K[q].born) m.length) hF1,?_⟩;have hkey:K[q].key= .agg (ek p.1).toArray:=by rw[hp3]
   have hval:K[q].val= .agg (ev p.2).toArray:=by rw[hp3]
   simp only[hrun,Array.getElem?_map,Array.getElem?_eq_getElem hq,vz,ou,adI w1 _ hF1.block,ox,hkey,hval]
   rfl
 refine xk hw ?_;unfold Oper.wp;rcases hrun o.type with ⟨i,y,w1,h1,h2,h3,h4⟩ | ⟨h1,h4⟩
 ·have h5:(execOp (eV (lk l j)) o).run P w= .ok (.value (.tuple #[.bool true,.agg (ek y.1).toArray,.agg (ev y.2).toArray])) w1:=by
   unfold execOp;simp[ho,hx,h4]
  rw[hr.eval,h5,Oper.upon_value,hd];exact k1 i y w1 _ h1 h2 h3 (hr.put d _ hn)
 ·have h5:(execOp (eV (lk l j)) o).run P w= .ok (.value (.tuple #[.bool false])) w:=by
   unfold execOp;simp[ho,hx,h4]
  rw[hr.eval,h5,Oper.upon_value,hd];exact k0 h1 _ (hr.put d _ hn)
theorem Tt{x:Operand}{it n0 i:Nat}{seen:Array Nat}{p:α×β}(hw:vt o ops a)(hd:o.dst=some d)(hn:Nat.blt d n=true)(hr:cP Df n (lk l j) a)(ho:o.op= .entry x)(hx:eV (lk l j) x= .pointer (some ⟨it,0,none⟩))(GB:n0=m.length)
 (hF:Fit z (aG (HJ it b n0 (seen.push i)::mapOf ek ev b m::L)) w) (hp:m[i]? = some p)
 (k:∀a,cP Df n (lk ((d,.tuple #[.agg (ek p.1).toArray,.agg (ev p.2).toArray])::l) j) a->wpList P ops Q rest a w):wpList P ops Q (o::rest) a w:=by
 subst GB;have hb1:(getObj it).run P w= .ok (.mapIter (some b) m.length (seen.push i) m.length) w:=by simp[getObj,Sem.run,hF.block]
 have hb2:(getObj b).run P w= .ok (.map (sD ek ev m 0).toArray m.length) w:=PR (hF.pick 1).block;have hf:(sD ek ev m 0).toArray.find? (·.born==i)=some {key:=.agg (ek p.1).toArray,val:=.agg (ev p.2).toArray,born:=i}:=by
  rw[<-Array.find?_toList,LZ];have hmem:{key:=.agg (ek p.1).toArray,val:=.agg (ev p.2).toArray,born:=i}∈sD ek ev m 0:=List.mem_of_getElem? (i:=i) (by rw[El,hp];simp);have hnd:((sD ek ev m 0).map (·.born)).Nodup:=by
   have e:(sD ek ev m 0).map (·.born)=List.range m.length:=by
    apply zm
    intro k;rw[List.getElem?_map,El];by_cases c:k<m.length
    ·simp[List.getElem?_eq_getElem c,List.getElem?_range c]
    ·rw[List.getElem?_eq_none I,List.getElem?_eq_none (by simpa using c)];rfl
   rw[e];exact List.nodup_range
  exact find_born _ _ hnd hmem
 refine tw hw hd hn hr (w1:=w) ?_ k;unfold execOp;have h:(Instr.entry (.pointer (some ⟨it,0,none⟩))).run P w= .ok (.tuple #[.agg (ek p.1).toArray,.agg (ev p.2).toArray]) w:=by
  simp only[Instr.entry,ou,hb1,hb2,ox,Array.back?_push,bne_self_eq_false,G5,if_false,hf]
  rfl
 simp[ho,hx,h]
end
open Go Go.RowKit SL Go.MuLone Go.Conc.Locks
section
variable {P:Program}{ops:Array Oper}{Q:Exit->Act->World->Prop}{a:Act}{w w0 w1 z:World}{rest:List Oper}{o:Oper}{n d t:Nat}{v r u:Value}{l:List (Nat×Value)}{j e:Nat->Value}{L:List bu}{Df:List Deferred}{f:FuncId}{args:Array Value}
theorem Tu{q:Deferred}(hw:vt o ops a)(hd:o.dst=none)(hr:cP Df n (lk l j) a)(hrun:(execOp (eV (lk l j)) o).run P w= .ok (.defer q) w)
 (k:∀a,cP (q::Df) n (lk l j) a->wpList P ops Q rest a w):wpList P ops Q (o::rest) a w:=by
 refine xk hw ?_;unfold Oper.wp;rw[hr.eval,hrun,Oper.upon_defer,hd];exact k _ ⟨hr.size,hr.get,by show _::a.defers=_;rw[hr.defers]⟩
theorem YT{fn:Func}{c:Code}{R:Ending->World->Prop}(hf:P.funcs[f]? = some fn)(hb:fn.body=some c)(n:Nat)(hn:fn.ntmps=n)(hs:Nat.ble args.size n=true)
 (l:List (Nat×Value)) (hl:allEq (λt=>args.getD t undef) l) (k:∀j a,mF n (lk l j) a->c.wp P (bodyPostD P fn R) a w):Calls P f args w R:=by
 refine calls_of_wp_defers hf hb (k (λt=>args.getD t undef) _ ?_);rw[wj hl];refine⟨?_,λt=>Hr args _ t,rfl⟩;have:=pU hs;simp[hn];omega
end
open Go Go.RowKit SL
section
variable {P:Program}{w w0 w1 z:World}{a:Act}{o:Oper}{n d:Nat}{l:List (Nat×Value)}{j:Nat->Value}{L:List bu}{f:FuncId}{args:Array Value}{Q:Exit->Act->List Frame->World->Prop}{cs cs':List Frame}{Df:List Deferred}
theorem Tv{fn:Func}{c:Code}{u:FrameMode}{R:Ending->FrameMode->World->Prop}(hf:P.funcs[f]? = some fn)(hb:fn.body=some c)(n:Nat)(hn:fn.ntmps=n)(hs:Nat.ble args.size n=true)
 (l:List (Nat×Value)) (hl:allEq (λt=>args.getD t undef) l) (k:∀(c0:Frame) (cs:List Frame) j a,c0.mode=u->mF n (lk l j) a->c.wpS P (bodyPostS P fn c0 cs R) a (c0::cs) w):CallsD P f args u w R:=by
 refine callsD_of_wpS hf hb λc0 cs hu=>k c0 cs (λt=>args.getD t undef) _ hu ?_;rw[wj hl];refine⟨?_,λt=>Hr args _ t,rfl⟩;have:=pU hs;simp[hn];omega
theorem MA(hg:o.guard=none)(y:Nat->Option Bool):Region.wanted o y=true:=by simp[Region.wanted,hg]
theorem XT{S2:Nat}{y:Code}{v:Value}(hr:cP Df n (lk l j) a)(hv:recoverD cs=some (v,cs')∨recoverD cs=none/\v= .nilIface/\cs'=cs)(k:∀a,cP Df n (lk ((d,v)::l) j) a->y.wpS P Q a cs' w)
 (hg:o.guard=none) (hd:o.dst=some d) (hn:Nat.blt d n=true) (hrun:(execOp (eV (lk l j)) o).run P w= .ok .recover w):(Code.seq (.region S2 #[o] false) y).wpS P Q a cs w:=by
 refine wpS_seq (wpS_region ?_);have e:(List.range (#[o]:Array Oper).size)=[0]:=rfl;rw[e];simp only[wpOpsS,List.getElem?_toArray,List.getElem?_cons_zero];rw[MA hg,aM rfl,hr.eval,hrun];simp only;rcases hv with h | ⟨h,rfl,rfl⟩
 ·rw[h];simp only;rw[hd];exact k _ (hr.put d v hn)
 ·rw[h];simp only;rw[hd];exact k _ (hr.put d _ hn)
end
theorem We{z w:World}{L:List bu}{b:Nat}{x y k x0 y0 k0:Int}(h:Fit z (aG (pts b (.cells #[Z x0,Z y0,Z k0] 81)::L)) w) :
 CallsD Tryz.prog 87 #[.pointer (some ⟨b,0,none⟩)] (.panicking [{v:=.iface 171 (.agg #[Z x,Z y,Z k]),recovered:=false}]) w λe u' w'=>e= .returned (.tuple #[])/\u'= .panicking [{v:=.iface 171 (.agg #[Z x,Z y,Z k]),recovered:=true}]/\Fit z (aG (pts b (.cells #[Z x,Z y,Z k] 81)::L)) w':=by
 refine Tv Tryz.func87 rfl 12 rfl rfl [(0,pA b 0)] ⟨rfl,bU⟩ ?_;intro c0 cs j a hm hr;refine XT (v:=.iface 171 (.agg #[Z x,Z y,Z k])) (cs':={c0 with mode:=.panicking [{v:=.iface 171 (.agg #[Z x,Z y,Z k]),recovered:=true}]}::cs) hr (.inl (by simp[recoverD,hm])) ?_ rfl rfl rfl aY;clear hr a;intro a hr;refine wpS_of_wp ?_;refine wp_block ?_;refine sr ?_;refine o1 hr (vB false) λa hr => ?_;refine ln ?_;refine jb hr (b:=false) rfl ?_;refine sr ?_;refine oo [7,8,9] [.tuple #[.agg #[Z x,Z y,Z k],vB true],vB true,.agg #[Z x,Z y,Z k]] hr λa hr => ?_;refine ln ?_;refine hJ hr (b:=true) rfl ?_;refine sr ?_;refine YO (wn rfl) hr h nb (#[Z 0,Z 0,Z 0]) 171 λb2 w a h hr => ?_;refine YQ (wn rfl) hr h 0 ([Z x,Z y,Z k]) (pts b2 (.cells #[Z x,Z y,Z k] 171)) λw h => ?_;refine ln ?_;refine wp_region_lit ?_;refine o1 hr (pA b2 0) λa hr => ?_;refine ldm (wn rfl) hr (.agg #[Z x,Z y,Z k]) (cs:=[Z x,Z y,Z k]) (h.held 0 rfl) λa hr => ?_;replace h:=h.m1;refine YQ (wn rfl) hr h 0 ([Z x,Z y,Z k]) (pts b (.cells #[Z x,Z y,Z k] 81)) λw h => ?_;refine wpList_nil ?_;refine Hl ?_;exact⟨hr.defers,_,rfl,_,results_none rfl _ _ _,rfl,rfl,h.se 2 [0]⟩
theorem Wf{w:World}{b:Nat} :
 CallsD Tryz.prog 87 #[.pointer (some ⟨b,0,none⟩)] .returning w λe u' w'=>e= .returned (.tuple #[])/\u'= .returning/\w'=w:=by
 refine Tv Tryz.func87 rfl 12 rfl rfl [(0,pA b 0)] ⟨rfl,bU⟩ ?_;intro c0 cs j a hm hr;refine XT (v:=.nilIface) (cs':=c0::cs) hr (.inr ⟨by simp[recoverD,hm],rfl,rfl⟩) ?_ rfl rfl rfl aY;clear hr a;intro a hr;refine wpS_of_wp ?_;refine wp_block ?_;refine sr ?_;refine o1 hr (vB true) λa hr => ?_;refine ln ?_;refine hJ hr (b:=true) rfl ?_;refine wp_region_lit ?_;refine o1 hr (.nilIface) λa hr => ?_;refine wpList_nil ?_;refine Hl ?_;refine⟨hr.defers,c0.mode,rfl,_,results_none rfl _ _ _,rfl,hm,rfl⟩
section
variable {P:Program}{w z:World}{a:Act}{n:Nat}{e:Nat->Value}{Df:List Deferred}{L:List bu}
theorem abt{fn:Func}{t T b off:Nat}{cs:List Value}(hres:fn.results=#[.cell t T])(hr:cP Df n e a)(hv:e t= .pointer (some ⟨b,off,none⟩))(hu:uC (P.underlying T)=true)
 (hs:(P.info? T).map (·.size)=some cs.length) (hc:rm w b off cs):(results fn a.tmps).run P w= .ok (.agg cs.toArray) w:=by
 have hl:=run_loadCells_list (P:=P) w ⟨b,off,none⟩ cs (vH hc);cases hi:P.info? T with
 | none=>simp[hi]at hs
 | some q =>
  simp[hi]at hs;have hg:=hr.get t;rw[hv,yw]at hg;simp[results,hres,hg,asAddr,loadVar,uc hu,sizeOf,typeInfo,hi,hs,hl]
abbrev MB(b:Nat):Deferred:={target:=.fn (.func 87) #[.pointer (some ⟨b,0,none⟩)],args:=#[]}
theorem P2{b:Nat}{w:World}:(invoke (.fn (.func 87) #[.pointer (some ⟨b,0,none⟩)]) #[]).run Tryz.prog w= .ok (.enter 87 #[.pointer (some ⟨b,0,none⟩)]) w:=by kernel_rfl
theorem Ak{fn:Func}{R:Ending->World->Prop}{b t:Nat}{x y k:Int}(hr:cP [MB b] n e a)(hres:fn.results=#[.cell t 81])(hv:e t= .pointer (some ⟨b,0,none⟩))(h:Fit z (aG (pts b (.cells #[Z x,Z y,Z k] 81)::L)) w)
 (K:R (.returned (.agg #[Z x,Z y,Z k])) w):bodyPostD Tryz.prog fn R .ret a w:=by
 show Leaves Tryz.prog fn a.tmps R a.defers .returning w;rw[hr.defers];refine leaves_cons (by simp) P2 ?_;refine Wf.mono ?_
 rintro e u' w' ⟨rfl,rfl,rfl⟩
 exact⟨_,abt hres hr hv aY aY (h.held 0 (xs:=[Z x,Z y,Z k]) rfl),K⟩
theorem HK{fn:Func}{R:Ending->World->Prop}{b t:Nat}{x y k x0 y0 k0:Int}(hr:cP [MB b] n e a)(hres:fn.results=#[.cell t 81])(hv:e t= .pointer (some ⟨b,0,none⟩))(h:Fit z (aG (pts b (.cells #[Z x0,Z y0,Z k0] 81)::L)) w)
 (K:∀w,Fit z (aG (pts b (.cells #[Z x,Z y,Z k] 81)::L)) w->R (.returned (.agg #[Z x,Z y,Z k])) w):bodyPostD Tryz.prog fn R (.panic [{v:=.iface 171 (.agg #[Z x,Z y,Z k]),recovered:=false}]) a w:=by
 show Leaves Tryz.prog fn a.tmps R a.defers (.panicking [{v:=.iface 171 (.agg #[Z x,Z y,Z k]),recovered:=false}]) w;rw[hr.defers];refine leaves_cons (by simp) P2 ?_;refine(We h).mono ?_
 rintro e u' w' ⟨rfl,rfl,h⟩
 exact⟨_,abt hres hr hv aY aY (h.held 0 (xs:=[Z x,Z y,Z k]) rfl),K _ h⟩
end
def dn(o:Oper):Nat:=o.dst.getD 0
def D2(o:Oper)(n:Nat):Bool:=match o.dst with | some d=>o.guard.isNone&&Nat.blt d n | none=>false
def okg(o:Oper)(n:Nat):Bool:=match o.dst with | some d=>Nat.blt d n | none=>false
theorem P3{o:Oper}{n:Nat}(h:okg o n=true):o.dst=some (dn o)/\Nat.blt (dn o) n=true:=by
 unfold okg at h;unfold dn;cases hd:o.dst with
 | none=>rw[hd]at h;cases h
 | some d=>rw[hd]at h;exact⟨rfl,h⟩
theorem jY{o:Oper}{n:Nat}(h:D2 o n=true):(o.dst=some (dn o)/\Nat.blt (dn o) n=true)/\o.guard=none:=by
 unfold D2 at h;unfold dn;cases hd:o.dst with
 | none=>rw[hd]at h;cases h
 | some d =>
  rw[hd]at h;simp only[mE]at h;refine⟨⟨rfl,h.2⟩,?_⟩;cases hg:o.guard with
  | none=>rfl
  | some g=>rw[hg]at h;simp at h
def Wg:Nat->List Value->List (Nat×Value)
 | _,[]=>[]
 | k,v::vs=>(k,v)::Wg (k+1) vs
theorem P4(f:Nat->Value):∀(vs:List Value) (k:Nat),(∀i,i<vs.length->f (k+i)=vs.getD i undef)->allEq f (Wg k vs)
 | [],_,_=>trivial
 | v::vs,k,h=>⟨by have:=h 0 (by simp);simpa using this,P4 f vs (k+1) λi hi=>by
  have:=h (i+1) (by simpa using hi);rw[show k+(i+1)=k+1+i by omega]at this
  simpa using this⟩
section
variable {P:Program}{ops:Array Oper}{Q:Exit->Act->World->Prop}{a:Act}{w w0 w1:World}{rest:List Oper}{o:Oper}{n d t T:Nat}{v u:Value}{l:List (Nat×Value)}{j e:Nat->Value}{L:List bu}{Df:List Deferred}
theorem qe{f:FuncId}{fn:Func}{c:Code}{args:Array Value}{R:Ending->World->Prop}(hf:P.funcs[f]? = some fn)(n:Nat)(hb:fn.body=some c)
 (k:∀j a,mF n (lk (Wg 0 args.toList) j) a->c.wp P (bodyPost P fn R) a w) (hn:fn.ntmps=n:=by rfl) (hs:Nat.ble args.size n=true:=by rfl):Calls P f args w R:=
 enter hf hb n hn hs _ (P4 _ _ 0 λi hi=>by simp[yw,List.getD_eq_getElem?_getD]) k
theorem qo(hr:cP Df n (lk l j) a)(v:Value)(k:∀a,cP Df n (lk ((dn o,v)::l) j) a->wpList P ops Q rest a w)(ho:D2 o n=true:=by rfl)(hrun:(execOp (eV (lk l j)) o).run P w= .ok (.value v) w:=by kernel_rfl):wpList P ops Q (o::rest) a w:=
 Ae (wn (jY ho).2) (jY ho).1.1 (jY ho).1.2 hr hrun k
theorem qp(hr:cP Df n (lk l j) a)(v:Value)(hrun:(execOp (eV (lk l j)) o).run P w= .ok (.value v) w)(k:∀a,cP Df n (lk ((dn o,v)::l) j) a->wpList P ops Q rest a w)(ho:D2 o n=true:=by rfl):wpList P ops Q (o::rest) a w:=
 Ae (wn (jY ho).2) (jY ho).1.1 (jY ho).1.2 hr hrun k
theorem qpg(hw:vt o ops a)(hr:cP Df n (lk l j) a)(v:Value)(hrun:(execOp (eV (lk l j)) o).run P w= .ok (.value v) w)(k:∀a,cP Df n (lk ((dn o,v)::l) j) a->wpList P ops Q rest a w)(ho:okg o n=true:=by rfl):wpList P ops Q (o::rest) a w:=
 Ae hw (P3 ho).1 (P3 ho).2 hr hrun k
theorem qT{b:Bool}{c x y:Operand}(hb:b=true)(hr:cP Df n (lk l j) a)(v:Value)(k:∀a,cP Df n (lk ((dn o,v)::l) j) a->wpList P ops Q rest a w)(ho:D2 o n=true:=by rfl)(h1:o.op= .pick c x y:=by rfl)(h2:eV (lk l j) c= .bool b:=by kernel_rfl)(h3:eV (lk l j) x=v:=by kernel_rfl):wpList P ops Q (o::rest) a w:=
 qp hr v (IY h1 h2 hb h3) k ho
theorem qF{b:Bool}{c x y:Operand}(hb:b=false)(hr:cP Df n (lk l j) a)(v:Value)(k:∀a,cP Df n (lk ((dn o,v)::l) j) a->wpList P ops Q rest a w)(ho:D2 o n=true:=by rfl)(h1:o.op= .pick c x y:=by rfl)(h2:eV (lk l j) c= .bool b:=by kernel_rfl)(h3:eV (lk l j) y=v:=by kernel_rfl):wpList P ops Q (o::rest) a w:=
 qp hr v (IZ h1 h2 hb h3) k ho
theorem getD_some{cs:Array Value}{i:Nat}(h:Nat.blt i cs.size=true):cs[i]? = some (cs.getD i undef):=by
 have h':i<cs.size:=pU h;simp[yw,h']
theorem qL{b:Nat}{cs:Array Value}{T':TypeId}{q:Nat×Nat}{x:Operand}(hr:cP Df n (lk l j) a)(hF:Fit w0 (aG (pts b (.cells cs T' q)::L)) w)(i:Nat)(k:∀a,cP Df n (lk ((dn o,cs.getD i undef)::l) j) a->wpList P ops Q rest a w)
 (h1:D2 o n=true:=by rfl) (hi:Nat.blt i cs.size=true:=by rfl) (ho:o.op= .load T x:=by rfl) (hx:eV (lk l j) x= .pointer (some ⟨b,i,none⟩):=by kernel_rfl) (hu:xO (P.underlying T)=true:=by kernel_rfl):wpList P ops Q (o::rest) a w:=
 qp hr _ (rl ho hx hu (hF.cell i (getD_some hi))) k h1
theorem qLg{b:Nat}{cs:Array Value}{T':TypeId}{q:Nat×Nat}{x:Operand}(hw:vt o ops a)(hr:cP Df n (lk l j) a)(hF:Fit w0 (aG (pts b (.cells cs T' q)::L)) w)(i:Nat)(k:∀a,cP Df n (lk ((dn o,cs.getD i undef)::l) j) a->wpList P ops Q rest a w)
 (h1:okg o n=true:=by rfl) (hi:Nat.blt i cs.size=true:=by rfl) (ho:o.op= .load T x:=by rfl) (hx:eV (lk l j) x= .pointer (some ⟨b,i,none⟩):=by kernel_rfl) (hu:xO (P.underlying T)=true:=by kernel_rfl):wpList P ops Q (o::rest) a w:=
 qpg hw hr _ (rl ho hx hu (hF.cell i (getD_some hi))) k h1
theorem MC{cs:Array Value}:(cs.toList.drop 0).take cs.toList.length=cs.toList:=by rw[pW];exact List.take_length
theorem qM{b:Nat}{cs:Array Value}{T':TypeId}{q:Nat×Nat}{x:Operand}(hr:cP Df n (lk l j) a)(hF:Fit w0 (aG (pts b (.cells cs T' q)::L)) w)(k:∀a,cP Df n (lk ((dn o,.agg cs)::l) j) a->wpList P ops Q rest a w)
 (h1:D2 o n=true:=by rfl) (ho:o.op= .load T x:=by rfl) (hx:eV (lk l j) x= .pointer (some ⟨b,0,none⟩):=by kernel_rfl) (hu:uC (P.underlying T)=true:=by kernel_rfl) (hs:(P.info? T).map (·.size)=some cs.size:=by kernel_rfl):wpList P ops Q (o::rest) a w:=
 qp hr _ (by have:=rlm (P:=P) (o:=o) (e:=lk l j) ho hx hu (by rw[vy];exact hs) (hF.held 0 MC);simpa using this) k h1
theorem qN(hr:cP Df n (lk l j) a)(hF:Fit w0 (aG L) w)(cs:Array Value)(T:TypeId)
 (k:∀b w1 a,Fit w0 (aG (pts b (.cells cs T)::L)) w1->cP Df n (lk ((dn o,pA b 0)::l) j) a->wpList P ops Q rest a w1) (h1:D2 o n=true:=by rfl) (hrun:(execOp (eV (lk l j)) o).run P w= .ok (.value (pA w.heap.size 0)) (w.alloc (.cells cs T)):=by kernel_rfl):wpList P ops Q (o::rest) a w:=
 N9 (vf:=λb=>pA b 0) (wn (jY h1).2) (jY h1).1.1 (jY h1).1.2 hr hF hrun k
theorem qV(hr:cP Df n (lk l j) a)(hF:Fit w0 (aG L) w)(cs:Array Value)(T:TypeId)
 (k:∀b w1 a,Fit w0 (aG (pts b (.cells cs T)::L)) w1->cP Df n (lk ((dn o,.slice (some ⟨b,0,none⟩) 1 1)::l) j) a->wpList P ops Q rest a w1) (h1:D2 o n=true:=by rfl) (hrun:(execOp (eV (lk l j)) o).run P w= .ok (.value (.slice (some ⟨w.heap.size,0,none⟩) 1 1)) (w.alloc (.cells cs T)):=by kernel_rfl):wpList P ops Q (o::rest) a w:=
 N9 (vf:=λb=>.slice (some ⟨b,0,none⟩) 1 1) (wn (jY h1).2) (jY h1).1.1 (jY h1).1.2 hr hF hrun k
theorem qS{x y:Operand}{b:Nat}{cs:Array Value}{T':TypeId}(hr:cP Df n (lk l j) a)(hF:Fit w0 (aG (pts b (.cells cs T')::L)) w)(i:Nat)(A:bu)
 (k:∀w1,Fit w0 (aG (A::L)) w1->wpList P ops Q rest a w1) (hg:o.guard=none:=by rfl) (hd:o.dst=none:=by rfl) (ho:o.op= .store T x y:=by rfl) (hx:eV (lk l j) x= .pointer (some ⟨b,i,none⟩):=by kernel_rfl)
 (hv:(eV (lk l j) y).cells=#[eV (lk l j) y]:=by kernel_rfl) (h1:(eV (lk l j) y).oneCell'=true:=by kernel_rfl) (hs:(P.info? T).map (·.size)=some 1:=by kernel_rfl) (hc:(cs[i]?).isSome=true:=by kernel_rfl) (hA:pts b (.cells (cs.setIfInBounds i (eV (lk l j) y)) T')=A:=by kernel_rfl):wpList P ops Q (o::rest) a w:=
 st1 (wn hg) hr hF i _ A k hd ho hx rfl hv h1 hs hc hA
theorem qA{x y:Operand}{b:Nat}{cs cs':Array Value}{T':TypeId}(hr:cP Df n (lk l j) a)(hF:Fit w0 (aG (pts b (.cells cs T')::L)) w)(A:bu)
 (k:∀w1,Fit w0 (aG (A::L)) w1->wpList P ops Q rest a w1) (hA:pts b (.cells cs' T')=A:=by rfl) (hg:o.guard=none:=by rfl) (hd:o.dst=none:=by rfl) (ho:o.op= .store T x y:=by rfl) (hx:eV (lk l j) x= .pointer (some ⟨b,0,none⟩):=by kernel_rfl) (hy:eV (lk l j) y= .agg cs':=by kernel_rfl)
 (h1:cs'.toList.all (·.oneCell')=true:=by rfl) (h2:cs'.size=cs.size:=by rfl) (hs:(P.info? T).map (·.size)=some cs'.size:=by kernel_rfl):wpList P ops Q (o::rest) a w:=by
 refine YQ (wn hg) hr hF 0 cs'.toList A k hd ho hx (by simpa using hy) h1 (by simp[h2]) (by simpa using hs) ?_;subst hA;have:cs.toList.drop (0+cs'.toList.length)=[]:=by simp[h2]
 rw[this];simp
theorem qi{x y:Operand}{i:Int}{α:Type}{E:TypeId}{sz m cc:Nat}{enc:α->List Value}{xs:List α}{ca:gF}(hr:cP Df n (lk l j) a)(hF:Fit w0 (aG (rowOf E sz enc (.slice ca m cc) xs::L)) w)(hi:bM i xs.length)
 (k:∀a,cP Df n (lk ((dn o,pA (dR ca) (i.toNat*sz))::l) j) a->wpList P ops Q rest a w) (h1:D2 o n=true:=by rfl) (ho:o.op= .indexAddr t x y:=by rfl) (hx:eV (lk l j) x= .slice ca m cc:=by kernel_rfl) (hy:eV (lk l j) y= .int .i64 i:=by kernel_rfl)
 (ht:P.underlying t=some (.slice E):=by kernel_rfl) (hs:(P.info? E).map (·.size)=some sz:=by kernel_rfl):wpList P ops Q (o::rest) a w:=qp hr _ (Ah ho hx hy ht hs hF hi) k h1
theorem qj{x y:Operand}{i:Int}{α:Type}[Inhabited α]{sz:Nat}{enc:α->List Value}{xs:List α}{va:gF}{L:List bu}(E:TypeId)(cc:Nat)(hr:cP Df n (lk l j) a)(hF:cx L sz enc va xs)(hi:bM i xs.length)
 (k:∀a,cP Df n (lk ((dn o,pA (dR va) (kz va+i.toNat*sz))::l) j) a->wpList P ops Q rest a w) (h1:D2 o n=true:=by rfl) (ho:o.op= .indexAddr t x y:=by rfl) (hx:eV (lk l j) x= .slice va xs.length cc:=by kernel_rfl) (hy:eV (lk l j) y= .int .i64 i:=by kernel_rfl)
 (ht:P.underlying t=some (.slice E):=by kernel_rfl) (hs:(P.info? E).map (·.size)=some sz:=by kernel_rfl):wpList P ops Q (o::rest) a w:=qp hr _ (XM ho hx hy rfl ht hs hF hi) k h1
section
variable {fn:Func}{R:Ending->World->Prop}
theorem qC{t T b:Nat}{cs:Array Value}{T':TypeId}{q:Nat×Nat}(hr:mF n e a)(hF:Fit w0 (aG (pts b (.cells cs T' q)::L)) w)(h:R (.returned (.agg cs)) w)(hres:fn.results=#[.cell t T]:=by rfl)(hv:e t= .pointer (some ⟨b,0,none⟩):=by kernel_rfl)(hu:uC (P.underlying T)=true:=by kernel_rfl)
 (hs:(P.info? T).map (·.size)=some cs.size:=by kernel_rfl):bodyPost P fn R .ret a w:=
 SQ (cs:=cs.toList) hres hr hv hu (by simpa using hs) (hF.held 0 MC) (by simpa using h)
theorem qn(hr:mF n e a)(h:R (.returned (.tuple #[])) w)(hres:fn.results=#[]:=by rfl):bodyPost P fn R .normal a w:=qb hres hr h
end
end
theorem nT{b:Bool}(h:b=true):(!b)=false:=by rw[h];rfl
theorem nF{b:Bool}(h:¬b=true):(!b)=true:=by cases b<;>first | rfl | exact absurd rfl h
theorem dT{p:Prop}[Decidable p](h:p):decide p=true:=tJ h
theorem dF{p:Prop}[Decidable p](h:¬p):decide p=false:=JS h
theorem bN{α:Type}[DecidableEq α]{a b:α}(h:¬a=b):(a==b)=false:=beq_eq_false_iff_ne.mpr h
section
variable {afV:Prop}
theorem qh{A:Prop}(x:A)(k:A->afV):afV:=k x
theorem qg{γ:Type}{p:Prop}[Decidable p]{x:Option γ}{r:γ}(h:(if p then x else none)=some r)(k:p->x=some r->afV):afV:=k (gd h).1 (gd h).2
theorem qI{γ:Type}{p:Prop}[Decidable p]{x y:Option γ}{r:γ}(h:(if p then x else y)=some r)(k1:p->x=some r->afV)(k2:¬p->y=some r->afV):afV:=by
 by_cases c:p
 ·exact k1 c (ifT c h)
 ·exact k2 c (ifF c h)
theorem YU{γ:Type}{o:Option (Unit)}{f:Option γ}{r:γ}(h:Ob o f=some r)(k:o=some ()->f=some r->afV):afV:=by
 obtain⟨e,h⟩:=bd0 h;exact k e h
theorem qd0{γ:Type}{o:Option (Unit)}{f:Option γ}{r:γ}(h:Ob o f=some r)(k:∀o',o=some o'->kc0 o' f r->afV):afV:=by
 obtain⟨_,e,h⟩:=kd0 h;exact k _ e h
theorem gg{dr:Type}{γ:Type}{o:Option (dr)}{f:dr->Option γ}{r:γ}(h:eA o f=some r)(k:∀x0,o=some x0->f x0=some r->afV):afV:=by
 obtain⟨x0,e,h⟩:=bd1 h;exact k _ e h
theorem HM{dr:Type}{γ:Type}{o:Option (dr)}{f:dr->Option γ}{r:γ}(h:eA o f=some r)(k:∀o',o=some o'->kc1 o' f r->afV):afV:=by
 obtain⟨_,e,h⟩:=kd1 h;exact k _ e h
theorem w7{dr eB:Type}{γ:Type}{o:Option (dr×eB)}{f:dr->eB->Option γ}{r:γ}(h:tL o f=some r)(k:∀x0 x1,o=some (x0,x1)->f x0 x1=some r->afV):afV:=by
 obtain⟨x0,x1,e,h⟩:=bd2 h;exact k _ _ e h
theorem qd2{dr eB:Type}{γ:Type}{o:Option (dr×eB)}{f:dr->eB->Option γ}{r:γ}(h:tL o f=some r)(k:∀o',o=some o'->kc2 o' f r->afV):afV:=by
 obtain⟨_,e,h⟩:=kd2 h;exact k _ e h
theorem uN{dr eB fD:Type}{γ:Type}{o:Option (dr×eB×fD)}{f:dr->eB->fD->Option γ}{r:γ}(h:ql o f=some r)(k:∀x0 x1 x2,o=some (x0,x1,x2)->f x0 x1 x2=some r->afV):afV:=by
 obtain⟨x0,x1,x2,e,h⟩:=bd3 h;exact k _ _ _ e h
theorem qd3{dr eB fD:Type}{γ:Type}{o:Option (dr×eB×fD)}{f:dr->eB->fD->Option γ}{r:γ}(h:ql o f=some r)(k:∀o',o=some o'->kc3 o' f r->afV):afV:=by
 obtain⟨_,e,h⟩:=kd3 h;exact k _ e h
theorem Ok{dr eB fD gT:Type}{γ:Type}{o:Option (dr×eB×fD×gT)}{f:dr->eB->fD->gT->Option γ}{r:γ}(h:II o f=some r)(k:∀x0 x1 x2 x3,o=some (x0,x1,x2,x3)->f x0 x1 x2 x3=some r->afV):afV:=by
 obtain⟨x0,x1,x2,x3,e,h⟩:=bd4 h;exact k _ _ _ _ e h
theorem qb5{dr eB fD gT iO:Type}{γ:Type}{o:Option (dr×eB×fD×gT×iO)}{f:dr->eB->fD->gT->iO->Option γ}{r:γ}(h:ob5 o f=some r)(k:∀x0 x1 x2 x3 x4,o=some (x0,x1,x2,x3,x4)->f x0 x1 x2 x3 x4=some r->afV):afV:=by
 obtain⟨x0,x1,x2,x3,x4,e,h⟩:=bd5 h;exact k _ _ _ _ _ e h
end
abbrev KK(D:List Deferred)(n:Nat)(l:List (Nat×Value))(j:Nat->Value)(X:Act->World->Prop)(w:World):Prop:=∀a,cP D n (lk l j) a->X a w
abbrev U:Value:=.complex .f32 0 0
def sel(v x:Value):Value:=match v with | .complex _ _ _=>x | v=>v
def av(P:Program)(o:Oper)(e:Nat->Value):Value:=match (execOp (eV e) o).run P default with | .ok (.value v) _=>v | _=>U
def adA(P:Program)(j:Nat->Value):List Oper->List Value->List (Nat×Value)->List (Nat×Value)
 | o::os,v::vs,l=>adA P j os vs ((dn o,sel v (av P o (lk l j)))::l)
 | _,_,l=>l
def YV(P:Program)(n:Nat)(j:Nat->Value)(w:World):List Oper->List Value->List (Nat×Value)->List (Bool×Result Next)
 | o::os,v::vs,l=>(D2 o n,(execOp (eV (lk l j)) o).run P w)::YV P n j w os vs ((dn o,sel v (av P o (lk l j)))::l)
 | [],_::_,_=>[(false,.ok .skip w)]
 | _,[],_=>[]
def YW(P:Program)(j:Nat->Value)(w:World):List Oper->List Value->List (Nat×Value)->List (Bool×Result Next)
 | o::os,v::vs,l=>(true,.ok (.value (sel v (av P o (lk l j)))) w)::YW P j w os vs ((dn o,sel v (av P o (lk l j)))::l)
 | [],_::_,_=>[(true,.ok .skip w)]
 | _,[],_=>[]
def gx(ops:Array Oper)(n:Nat)(e:Nat->Value)(o:Oper):Option (Bool×Option (Bool×Value)):=o.guard.map (λg=>(g.2,((ops[g.1]?).bind (·.dst)).map λt=>(Nat.blt t n,e t)))
section
variable {P:Program}{ops:Array Oper}{Q:Exit->Act->World->Prop}{a:Act}{w w0 w1:World}{rest:List Oper}{o:Oper}{n d t T:Nat}{v u:Value}{l:List (Nat×Value)}{j e:Nat->Value}{L:List bu}{Df:List Deferred}{X:Act->World->Prop}
theorem qq(hr:cP Df n (lk l j) a)(k:KK Df n l j X w):X a w:=k a hr
theorem kwg{x c:Bool}(hr:cP Df n (lk l j) a)(pf:x=c)(hg:gx ops n (lk l j) o=some (c,some (true,.bool x))):Region.wanted o (yielded ops a.tmps)=true:=by
 rw[wgx (i:=0) hr pf hg];cases c<;>rfl
theorem ke{f:FuncId}{fn:Func}{c:Code}{args:Array Value}{R:Ending->World->Prop}(hf:P.funcs[f]? = some fn)(n:Nat)(hb:fn.body=some c)
 (k:∀j,KK [] n (Wg 0 args.toList) j (c.wp P (bodyPost P fn R)) w) (hn:fn.ntmps=n:=by rfl) (hs:Nat.ble args.size n=true:=by rfl):Calls P f args w R:=qe hf n hb (λj a r=>k j a r) hn hs
theorem ks{S2:Nat}{y:Code}{os:List Oper}(h:KK Df n l j (wpList P os.toArray (Exit.then (y.wp P Q) Q) os) w):KK Df n l j ((Code.seq (.region S2 os.toArray false) y).wp P Q) w:=λa r=>sr (h a r)
theorem G{K:Act->World->Prop}(h:KK Df n l j K w):KK Df n l j (wpList P ops (Exit.then K Q) []) w:=λa r=>ln (h a r)
theorem wq{x y:Code}(h:KK Df n l j (x.wp P (Exit.then (y.wp P Q) Q)) w):KK Df n l j ((Code.seq x y).wp P Q) w:=λa r=>wp_seq (h a r)
theorem wl{S2:Nat}{os:List Oper}(h:KK Df n l j (wpList P os.toArray Q os) w):KK Df n l j ((Code.region S2 os.toArray false).wp P Q) w:=λa r=>wp_region_lit (h a r)
theorem wk(h:KK Df n l j (Q .normal) w):KK Df n l j (Code.skip.wp P Q) w:=λa r=>wp_skip (h a r)
theorem wr(h:KK Df n l j (Q .ret) w):KK Df n l j (Code.ret.wp P Q) w:=λa r=>wp_ret (h a r)
theorem wx{i:Nat}(h:KK Df n l j (Q (.exit i)) w):KK Df n l j ((Code.exit i).wp P Q) w:=λa r=>wp_exit (h a r)
theorem wb{i:Nat}{c:Code}(h:KK Df n l j (c.wp P (Exit.inBlock i Q)) w):KK Df n l j ((Code.block i c).wp P Q) w:=λa r=>wp_block (h a r)
theorem tn{K:Act->World->Prop}(h:KK Df n l j K w):KK Df n l j (Exit.then K Q .normal) w:=h
theorem tr{K:Act->World->Prop}(h:KK Df n l j (Q .ret) w):KK Df n l j (Exit.then K Q .ret) w:=h
theorem te{K:Act->World->Prop}{i:Nat}(h:KK Df n l j (Q (.exit i)) w):KK Df n l j (Exit.then K Q (.exit i)) w:=h
theorem bn{i:Nat}(h:KK Df n l j (Q .normal) w):KK Df n l j (Exit.inBlock i Q .normal) w:=h
theorem br{i:Nat}(h:KK Df n l j (Q .ret) w):KK Df n l j (Exit.inBlock i Q .ret) w:=h
theorem bh{i:Nat}(h:KK Df n l j (Q .normal) w):KK Df n l j (Exit.inBlock i Q (.exit i)) w:=λa r=>SP (h a r)
theorem kl(h:KK Df n l j (Q .normal) w):KK Df n l j (wpList P ops Q []) w:=λa r=>wpList_nil (h a r)
theorem ko:∀(vs:List Value) {os:List Oper} {l:List (Nat×Value)} (k:KK Df n (adA P j os vs l) j (wpList P ops Q (os.drop vs.length)) w) (hrun:YV P n j w os vs l=YW P j w os vs l:=by kernel_rfl),KK Df n l j (wpList P ops Q os) w
 | [],os,l,k,_=>by cases os<;>exact k
 | v::vs,[],l,k,hrun=>by simp[YV,YW]at hrun
 | v::vs,o::os,l,k,hrun=>by
  simp only[YV,YW,List.cons.injEq,Prod.mk.injEq]at hrun;obtain⟨⟨h1,h2⟩,h3⟩:=hrun;exact λa hr=>qo hr _ (λa hr=>ko vs k h3 a hr) h1 h2
theorem kp(v:Value)(hrun:(execOp (eV (lk l j)) o).run P w= .ok (.value v) w)(k:KK Df n ((dn o,v)::l) j (wpList P ops Q rest) w)(ho:D2 o n=true:=by rfl):KK Df n l j (wpList P ops Q (o::rest)) w:=λa hr=>qp hr v hrun k ho
theorem oM{b:Bool}(hb:b=true)(v:Value)(k:KK Df n ((dn o,v)::l) j (wpList P ops Q rest) w){c x y:Operand}(ho:D2 o n=true:=by rfl)(h1:o.op= .pick c x y:=by rfl)(h2:eV (lk l j) c= .bool b:=by kernel_rfl)(h3:eV (lk l j) x=v:=by kernel_rfl):KK Df n l j (wpList P ops Q (o::rest)) w:=λa hr=>qT hb hr v k ho h1 h2 h3
theorem oG{b:Bool}(hb:b=false)(v:Value)(k:KK Df n ((dn o,v)::l) j (wpList P ops Q rest) w){c x y:Operand}(ho:D2 o n=true:=by rfl)(h1:o.op= .pick c x y:=by rfl)(h2:eV (lk l j) c= .bool b:=by kernel_rfl)(h3:eV (lk l j) y=v:=by kernel_rfl):KK Df n l j (wpList P ops Q (o::rest)) w:=λa hr=>qF hb hr v k ho h1 h2 h3
theorem kL{b:Nat}{cs:Array Value}{T':TypeId}{q:Nat×Nat}{x:Operand}(hF:Fit w0 (aG (pts b (.cells cs T' q)::L)) w)(i:Nat)(k:KK Df n ((dn o,cs.getD i undef)::l) j (wpList P ops Q rest) w)
 (h1:D2 o n=true:=by rfl) (hi:Nat.blt i cs.size=true:=by rfl) (ho:o.op= .load T x:=by rfl) (hx:eV (lk l j) x= .pointer (some ⟨b,i,none⟩):=by kernel_rfl) (hu:xO (P.underlying T)=true:=by kernel_rfl):KK Df n l j (wpList P ops Q (o::rest)) w:=λa hr=>qL hr hF i k h1 hi ho hx hu
theorem vL{c' x':Bool}{b:Nat}{cs:Array Value}{T':TypeId}{q:Nat×Nat}{x:Operand}(pf:x'=c')(hF:Fit w0 (aG (pts b (.cells cs T' q)::L)) w)(i:Nat)(k:KK Df n ((dn o,cs.getD i undef)::l) j (wpList P ops Q rest) w)
 (hg:gx ops n (lk l j) o=some (c',some (true,.bool x')):=by kernel_rfl) (h1:okg o n=true:=by rfl) (hi:Nat.blt i cs.size=true:=by rfl) (ho:o.op= .load T x:=by rfl) (hx:eV (lk l j) x= .pointer (some ⟨b,i,none⟩):=by kernel_rfl) (hu:xO (P.underlying T)=true:=by kernel_rfl):KK Df n l j (wpList P ops Q (o::rest)) w:=λa hr=>qLg (kwg hr pf hg) hr hF i k h1 hi ho hx hu
theorem kM{b:Nat}{cs:Array Value}{T':TypeId}{q:Nat×Nat}{x:Operand}(hF:Fit w0 (aG (pts b (.cells cs T' q)::L)) w)(k:KK Df n ((dn o,.agg cs)::l) j (wpList P ops Q rest) w)
 (h1:D2 o n=true:=by rfl) (ho:o.op= .load T x:=by rfl) (hx:eV (lk l j) x= .pointer (some ⟨b,0,none⟩):=by kernel_rfl) (hu:uC (P.underlying T)=true:=by kernel_rfl) (hs:(P.info? T).map (·.size)=some cs.size:=by kernel_rfl):KK Df n l j (wpList P ops Q (o::rest)) w:=λa hr=>qM hr hF k h1 ho hx hu hs
theorem kN(hF:Fit w0 (aG L) w)(cs:Array Value)(T:TypeId)
 (k:∀b w1,Fit w0 (aG (pts b (.cells cs T)::L)) w1->KK Df n ((dn o,pA b 0)::l) j (wpList P ops Q rest) w1) (h1:D2 o n=true:=by rfl) (hrun:(execOp (eV (lk l j)) o).run P w= .ok (.value (pA w.heap.size 0)) (w.alloc (.cells cs T)):=by kernel_rfl):KK Df n l j (wpList P ops Q (o::rest)) w:=λa hr=>qN hr hF cs T (λb w a h r=>k b w h a r) h1 hrun
theorem kV(hF:Fit w0 (aG L) w)(cs:Array Value)(T:TypeId)
 (k:∀b w1,Fit w0 (aG (pts b (.cells cs T)::L)) w1->KK Df n ((dn o,.slice (some ⟨b,0,none⟩) 1 1)::l) j (wpList P ops Q rest) w1) (h1:D2 o n=true:=by rfl) (hrun:(execOp (eV (lk l j)) o).run P w= .ok (.value (.slice (some ⟨w.heap.size,0,none⟩) 1 1)) (w.alloc (.cells cs T)):=by kernel_rfl):KK Df n l j (wpList P ops Q (o::rest)) w:=λa hr=>qV hr hF cs T (λb w a h r=>k b w h a r) h1 hrun
theorem kS{x y:Operand}{b:Nat}{cs:Array Value}{T':TypeId}(hF:Fit w0 (aG (pts b (.cells cs T')::L)) w)(i:Nat)(A:bu)
 (k:∀w1,Fit w0 (aG (A::L)) w1->KK Df n l j (wpList P ops Q rest) w1) (hg:o.guard=none:=by rfl) (hd:o.dst=none:=by rfl) (ho:o.op= .store T x y:=by rfl) (hx:eV (lk l j) x= .pointer (some ⟨b,i,none⟩):=by kernel_rfl)
 (hv:(eV (lk l j) y).cells=#[eV (lk l j) y]:=by kernel_rfl) (h1:(eV (lk l j) y).oneCell'=true:=by kernel_rfl) (hs:(P.info? T).map (·.size)=some 1:=by kernel_rfl) (hc:(cs[i]?).isSome=true:=by kernel_rfl) (hA:pts b (.cells (cs.setIfInBounds i (eV (lk l j) y)) T')=A:=by kernel_rfl):KK Df n l j (wpList P ops Q (o::rest)) w:=λa hr=>qS hr hF i A (λw h=>k w h a hr) hg hd ho hx hv h1 hs hc hA
theorem kA{x y:Operand}{b:Nat}{cs cs':Array Value}{T':TypeId}(hF:Fit w0 (aG (pts b (.cells cs T')::L)) w)(A:bu)
 (k:∀w1,Fit w0 (aG (A::L)) w1->KK Df n l j (wpList P ops Q rest) w1) (hA:pts b (.cells cs' T')=A:=by rfl) (hg:o.guard=none:=by rfl) (hd:o.dst=none:=by rfl) (ho:o.op= .store T x y:=by rfl) (hx:eV (lk l j) x= .pointer (some ⟨b,0,none⟩):=by kernel_rfl) (hy:eV (lk l j) y= .agg cs':=by kernel_rfl)
 (h1:cs'.toList.all (·.oneCell')=true:=by rfl) (h2:cs'.size=cs.size:=by rfl) (hs:(P.info? T).map (·.size)=some cs'.size:=by kernel_rfl):KK Df n l j (wpList P ops Q (o::rest)) w:=λa hr=>qA hr hF A (λw h=>k w h a hr) hA hg hd ho hx hy h1 h2 hs
theorem ki{x y:Operand}{i:Int}{α:Type}{E:TypeId}{sz m cc:Nat}{enc:α->List Value}{xs:List α}{ca:gF}(hF:Fit w0 (aG (rowOf E sz enc (.slice ca m cc) xs::L)) w)(hi:bM i xs.length)
 (k:KK Df n ((dn o,pA (dR ca) (i.toNat*sz))::l) j (wpList P ops Q rest) w) (h1:D2 o n=true:=by rfl) (ho:o.op= .indexAddr t x y:=by rfl) (hx:eV (lk l j) x= .slice ca m cc:=by kernel_rfl) (hy:eV (lk l j) y= .int .i64 i:=by kernel_rfl)
 (ht:P.underlying t=some (.slice E):=by kernel_rfl) (hs:(P.info? E).map (·.size)=some sz:=by kernel_rfl):KK Df n l j (wpList P ops Q (o::rest)) w:=λa hr=>qi hr hF hi k h1 ho hx hy ht hs
theorem kj{x y:Operand}{i:Int}{α:Type}[Inhabited α]{sz:Nat}{enc:α->List Value}{xs:List α}{va:gF}{L:List bu}(E:TypeId)(cc:Nat)(hF:cx L sz enc va xs)(hi:bM i xs.length)
 (k:KK Df n ((dn o,pA (dR va) (kz va+i.toNat*sz))::l) j (wpList P ops Q rest) w) (h1:D2 o n=true:=by rfl) (ho:o.op= .indexAddr t x y:=by rfl) (hx:eV (lk l j) x= .slice va xs.length cc:=by kernel_rfl) (hy:eV (lk l j) y= .int .i64 i:=by kernel_rfl)
 (ht:P.underlying t=some (.slice E):=by kernel_rfl) (hs:(P.info? E).map (·.size)=some sz:=by kernel_rfl):KK Df n l j (wpList P ops Q (o::rest)) w:=λa hr=>qj E cc hr hF hi k h1 ho hx hy ht hs
theorem cW{x c:Bool}(pf:x=c)(ds:List Nat)(vs:List Value){os:List Oper}(k:KK Df n (SW ds vs l) j (wpList P ops Q (os.drop ds.length)) w)
 (hl:ds.length=vs.length/\ds.all (λd=>Nat.blt d n)=true:=by exact⟨rfl,rfl⟩) (hrun:Tb P ops n (os.take ds.length) vs l j w=Ms x c ds vs w:=by kernel_rfl):KK Df n l j (wpList P ops Q os) w:=λa hr=>onl pf ds vs hr k hl hrun
theorem cu{x c:Bool}(pf:x=c)(ds:List Nat){os:List Oper}(k:KK Df n (Tc ds l) j (wpList P ops Q (os.drop ds.length)) w)
 (hl:ds.all (λd=>Nat.blt d n)=true:=by rfl) (hrun:Kw ops n (os.take ds.length) l j=Eh (!c) (.bool x) ds:=by kernel_rfl):KK Df n l j (wpList P ops Q os) w:=λa hr=>abo pf ds hr k hl hrun
theorem J8(b:Bool)(ds:List Nat){os:List Oper}(k:KK Df n (Tc ds l) j (wpList P ops Q (os.drop ds.length)) w)
 (hl:ds.all (λd=>Nat.blt d n)=true:=by rfl) (hrun:Kw ops n (os.take ds.length) l j=Eh b undef ds:=by kernel_rfl):KK Df n l j (wpList P ops Q os) w:=λa hr=>abp b ds hr k hl hrun
section
variable {β:Type}{p:Prop}[Decidable p]{X afT r:Option β}{c:Operand}{x y:Code}
theorem dQ(H:(if p then X else afT)=r)(k1:p->X=r->KK Df n l j (x.wp P Q) w)(k2:¬p->afT=r->KK Df n l j (y.wp P Q) w)(hc:eV (lk l j) c= .bool (decide p):=by kernel_rfl):KK Df n l j ((Code.cond c x y).wp P Q) w:=λa hr=>cD hr H (λc h=>k1 c h a hr) (λc h=>k2 c h a hr) hc
theorem rU(H:(if p then X else afT)=r)(k1:p->X=r->KK Df n l j (y.wp P Q) w)(k2:¬p->afT=r->KK Df n l j (x.wp P Q) w)(hc:eV (lk l j) c= .bool (!decide p):=by kernel_rfl):KK Df n l j ((Code.cond c x y).wp P Q) w:=λa hr=>cN hr H (λc h=>k1 c h a hr) (λc h=>k2 c h a hr) hc
theorem FZ{b:Bool}(H:(if b=true then X else afT)=r)(k1:b=true->X=r->KK Df n l j (x.wp P Q) w)(k2:¬b=true->afT=r->KK Df n l j (y.wp P Q) w)(hc:eV (lk l j) c= .bool b:=by kernel_rfl):KK Df n l j ((Code.cond c x y).wp P Q) w:=λa hr=>cV hr H (λc h=>k1 c h a hr) (λc h=>k2 c h a hr) hc
theorem IJ{b:Bool}(H:(if b=true then X else afT)=r)(k1:b=true->X=r->KK Df n l j (y.wp P Q) w)(k2:¬b=true->afT=r->KK Df n l j (x.wp P Q) w)(hc:eV (lk l j) c= .bool (!b):=by kernel_rfl):KK Df n l j ((Code.cond c x y).wp P Q) w:=λa hr=>cM hr H (λc h=>k1 c h a hr) (λc h=>k2 c h a hr) hc
end
section
variable {f:FuncId}{args:Array Value}{fn:Func}
theorem fe{V:Value}{afV:World->Prop}(hc:Calls P f args w λe w=>e= .returned V/\afV w)(k:∀w,afV w->KK Df n ((dn o,V)::l) j (wpList P ops Q rest) w)(h1:D2 o n=true:=by rfl)(hrun:(execOp (eV (lk l j)) o).run P w= .ok (.enter f args) w:=by kernel_rfl):KK Df n l j (wpList P ops Q (o::rest)) w:=λa hr =>
 uY (wn (jY h1).2) (jY h1).1.1 (jY h1).1.2 hr hrun hc λe w h=>by obtain⟨rfl,h⟩:=h;exact⟨_,rfl,k w h⟩
theorem YX{V:Value}{afV:World->Prop}{x c:Bool}(pf:x=c)(hc:Calls P f args w λe w=>e= .returned V/\afV w)(k:∀w,afV w->KK Df n ((dn o,V)::l) j (wpList P ops Q rest) w)(h1:okg o n=true:=by rfl)(hg:gx ops n (lk l j) o=some (c,some (true,.bool x)):=by kernel_rfl)(hrun:(execOp (eV (lk l j)) o).run P w= .ok (.enter f args) w:=by kernel_rfl):KK Df n l j (wpList P ops Q (o::rest)) w:=λa hr =>
 uY (kwg hr pf hg) (P3 h1).1 (P3 h1).2 hr hrun hc λe w h=>by obtain⟨rfl,h⟩:=h;exact⟨_,rfl,k w h⟩
theorem HN{V:Value}{afV:World->Prop}(h:afV w)(hres:fn.results=#[]:=by rfl)(hv: .tuple #[]=V:=by kernel_rfl):KK [] n l j (bodyPost P fn (λe w=>e= .returned V/\afV w) .normal) w:=λa hr =>
 qb hres hr ⟨by rw[hv],h⟩
theorem fX{V:Value}{afV:World->Prop}{t0:Nat}(h:afV w)(hres:fn.results=#[.tmp t0]:=by rfl)(hv:lk l j t0=V:=by kernel_rfl):KK [] n l j (bodyPost P fn (λe w=>e= .returned V/\afV w) .ret) w:=λa hr =>
 zp hres hr rfl ⟨by rw[hv],h⟩
theorem KB{V:Value}{afV:World->Prop}{t0 t1:Nat}(h:afV w)(hres:fn.results=#[.tmp t0,.tmp t1]:=by rfl)(hv: .tuple #[lk l j t0,lk l j t1]=V:=by kernel_rfl):KK [] n l j (bodyPost P fn (λe w=>e= .returned V/\afV w) .ret) w:=λa hr =>
 Ec hres hr rfl rfl ⟨by rw[hv],h⟩
theorem xc1{xD:Type}{V:xD->Value}{afV:xD->World->Prop}(hc:Calls P f args w λe w =>∃x0,e= .returned (V x0)/\afV x0 w)(k:∀x0 w,afV x0 w->KK Df n ((dn o,(V x0))::l) j (wpList P ops Q rest) w)(h1:D2 o n=true:=by rfl)(hrun:(execOp (eV (lk l j)) o).run P w= .ok (.enter f args) w:=by kernel_rfl):KK Df n l j (wpList P ops Q (o::rest)) w:=λa hr =>
 uY (wn (jY h1).2) (jY h1).1.1 (jY h1).1.2 hr hrun hc λe w h=>by obtain⟨x0,rfl,h⟩:=h;exact⟨_,rfl,k _ w h⟩
theorem xy1{xD:Type}{V:xD->Value}{afV:xD->World->Prop}{t0:Nat}(x0:xD)(h:afV x0 w)(hres:fn.results=#[.tmp t0]:=by rfl)(hv:lk l j t0=V x0:=by kernel_rfl):KK [] n l j (bodyPost P fn (λe w =>∃x0,e= .returned (V x0)/\afV x0 w) .ret) w:=λa hr =>
 zp hres hr rfl ⟨x0,by rw[hv],h⟩
theorem Vy{xD zA:Type}{V:xD->zA->Value}{afV:xD->zA->World->Prop}(hc:Calls P f args w λe w =>∃x0,∃x1,e= .returned (V x0 x1)/\afV x0 x1 w)(k:∀x0 x1 w,afV x0 x1 w->KK Df n ((dn o,(V x0 x1))::l) j (wpList P ops Q rest) w)(h1:D2 o n=true:=by rfl)(hrun:(execOp (eV (lk l j)) o).run P w= .ok (.enter f args) w:=by kernel_rfl):KK Df n l j (wpList P ops Q (o::rest)) w:=λa hr =>
 uY (wn (jY h1).2) (jY h1).1.1 (jY h1).1.2 hr hrun hc λe w h=>by obtain⟨x0,x1,rfl,h⟩:=h;exact⟨_,rfl,k _ _ w h⟩
theorem xy2{xD zA:Type}{V:xD->zA->Value}{afV:xD->zA->World->Prop}{t0:Nat}(x0:xD)(x1:zA)(h:afV x0 x1 w)(hres:fn.results=#[.tmp t0]:=by rfl)(hv:lk l j t0=V x0 x1:=by kernel_rfl):KK [] n l j (bodyPost P fn (λe w =>∃x0,∃x1,e= .returned (V x0 x1)/\afV x0 x1 w) .ret) w:=λa hr =>
 zp hres hr rfl ⟨x0,x1,by rw[hv],h⟩
theorem xz2{xD zA:Type}{V:xD->zA->Value}{afV:xD->zA->World->Prop}{t0 t1:Nat}(x0:xD)(x1:zA)(h:afV x0 x1 w)(hres:fn.results=#[.tmp t0,.tmp t1]:=by rfl)(hv: .tuple #[lk l j t0,lk l j t1]=V x0 x1:=by kernel_rfl):KK [] n l j (bodyPost P fn (λe w =>∃x0,∃x1,e= .returned (V x0 x1)/\afV x0 x1 w) .ret) w:=λa hr =>
 Ec hres hr rfl rfl ⟨x0,x1,by rw[hv],h⟩
theorem lS{xD zA D3 D4:Type}{V:xD->zA->D3->D4->Value}{afV:xD->zA->D3->D4->World->Prop}(hc:Calls P f args w λe w =>∃x0,∃x1,∃x2,∃x3,e= .returned (V x0 x1 x2 x3)/\afV x0 x1 x2 x3 w)(k:∀x0 x1 x2 x3 w,afV x0 x1 x2 x3 w->KK Df n ((dn o,(V x0 x1 x2 x3))::l) j (wpList P ops Q rest) w)(h1:D2 o n=true:=by rfl)(hrun:(execOp (eV (lk l j)) o).run P w= .ok (.enter f args) w:=by kernel_rfl):KK Df n l j (wpList P ops Q (o::rest)) w:=λa hr =>
 uY (wn (jY h1).2) (jY h1).1.1 (jY h1).1.2 hr hrun hc λe w h=>by obtain⟨x0,x1,x2,x3,rfl,h⟩:=h;exact⟨_,rfl,k _ _ _ _ w h⟩
theorem xv4{xD zA D3 D4:Type}{V:xD->zA->D3->D4->Value}{afV:xD->zA->D3->D4->World->Prop}(x0:xD)(x1:zA)(x2:D3)(x3:D4)(h:afV x0 x1 x2 x3 w)(hres:fn.results=#[]:=by rfl)(hv: .tuple #[]=V x0 x1 x2 x3:=by kernel_rfl):KK [] n l j (bodyPost P fn (λe w =>∃x0,∃x1,∃x2,∃x3,e= .returned (V x0 x1 x2 x3)/\afV x0 x1 x2 x3 w) .normal) w:=λa hr =>
 qb hres hr ⟨x0,x1,x2,x3,by rw[hv],h⟩
theorem IK{xD zA D3 D4:Type}{V:xD->zA->D3->D4->Value}{afV:xD->zA->D3->D4->World->Prop}{t0:Nat}(x0:xD)(x1:zA)(x2:D3)(x3:D4)(h:afV x0 x1 x2 x3 w)(hres:fn.results=#[.tmp t0]:=by rfl)(hv:lk l j t0=V x0 x1 x2 x3:=by kernel_rfl):KK [] n l j (bodyPost P fn (λe w =>∃x0,∃x1,∃x2,∃x3,e= .returned (V x0 x1 x2 x3)/\afV x0 x1 x2 x3 w) .ret) w:=λa hr =>
 zp hres hr rfl ⟨x0,x1,x2,x3,by rw[hv],h⟩
theorem BA{xD zA D3 D4:Type}{V:xD->zA->D3->D4->Value}{afV:xD->zA->D3->D4->World->Prop}{t0 t1:Nat}(x0:xD)(x1:zA)(x2:D3)(x3:D4)(h:afV x0 x1 x2 x3 w)(hres:fn.results=#[.tmp t0,.tmp t1]:=by rfl)(hv: .tuple #[lk l j t0,lk l j t1]=V x0 x1 x2 x3:=by kernel_rfl):KK [] n l j (bodyPost P fn (λe w =>∃x0,∃x1,∃x2,∃x3,e= .returned (V x0 x1 x2 x3)/\afV x0 x1 x2 x3 w) .ret) w:=λa hr =>
 Ec hres hr rfl rfl ⟨x0,x1,x2,x3,by rw[hv],h⟩
theorem xc5{xD zA D3 D4 Ol:Type}{V:xD->zA->D3->D4->Ol->Value}{afV:xD->zA->D3->D4->Ol->World->Prop}(hc:Calls P f args w λe w =>∃x0,∃x1,∃x2,∃x3,∃x4,e= .returned (V x0 x1 x2 x3 x4)/\afV x0 x1 x2 x3 x4 w)(k:∀x0 x1 x2 x3 x4 w,afV x0 x1 x2 x3 x4 w->KK Df n ((dn o,(V x0 x1 x2 x3 x4))::l) j (wpList P ops Q rest) w)(h1:D2 o n=true:=by rfl)(hrun:(execOp (eV (lk l j)) o).run P w= .ok (.enter f args) w:=by kernel_rfl):KK Df n l j (wpList P ops Q (o::rest)) w:=λa hr =>
 uY (wn (jY h1).2) (jY h1).1.1 (jY h1).1.2 hr hrun hc λe w h=>by obtain⟨x0,x1,x2,x3,x4,rfl,h⟩:=h;exact⟨_,rfl,k _ _ _ _ _ w h⟩
theorem xc6{xD zA D3 D4 Ol Sn:Type}{V:xD->zA->D3->D4->Ol->Sn->Value}{afV:xD->zA->D3->D4->Ol->Sn->World->Prop}(hc:Calls P f args w λe w =>∃x0,∃x1,∃x2,∃x3,∃x4,∃x5,e= .returned (V x0 x1 x2 x3 x4 x5)/\afV x0 x1 x2 x3 x4 x5 w)(k:∀x0 x1 x2 x3 x4 x5 w,afV x0 x1 x2 x3 x4 x5 w->KK Df n ((dn o,(V x0 x1 x2 x3 x4 x5))::l) j (wpList P ops Q rest) w)(h1:D2 o n=true:=by rfl)(hrun:(execOp (eV (lk l j)) o).run P w= .ok (.enter f args) w:=by kernel_rfl):KK Df n l j (wpList P ops Q (o::rest)) w:=λa hr =>
 uY (wn (jY h1).2) (jY h1).1.1 (jY h1).1.2 hr hrun hc λe w h=>by obtain⟨x0,x1,x2,x3,x4,x5,rfl,h⟩:=h;exact⟨_,rfl,k _ _ _ _ _ _ w h⟩
theorem xy6{xD zA D3 D4 Ol Sn:Type}{V:xD->zA->D3->D4->Ol->Sn->Value}{afV:xD->zA->D3->D4->Ol->Sn->World->Prop}{t0:Nat}(x0:xD)(x1:zA)(x2:D3)(x3:D4)(x4:Ol)(x5:Sn)(h:afV x0 x1 x2 x3 x4 x5 w)(hres:fn.results=#[.tmp t0]:=by rfl)(hv:lk l j t0=V x0 x1 x2 x3 x4 x5:=by kernel_rfl):KK [] n l j (bodyPost P fn (λe w =>∃x0,∃x1,∃x2,∃x3,∃x4,∃x5,e= .returned (V x0 x1 x2 x3 x4 x5)/\afV x0 x1 x2 x3 x4 x5 w) .ret) w:=λa hr =>
 zp hres hr rfl ⟨x0,x1,x2,x3,x4,x5,by rw[hv],h⟩
theorem xc7{xD zA D3 D4 Ol Sn β6:Type}{V:xD->zA->D3->D4->Ol->Sn->β6->Value}{afV:xD->zA->D3->D4->Ol->Sn->β6->World->Prop}(hc:Calls P f args w λe w =>∃x0,∃x1,∃x2,∃x3,∃x4,∃x5,∃x6,e= .returned (V x0 x1 x2 x3 x4 x5 x6)/\afV x0 x1 x2 x3 x4 x5 x6 w)(k:∀x0 x1 x2 x3 x4 x5 x6 w,afV x0 x1 x2 x3 x4 x5 x6 w->KK Df n ((dn o,(V x0 x1 x2 x3 x4 x5 x6))::l) j (wpList P ops Q rest) w)(h1:D2 o n=true:=by rfl)(hrun:(execOp (eV (lk l j)) o).run P w= .ok (.enter f args) w:=by kernel_rfl):KK Df n l j (wpList P ops Q (o::rest)) w:=λa hr =>
 uY (wn (jY h1).2) (jY h1).1.1 (jY h1).1.2 hr hrun hc λe w h=>by obtain⟨x0,x1,x2,x3,x4,x5,x6,rfl,h⟩:=h;exact⟨_,rfl,k _ _ _ _ _ _ _ w h⟩
theorem xc8{xD zA D3 D4 Ol Sn β6 β7:Type}{V:xD->zA->D3->D4->Ol->Sn->β6->β7->Value}{afV:xD->zA->D3->D4->Ol->Sn->β6->β7->World->Prop}(hc:Calls P f args w λe w =>∃x0,∃x1,∃x2,∃x3,∃x4,∃x5,∃x6,∃x7,e= .returned (V x0 x1 x2 x3 x4 x5 x6 x7)/\afV x0 x1 x2 x3 x4 x5 x6 x7 w)(k:∀x0 x1 x2 x3 x4 x5 x6 x7 w,afV x0 x1 x2 x3 x4 x5 x6 x7 w->KK Df n ((dn o,(V x0 x1 x2 x3 x4 x5 x6 x7))::l) j (wpList P ops Q rest) w)(h1:D2 o n=true:=by rfl)(hrun:(execOp (eV (lk l j)) o).run P w= .ok (.enter f args) w:=by kernel_rfl):KK Df n l j (wpList P ops Q (o::rest)) w:=λa hr =>
 uY (wn (jY h1).2) (jY h1).1.1 (jY h1).1.2 hr hrun hc λe w h=>by obtain⟨x0,x1,x2,x3,x4,x5,x6,x7,rfl,h⟩:=h;exact⟨_,rfl,k _ _ _ _ _ _ _ _ w h⟩
theorem kC{t T b:Nat}{R:Ending->World->Prop}{cs:Array Value}{T':TypeId}{q:Nat×Nat}(hF:Fit w0 (aG (pts b (.cells cs T' q)::L)) w)(h:R (.returned (.agg cs)) w)(hres:fn.results=#[.cell t T]:=by rfl)(hv:lk l j t= .pointer (some ⟨b,0,none⟩):=by kernel_rfl)(hu:uC (P.underlying T)=true:=by kernel_rfl)
 (hs:(P.info? T).map (·.size)=some cs.size:=by kernel_rfl):KK [] n l j (bodyPost P fn R .ret) w:=λa hr=>qC hr hF h hres hv hu hs
end
section
variable {E:List Nat}{D:List (Nat×Nat×List Value)}{N:Nat}{aQ:Array Bool}
theorem nB[hp:PI Q](hd:HL D w)(f:Nat)(is:List (Nat×Nat×Value))(k:KK Df n (Ta is l) j (eP P .any ops Q (HL D) E f (S5 is aQ)) w)
 (hN:f+is.length=N:=by rfl) (hB:okE ops E n is aQ=true:=by kernel_rfl) (hrun:∀w,Kv P ops is l j w=Eg is w:=by intro w;kernel_rfl):KK Df n l j (eP P .any ops Q (HL D) E N aQ) w:=λa hr=>adB hd f is hr k hN hB hrun
theorem kx[hp:PI Q](hd:HL D w)(q f i:Nat){b off:Nat}{x:Operand}(hi:ops[i]? = some o)(hq:D[q]? = some (b,off,[v]))
 (k:KK Df n ((dn o,v)::l) j (eP P .any ops Q (HL D) E f (aQ.setIfInBounds i true)) w) (hg:o.guard=none:=by rfl) (hB:(okB ops E aQ i&&Db .any ops E aQ i)=true:=by kernel_rfl)
 (ho:o.op= .load T x:=by rfl) (hx:eV (lk l j) x= .pointer (some ⟨b,off,none⟩):=by kernel_rfl) (hu:xO (P.underlying T)=true:=by kernel_rfl) (h1:o.dst=some (dn o):=by rfl) (hn:Nat.blt (dn o) n=true:=by rfl):KK Df n l j (eP P .any ops Q (HL D) E (f+1) aQ) w:=λa hr =>
 elx hd q f i hr (wn hg) hi hq k hB ho hx hu h1 hn
theorem xF[hp:PI Q](hd:HL D w)(q f i:Nat){b off:Nat}{cs:List Value}{x:Operand}(hi:ops[i]? = some o)(hq:D[q]? = some (b,off,cs))
 (k:KK Df n ((dn o,.agg cs.toArray)::l) j (eP P .any ops Q (HL D) E f (aQ.setIfInBounds i true)) w) (hg:o.guard=none:=by rfl) (hB:(okB ops E aQ i&&Db .any ops E aQ i)=true:=by kernel_rfl)
 (ho:o.op= .load T x:=by rfl) (hx:eV (lk l j) x= .pointer (some ⟨b,off,none⟩):=by kernel_rfl) (hu:uC (P.underlying T)=true:=by kernel_rfl) (hs:(P.info? T).map (·.size)=some cs.length:=by kernel_rfl) (h1:o.dst=some (dn o):=by rfl) (hn:Nat.blt (dn o) n=true:=by rfl):KK Df n l j (eP P .any ops Q (HL D) E (f+1) aQ) w:=λa hr =>
 elm hd q f i hr (wn hg) hi hq k hB ho hx hu hs h1 hn
end
end
end GX
end
section
namespace SL
open Go Go.RowKit
def DC{α:Type}(e:TypeId)(sz:Nat)(enc:α->List Value)(v:Value)(l:List α):bu:=λh =>
 (v= .slice none 0 0/\l=[]/\h=Hp.none)∨
 ∃g off cap k cur,v= .slice (some ⟨g,off,none⟩) l.length cap/\l.length<=cap/\(0<cap->off=k*sz)/\k+cap<=maxLen/\cur.size=(k+cap)*sz/\(cur.toList.drop (k*sz)).take (l.length*sz)=l.flatMap enc/\pts g (.cells cur e) h
section
variable {w0 w:World}{L:List bu}{α:Type}{e:TypeId}{sz:Nat}{enc:α->List Value}{v:Value}{l:List α}{ca:gF}{n cc:Nat}
theorem Fit.MD(h:Fit w0 (aG (DC e sz enc v l::L)) w):(v= .slice none 0 0/\l=[]/\Fit w0 (aG L) w)∨
 ∃g off cap k cur,v= .slice (some ⟨g,off,none⟩) l.length cap/\l.length<=cap/\(0<cap->off=k*sz)/\k+cap<=maxLen/\cur.size=(k+cap)*sz/\(cur.toList.drop (k*sz)).take (l.length*sz)=l.flatMap enc/\Fit w0 (aG (pts g (.cells cur e)::L)) w:=by
 obtain⟨x,hx,a,c,hd,ee,hp,q⟩:=h.sat;rcases hp with ⟨h1,h2,h3⟩ | ⟨g,off,cap,k,cur,h1,h2,h3,h4,h5,h6,h7⟩
 ·left
  exact⟨h1,h2,h.drop⟩
 ·right
  exact⟨g,off,cap,k,cur,h1,h2,h3,h4,h5,h6,⟨x,hx,a,c,hd,ee,h7,q⟩,h.os,h.tape,h.output,h.size⟩
theorem Fit.P5(h:Fit w0 (aG (rowOf e sz enc v l::L)) w):Fit w0 (aG (DC e sz enc v l::L)) w:=
 h.head λ_ hx=>by
  rcases hx with h | ⟨g,cap,cur,h1,h2,h3,h4,h5,h6⟩
  ·exact .inl h
  ·exact .inr ⟨g,0,cap,0,cur,h1,h2,λ_=>by simp,I,by simpa using h4,by simpa using h5,h6⟩
theorem Fit.Tw(h:Fit w0 (aG (DC e sz enc (.slice ca n cc) l::L)) w):n=l.length:=by
 rcases h.MD with ⟨h1,h2,_⟩ | ⟨g,off,cap,k,cur,h1,_⟩
 ·simp only[Value.slice.injEq]at h1;rw[h2];exact h1.2.1
 ·simp only[Value.slice.injEq]at h1;exact h1.2.1
theorem Fit.Rk(h:Fit w0 (aG (DC e sz enc (.slice ca n cc) l::L)) w)(hl:0<l.length):ca=some ⟨GX.dR ca,GX.kz ca,none⟩:=by
 rcases h.MD with ⟨h1,h2,_⟩ | ⟨g,off,cap,k,cur,h1,_⟩
 ·rw[h2]at hl;simp at hl
 ·simp only[Value.slice.injEq]at h1;rw[h1.1];rfl
theorem Fit.ME(he:uv enc sz)(h:Fit w0 (aG (DC e sz enc (.slice ca n cc) l::L)) w){i:Nat}{f:Nat}{x:α}{u:Value}(hi:l[i]? = some x)(hf:(enc x)[f]? = some u):w.cell? ⟨GX.dR ca,GX.kz ca+i*sz+f,none⟩=some u:=by
 have Hf:i<l.length:=(List.getElem?_eq_some_iff.1 hi).1;rcases h.MD with ⟨h1,h2,_⟩ | ⟨g,off,cap,k,cur,h1,h2,h3,h4,h5,h6,h7⟩
 ·rw[h2]at Hf;simp at Hf
 ·simp only[Value.slice.injEq]at h1;obtain⟨rfl,_,rfl⟩:=h1;have hfs:f<sz:=by rw[<-he.len x];exact(List.getElem?_eq_some_iff.1 hf).1
  have h8:=he.get l i f x hi hfs;rw[<-h6,List.getElem?_take]at h8;have hlt:i*sz+f<l.length*sz:=by
   have:(i+1)*sz<=l.length*sz:=rQ _ Hf;rw[uB]at this;omega
  rw[aM hlt,hf,List.getElem?_drop]at h8;have ho:=h3 I;show w.cell? ⟨g,off+i*sz+f,none⟩=some u;rw[ho,show k*sz+i*sz+f=k*sz+(i*sz+f) by omega];refine h7.cell _ ?_
  simpa using h8
theorem KC(vs:List Value):∀(o:Nat) (cs:Array Value),o+vs.length<=cs.size->∃cs':Array Value,cs'.toList=cs.toList.take o++vs++cs.toList.drop (o+vs.length)/\∀{w0 w:World} {L:List bu} {b:Nat} {t:TypeId},Fit w0 (aG (pts b (.cells cs t)::L)) w->Fit w0 (aG (pts b (.cells cs' t)::L)) (w.setCells b o vs):=by
 induction vs with
 | nil=>intro o cs h;exact⟨cs,by simp,λh=>h⟩
 | cons v vs ih =>
  intro o cs h;simp only[Bj]at h;obtain⟨cs',h1,h2⟩:=ih (o+1) (cs.setIfInBounds o v) (by simp;omega);refine⟨cs',?_,λhF=>h2 (hF.set o v)⟩;rw[h1];have ho:o<cs.toList.length:=by simp;omega
  simp only[Array.toList_setIfInBounds,Bj];rw[List.take_succ_eq_append_getElem (by simpa using ho),List.getElem_set_self,List.take_set_of_le (ja o),List.drop_set,sR];rw[show o+1+vs.length=o+(vs.length+1) by omega];simp
end
end SL
namespace GX
open Go Go.RowKit SL
section
variable {P:Program}{w w0 w1 z:World}{ops:Array Oper}{Q:Exit->Act->World->Prop}{a:Act}{rest:List Oper}{o:Oper}{n d:Nat}{l:List (Nat×Value)}{j e:Nat->Value}{Df:List Deferred}{L:List bu}{t E:TypeId}
variable {α:Type}{sz n0 cc:Nat}{enc:α->List Value}{xs:List α}{ca:gF}
theorem adJ{x y:Operand}{k:IntKind}{i:Int}{w':World}(ho:o.op= .indexAddr t x y)(hx:eV e x= .slice ca n0 cc)(hy:eV e y= .int k i)
 (ht:P.underlying t=some (.slice E)) (hs:(P.info? E).map (·.size)=some sz) (hF:Fit w0 (aG (DC E sz enc (.slice ca n0 cc) xs::L)) w) (hi:bM i xs.length):(execOp (eV e) o).run P w'= .ok (.value (.pointer (some ⟨dR ca,kz ca+i.toNat*sz,none⟩))) w':=by
 have hn:=hF.Tw;have h0:=hi.1;have h1:=hi.2;exact rie (hF.Rk I) ho hx hy ht hs h0 I
theorem Wh{x y:Operand}{k:IntKind}{i:Int}(hw:vt o ops a)(hd:o.dst=some d)(hn:Nat.blt d n=true)(hr:cP Df n (lk l j) a)(ho:o.op= .slice t x (some y) none none)(hx:eV (lk l j) x= .slice ca n0 cc)(hy:eV (lk l j) y= .int k i)
 (ht:P.underlying t=some (.slice E)) (hs:(P.info? E).map (·.size)=some sz) (he:uv enc sz) (hF:Fit z (aG (DC E sz enc (.slice ca n0 cc) xs::L)) w) (hi:0<=i/\i<=((xs.length:Nat):Int)) (hne:0<xs.length)
 (k:∀ca cc a,Fit z (aG (DC E sz enc (.slice ca (xs.drop i.toNat).length cc) (xs.drop i.toNat)::L)) w->cP Df n (lk ((d,.slice ca (xs.drop i.toNat).length cc)::l) j) a->wpList P ops Q rest a w):wpList P ops Q (o::rest) a w:=by
 obtain⟨h0,h1⟩:=hi;rcases hF.MD with ⟨h2,h3,_⟩ | ⟨g,off,cap,q,cur,e1,e2,e3,e4,e5,e6,e7⟩
 ·rw[h3]at hne;simp at hne
 ·simp only[Value.slice.injEq]at e1;obtain⟨rfl,rfl,rfl⟩:=e1;obtain⟨m,rfl⟩ :∃m:Nat,i=m:=⟨i.toNat,I⟩;simp only[cL]at k⊢;have hm:m<=xs.length:=by omega
  have hlen:(xs.drop m).length=xs.length-m:=by simp
  have hrun:(execOp (eV (lk l j)) o).run P w= .ok (.value (.slice (some (if cc=m then⟨g,off,none⟩else(⟨g,off,none⟩:Addr).add (m*sz))) (xs.length-m) (cc-m))) w:=by
   unfold execOp;cases hq:P.info? E with
   | none=>simp[hq]at hs
   | some q =>
    simp[hq]at hs;have c:cc=m∨¬cc=m:=Classical.em _;rcases c with c | c<;>simp[ho,hx,hy,Instr.sliceAt,Instr.slice,Instr.sliceBounds,Instr.sliceBound,run_underlying ht,asIntOf,sizeOf,typeInfo,hq,hs,h1,hm,c]
  refine tw hw hd hn hr (w1:=w) hrun λa Hj => ?_;rw[<-hlen]at Hj;refine k _ _ a ?_ Hj;refine e7.head λy hy=>.inr ⟨g,if cc=m then off else off+m*sz,cc-m,q+m,cur,?_,by rw[hlen];omega,?_,I,by rw[e5];congr 1;omega,?_,hy⟩
  ·congr 1
   by_cases c:cc=m
   ·simp[aM c]
   ·simp[bZ c,w4]
  ·intro hc;rw[eu,e3 I];simp[uB]
  ·rw[hlen];have h8:((cur.toList.drop (q*sz)).take (xs.length*sz)).drop (m*sz)=(xs.drop m).flatMap enc:=by
    rw[e6];have h9:(xs.take m).flatMap enc++(xs.drop m).flatMap enc=xs.flatMap enc:=by rw[<-D9,G8]
    rw[<-h9,JN (by rw[he.flat,uV,yu hm];exact ja _)];rw[PO (by rw[he.flat,uV,yu hm];exact ja _)]
    rfl
   rw[<-h8,JP,List.drop_drop,uB,<-Nat.sub_mul]
theorem MF{bytes:Nat}{s x:Operand}{ad:Addr}{m c:Nat}(hw:vt o ops a)(hd:o.dst=some d)(hn:Nat.blt d n=true)(hr:cP Df n (lk l j) a)
 (ho:o.op= .call {callee:=.builtin .append,args:=#[s,x],argTypes:=#[t,t]}) (hs:eV (lk l j) s= .slice ca n0 cc) (hx:eV (lk l j) x= .slice (some ad) m c)
 (he:uv enc sz) (hty:P.underlying t=some (.slice E)) (rS:(P.info? E).map (λi=>(i.size,i.bytes,i.zero.map (·.cells.size)))=some (sz,bytes,some sz))
 (hF:Fit w0 (aG (DC E sz enc (.slice ca n0 cc) xs::L)) w) {news:List α} (hm:news.length=m) (hnews:∀j u,(news.flatMap enc)[j]? = some u->w.cell? (ad.add j)=some u)
 (hb:(xs.length+m)*bytes<=140737488355328) (N0:Nat.blt 0 bytes=true)
 (k:∀ca cc w1 a,Fit w0 (aG (DC E sz enc (.slice ca (xs++news).length cc) (xs++news)::L)) w1->cP Df n (lk ((d,.slice ca (xs++news).length cc)::l) j) a->wpList P ops Q rest a w1):wpList P ops Q (o::rest) a w:=by
 rcases hF.MD with ⟨h2,h3,h4⟩ | ⟨g,off,cap,q,cur,e1,e2,e3,e4,e5,e6,e7⟩
 ·simp only[Value.slice.injEq]at h2;obtain⟨rfl,rfl,rfl⟩:=h2;subst h3;exact nY hw hd hn hr ho hs hx he hty rS (h4.kR (e:=E) (sz:=sz) (enc:=enc)) hm hnews hb N0 λca cc w1 a h Hj=>k ca cc w1 a h.P5 Hj
 ·simp only[Value.slice.injEq]at e1;obtain⟨rfl,rfl,rfl⟩:=e1;cases hi:P.info? E with
  | none=>simp[hi]at rS
  | some i =>
   simp only[hi,vz,Option.some.injEq,Prod.mk.injEq]at rS;obtain⟨i1,i2,i3⟩:=rS;cases hz:i.zero with
   | none=>simp[hz]at i3
   | some zv =>
    simp only[hz,vz,Option.some.injEq]at i3;subst i1;subst i2;have Mg:0<i.bytes:=pU N0;have h63:xs.length+m<=maxLen:=by
     have:xs.length+m<=(xs.length+m)*i.bytes:=L0 _ Mg;simp only[maxLen];omega
    have VY:((xs.length+m:Nat):Int)<=9223372036854775807:=by simp only[maxLen]at h63;omega
    have hlen:(news.flatMap enc).length=m*i.size:=by rw[he.flat,hm]
    have fin:∀v' w',(Builtin.append_ #[t,t] o.type #[.slice (some ⟨g,off,none⟩) xs.length cc,.slice (some ad) m c]).run P w= .ok v' w'->(∃ca cc,v'= .slice ca (xs++news).length cc/\Fit w0 (aG (DC E i.size enc v' (xs++news)::L)) w')->wpList P ops Q (o::rest) a w:=by
     rintro v' w' hrun ⟨ca,cc,rfl,Fa⟩
     refine tw hw hd hn hr ?_ (λa hr=>k ca cc w' a Fa hr);unfold execOp;simp only[ho,resolve,invoke,builtin,ou,uW,ox,JQ,C4,Ea,hs,hx,hrun]
    by_cases hroom:xs.length+m<=cc
    ·by_cases SM:m=0
     ·subst SM;have XO:news=[]:=G3 hm;subst XO;have YY:=run_append_room_cells (P:=P) (w:=w) t o.type E i hty hi g off xs.length cc ad 0 c [] (by simp) (by simp) (by simp) hroom (by simp) (by simp);refine fin _ _ YY ⟨some ⟨g,off,none⟩,cc,by simp,?_⟩
      simpa [World.setCells]using hF
     ·have adK:=e3 I;subst adK;have hfit:(q+xs.length)*i.size+(news.flatMap enc).length<=cur.size:=by rw[hlen,e5,<-uB];exact rQ _ I
      have hpos:q*i.size+xs.length*i.size=(q+xs.length)*i.size:=(uB _ _ _).symm;have YY:=run_append_room_cells (P:=P) (w:=w) t o.type E i hty hi g (q*i.size) xs.length cc ad m c (news.flatMap enc) hlen hnews (he.BO news) hroom
       (λk hk=>by rw[hpos];rw[e7.cell ((q+xs.length)*i.size+k) (v:=cur[(q+xs.length)*i.size+k]' I) (by rw[Array.getElem?_eq_getElem])];rfl) (λk hk=>e7.free _)
      rw[hpos]at YY;obtain⟨cs',c1,c2⟩:=KC (news.flatMap enc) ((q+xs.length)*i.size) cur hfit;have hsz:cs'.size=cur.size:=by
       have:=nu List.length c1;simp only[kQ,uV,C3,vy]at this;omega
      refine fin _ _ YY ⟨_,_,by rw[kQ,hm],(c2 e7).head λy hy=>.inr ⟨g,_,cc,q,cs',by rw[kQ,hm],by rw[kQ,hm];exact hroom,λ_=>rfl,e4,by rw[hsz];exact e5,?_,hy⟩⟩;rw[c1,D9,<-e6,kQ,hm];have hA:(cur.toList.take ((q+xs.length)*i.size)).length=(q+xs.length)*i.size:=by rw[uV,vy];exact yu (Bi (Nat.le_add_right _ _) hfit)
      rw[s5,JN (by rw[hA,uB];omega)];have hB:(cur.toList.take ((q+xs.length)*i.size)).drop (q*i.size)=(cur.toList.drop (q*i.size)).take (xs.length*i.size):=by
       rw[JP,uB,Nat.add_sub_cancel_left]
      rw[hB,<-s5];have hC:(((cur.toList.drop (q*i.size)).take (xs.length*i.size))++news.flatMap enc).length=(xs.length+m)*i.size:=by
       rw[e6,kQ,he.flat,hlen,uB]
      rw[<-hC];exact G2
    ·have holds:∀j u,(xs.flatMap enc)[j]? = some u->w.cell? ((⟨g,off,none⟩:Addr).add j)=some u:=by
      intro jj u hu;have hj:jj<xs.length*i.size:=by rw[<-he.flat];exact(List.getElem?_eq_some_iff.1 hu).1
      have hx0:0<xs.length:=by
       rcases Nat.eq_zero_or_pos xs.length with h0 | h0
       ·rw[h0]at hj;simp at hj
       ·exact h0
      rw[w4,e3 I];refine e7.cell _ ?_;rw[<-e6,List.getElem?_take,aM hj,List.getElem?_drop]at hu
      simpa using hu
     have YY:=run_append_grow (P:=P) w t o.type E i zv hty hi hz ⟨g,off,none⟩ xs.length cc (xs.flatMap enc) (he.flat xs) holds ad m c (news.flatMap enc) hlen hnews I VY (growslice_fits I hb);have hge:=grownCap_ge w (xs.length+m) cc E;have hcm:grownCap w (xs.length+m) cc E<=maxLen:=grownCap_le_maxLen w (xs.length+m) cc E h63;refine fin _ _ YY ⟨_,_,by rw[kQ,hm],?_⟩;refine(e7.drop.drew.alloc _).head λx hx=>.inr ⟨w.heap.size,0,grownCap w (xs.length+m) cc E,0,_,by rw[kQ,hm],by rw[kQ,hm];exact hge,λ_=>by simp,I,?_,?_,hx⟩
     ·simp only[Array.size_append,D8,size_zeroCells,i3,he.flat,hm,<-uB]
      congr 1
      omega
     ·rw[D9,kQ,hm];simp only[Array.toList_append,Nat.zero_mul,pW];rw[show(xs.length+m)*i.size=((xs.flatMap enc)++(news.flatMap enc)).length by rw[kQ,hlen,he.flat,uB]];exact G2
end
end GX
end
section
namespace GX
open Go Go.RowKit SL
def HO:Value->Value->Bool
 | .int k _,.int k' _=>k==k'
 | .bool _,.bool _=>true
 | _,_=>false
def BT:List Value->List Value->Bool
 | [],[]=>true
 | u::us,v::vs=>HO u v&&BT us vs
 | _,_=>false
def Tx:List Value->List Value->Bool
 | .int a _::_,.int b _::_=>a==b
 | _,_=>false
def Ty:List Value->List Value->Bool
 | .bool _::_,.bool _::_=>true
 | _,_=>false
theorem MG{us vs:List Value}(h:Tx us vs=true) :∃k x y us' vs',us= .int k x::us'/\vs= .int k y::vs':=by
 unfold Tx at h;split at h
 ·simp only[zn]at h;subst h;exact⟨_,_,_,_,_,rfl,rfl⟩
 ·cases h
theorem MH{us vs:List Value}(h:Ty us vs=true) :∃x y us' vs',us= .bool x::us'/\vs= .bool y::vs':=by
 unfold Ty at h;split at h
 ·exact⟨_,_,_,_,rfl,rfl⟩
 ·cases h
theorem Rl{u v:Value}(h:HO u v=true):(∃k x y,u= .int k x/\v= .int k y)∨∃x y,u= .bool x/\v= .bool y:=by
 unfold HO at h;split at h
 ·simp only[zn]at h;subst h;exact .inl ⟨_,_,_,rfl,rfl⟩
 ·exact .inr ⟨_,_,rfl,rfl⟩
 ·cases h
def zB(P:Program):Nat->Nat->List Field->List Value->List Value->Bool
 | 0,_,_,_,_=>false
 | k+1,i,fs,us,vs=>match fs with
  | []=>us.isEmpty&&vs.isEmpty
  | f::fs=>(f.name != "_")&&f.offset==i&&(match P.underlying f.type with
   | some (.int _)=>Tx us vs&&zB P k (i+1) fs us.tail vs.tail
   | some .bool=>Ty us vs&&zB P k (i+1) fs us.tail vs.tail
   | some (.struct _)=>(P.info? f.type).isSome && !(P.stoodInHeld f.type)&&Nat.ble (P.cellsOf f.type) us.length&&Nat.ble (P.cellsOf f.type) vs.length
    && zB P k 0 (P.fieldsOf f.type).toList (us.take (P.cellsOf f.type)) (vs.take (P.cellsOf f.type))&&zB P k (i+P.cellsOf f.type) fs (us.drop (P.cellsOf f.type)) (vs.drop (P.cellsOf f.type))
   | _=>false)
theorem J9:∀{a c b d:List Value},BT a c=true->BT b d=true->BT (a++b) (c++d)=true
 | [],[],_,_,_,h=>h
 | u::a,v::c,_,_,h1,h=>by
  simp only[BT,mE]at h1;simp only[ua,BT,mE];exact⟨h1.1,J9 h1.2 h⟩
theorem MI:∀{a c b d:List Value},BT a c=true->uZ (a++b) (c++d)=(uZ a c&&uZ b d)
 | [],[],_,_,_=>by simp[uZ]
 | u::a,v::c,b,d,h=>by
  simp only[BT,mE]at h;have ih:=MI (b:=b) (d:=d) h.2;rcases Rl h.1 with ⟨k,x,y,rfl,rfl⟩ | ⟨x,y,rfl,rfl⟩
  ·simp[uZ,ih,Bool.and_assoc]
  ·simp[uZ,ih,Bool.and_assoc]
section
variable {P:Program}{w:World}{o:Oper}{e:Nat->Value}
theorem xR:∀(k i:Nat) (fs:List Field) (us vs:List Value),zB P k i fs us vs=true->BT us vs=true
 | 0,_,_,_,_,h=>by simp[zB]at h
 | k+1,_,[],us,vs,h=>by
  simp only[zB,mE,List.isEmpty_iff]at h;obtain⟨rfl,rfl⟩:=h
  rfl
 | k+1,i,f::fs,us,vs,h=>by
  simp only[zB,mE]at h;obtain⟨_,h⟩:=h;split at h
  ·simp only[mE]at h;obtain⟨kk,x,y,us',vs',rfl,rfl⟩:=MG h.1;simp only[BT,HO,beq_self_eq_true,Bool.true_and];exact xR k _ _ _ _ h.2
  ·simp only[mE]at h;obtain⟨x,y,us',vs',rfl,rfl⟩:=MH h.1;simp only[BT,HO,Bool.true_and];exact xR k _ _ _ _ h.2
  ·simp only[mE]at h;have a:=xR k _ _ _ _ h.1.2;have b:=xR k _ _ _ _ h.2;have:=J9 a b
   rwa [G8,G8]at this
  ·cases h
theorem MJ{t:TypeId}{gs:Array Field}(h:P.underlying t=some (.struct gs)):P.fieldsOf t=gs:=by
 unfold Program.fieldsOf;rw[h]
theorem Ka{t:TypeId}{gs:Array Field}{cs:Array Value}{i:Nat}(h:P.underlying t=some (.struct gs))(hi:(P.info? t).isSome=true):(part t cs i).run P w= .ok (.agg (cs.extract i (i+P.cellsOf t))) w:=by
 obtain⟨q,hq⟩:=Option.isSome_iff_exists.1 hi;unfold part isAgg;simp only[ou,run_underlying h,ox,uW,if_true,run_sizeOf w hq]
theorem Em:∀(k D i:Nat) (fs:List Field) (us vs:List Value) (xs ys:Array Value),zB P k i fs us vs=true->k<=D->(∀j,us[j]? = xs[i+j]?∨us.length<=j)->(∀j,vs[j]? = ys[i+j]?∨vs.length<=j)->
 (Op.eqFields (D+1) xs ys fs).run P w= .ok (uZ us vs) w
 | 0,_,_,_,_,_,_,_,h,_,_,_=>by simp[zB]at h
 | k+1,_,_,[],us,vs,_,_,h,_,_,_=>by
  simp only[zB,mE,List.isEmpty_iff]at h;obtain⟨rfl,rfl⟩:=h;simp[Op.eqFields,uZ]
 | k+1,D,i,f::fs,us,vs,xs,ys,h,hD,hx,hy=>by
  simp only[zB,mE,bne_iff_ne,ne_eq,zn]at h;obtain⟨⟨hn,ho⟩,h⟩:=h;have aC:∀(n:Nat) (zs:List Value) (cs:Array Value),(∀j,zs[j]? = cs[i+j]?∨zs.length<=j)->∀j,(zs.drop n)[j]? = cs[i+n+j]?∨(zs.drop n).length<=j:=λn zs cs hz j=>by
   rcases hz (n+j)with h | h
   ·left;rw[List.getElem?_drop,h,Nat.add_assoc]
   ·right;rw[C3];omega
  split at h
  ·rename_i kk hty;simp only[mE]at h;obtain⟨a,x,y,us',vs',rfl,rfl⟩:=MG h.1;have hx0:xs[i]? = some (.int a x):=by rcases hx 0 with h | h;simpa using h.symm;simp at h
   have hy0:ys[i]? = some (.int a y):=by rcases hy 0 with h | h;simpa using h.symm;simp at h
   have ih:=Em k D (i+1) fs us' vs' xs ys h.2 I (by simpa using aC 1 _ xs hx) (by simpa using aC 1 _ ys hy);have pa:=sI (P:=P) (w:=w) (t:=f.type) (cs:=xs) (i:=f.offset) (v:=.int a x) (by rw[hty]) (by rw[ho];exact hx0);have pb:=sI (P:=P) (w:=w) (t:=f.type) (cs:=ys) (i:=f.offset) (v:=.int a y) (by rw[hty]) (by rw[ho];exact hy0);rw[Op.eqFields];simp only[aM hn,ou,pa,pb,run_equalIn_int w D f.type a kk x y hty,ox];cases hab:(x==y)
   ·simp[uZ,hab]
   ·simp[uZ,hab,ih]
  ·rename_i hty;simp only[mE]at h;obtain⟨x,y,us',vs',rfl,rfl⟩:=MH h.1;have hx0:xs[i]? = some (.bool x):=by rcases hx 0 with h | h;simpa using h.symm;simp at h
   have hy0:ys[i]? = some (.bool y):=by rcases hy 0 with h | h;simpa using h.symm;simp at h
   have ih:=Em k D (i+1) fs us' vs' xs ys h.2 I (by simpa using aC 1 _ xs hx) (by simpa using aC 1 _ ys hy);have pa:=sI (P:=P) (w:=w) (t:=f.type) (cs:=xs) (i:=f.offset) (v:=.bool x) (by rw[hty]) (by rw[ho];exact hx0);have pb:=sI (P:=P) (w:=w) (t:=f.type) (cs:=ys) (i:=f.offset) (v:=.bool y) (by rw[hty]) (by rw[ho];exact hy0);rw[Op.eqFields];simp only[aM hn,ou,pa,pb,run_equalIn_bool' w D f.type x y hty,ox];cases hab:(x==y)
   ·simp[uZ,hab]
   ·simp[uZ,hab,ih]
  ·rename_i gs hty;simp only[mE,Bool.not_eq_true',Nat.ble_eq]at h;obtain⟨⟨⟨⟨⟨hi,hp⟩,hu⟩,hv⟩,h1⟩,h2⟩:=h;obtain⟨D,rfl⟩ :∃m,D=m+1:=⟨D-1,I⟩;have cut:∀(zs:List Value) (cs:Array Value),P.cellsOf f.type<=zs.length->(∀j,zs[j]? = cs[i+j]?∨zs.length<=j)->∀j,(zs.take (P.cellsOf f.type))[j]? = (cs.extract i (i+P.cellsOf f.type))[0+j]?∨(zs.take (P.cellsOf f.type)).length<=j:=λzs cs hl hz j=>by
    by_cases hj:j<P.cellsOf f.type
    ·left
     rcases hz j with h | h
     ·rw[List.getElem?_take,aM hj,h,Dv,Array.getElem?_extract];split
      ·rfl
      ·rename_i hc;refine Array.getElem?_eq_none ?_;omega
     ·omega
    ·right;rw[uV];omega
   have Tz:=Em k D 0 _ _ _ _ _ h1 I (cut us xs hu hx) (cut vs ys hv hy);have YZ:=Em k (D+1) (i+P.cellsOf f.type) fs _ _ xs ys h2 I (aC _ _ xs hx) (aC _ _ ys hy);have pa:=Ka (P:=P) (w:=w) (cs:=xs) (i:=f.offset) hty hi;have pb:=Ka (P:=P) (w:=w) (cs:=ys) (i:=f.offset) hty hi;have heq:=run_equalIn_struct (P:=P) w (D+1) f.type (xs.extract i (i+P.cellsOf f.type)) (ys.extract i (i+P.cellsOf f.type)) (by rw[MJ hty];exact hty) hp;rw[Tz]at heq;have hs:=MI (b:=us.drop (P.cellsOf f.type)) (d:=vs.drop (P.cellsOf f.type)) (xR _ _ _ _ _ h1);rw[G8,G8]at hs;rw[Op.eqFields,hs];rw[ho]at pa pb;simp only[aM hn,ou,ho,pa,pb,heq,ox];cases hab:uZ (us.take (P.cellsOf f.type)) (vs.take (P.cellsOf f.type))
   ·simp
   ·simp[YZ]
  ·cases h
theorem Y0{x y:Operand}{us vs:List Value}{T T':TypeId}(ho:o.op= .binOp .eql T x y T')(hx:eV e x= .agg us.toArray)(hy:eV e y= .agg vs.toArray)(hm:P.eqGuardType P.depth T=false)(hp:P.stoodInHeld T=false)
 (hu:P.underlying T=some (.struct (P.fieldsOf T))) (hf:zB P 64 0 (P.fieldsOf T).toList us vs=true):(execOp (eV e) o).run P w= .ok (.value (.bool (uZ us vs))) w:=by
 unfold execOp;have h1:=run_equalIn_struct (P:=P) w 9999 T us.toArray vs.toArray hu hp;rw[Em (P:=P) (w:=w) 64 9998 0 (P.fieldsOf T).toList us vs us.toArray vs.toArray hf dO (λj=>by left;simp) (λj=>by left;simp)]at h1;simp[ho,hx,hy,run_eqGuard_agg (P:=P) w .eql T x y us.toArray vs.toArray hm,run_eql_struct,h1]
end
end GX
end
section
namespace Md
open Go Go.RowKit SL GX
noncomputable section
variable {z w:World}{L:List bu}
abbrev GI(a:gF)(c:Nat)(l:List Int):bu:=rowOf 3 1 aO (.slice a l.length c) l
end
noncomputable section
variable {z w:World}{L:List bu}
def u5(O:Int)(Y:List Int)(p2:Bool):Option (Int×Int):=
 eA ((if O=((Y.length:Nat):Int)then(if p2=true then some 0 else some O)else some O)) (λg3=>(if g3=((Y.length:Nat):Int)then some (0,g3)else if bM (wi ((wi (g3+1))-1)) Y.length then some ((J Y (wi ((wi (g3+1))-1)).toNat),wi (g3+1))else none))
theorem En{O r0 q0:Int}{Y:List Int}{p2:Bool}{B0 B1 lu B2:Nat}{kT:gF}(H:u5 O Y p2=some (r0,q0))(h:Fit z (aG (pts B0 (.cells #[Z O] 3)::pts B1 (.cells #[.slice kT Y.length lu] 28)::GI kT lu Y::pts B2 (.cells #[vB p2] 4)::L)) w) :
 Calls Tryz.prog 65 #[pA B0 0,pA B1 0,pA B2 0] w λe w=>e=.returned (Z r0)/\Fit z (aG (pts B0 (.cells #[Z q0] 3)::pts B1 (.cells #[.slice kT Y.length lu] 28)::GI kT lu Y::pts B2 (.cells #[vB p2] 4)::L)) w:=by
 unfold u5 at H;refine ke Tryz.func65 22 rfl λj=>ks<|ko [U]<|G<|HM H λo5 H hK4=>λ_ r=>dz (β:=Unit) (λ_ a w=>∃g3:Int,g3=o5/\∃j,mF 22 (lk [(0,pA B0 0),(1,pA B1 0)] j) a/\Fit z (aG (pts B0 (.cells #[Z g3] 3)::pts B1 (.cells #[.slice kT Y.length lu] 28)::GI kT lu Y::pts B2 (.cells #[vB p2] 4)::L)) w) ?_ ?_
 ·refine qq r<|ks<|kL h 0<|kL (h.pick 1) 0<|ko [Z ((Y.length:Nat):Int),vB (O==((Y.length:Nat):Int)),vB (O==((Y.length:Nat):Int))]<|qI H (λc6 H=>?_) λc6 H=>?_
  ·refine λ_ r=>ld (sY r (beq_iff_eq.mpr c6)) r (vB p2) ((h.pick 3).cell 0 rfl)<|?_;refine oM (beq_iff_eq.mpr c6) (vB p2)<|G<|FZ H (λc7 H=>?_) λc7 H=>?_
   ·refine wl<|kS h 0 (pts B0 (.cells #[Z 0] 3)) λw h=>G<|?_;exact λ_ r=>⟨(),0,gN H,r.fj h⟩
   refine wk<|tn<|?_;exact λ_ r=>⟨(),O,gN H,r.fj h⟩
  refine cu (bN c6) [9]<|oG (bN c6) (vB false)<|G<|λ_ r=>jb r (b:=false) rfl<|qq r<|wk<|tn<|?_;exact λ_ r=>⟨(),O,gN H,r.fj h⟩
 clear h r;rintro _ a w ⟨g3,rfl,j,r,h⟩;replace H:=Hw hK4;refine qq r<|wq<|ks<|kL h 0<|kL (h.pick 1) 0<|ko [Z ((Y.length:Nat):Int),vB (g3==((Y.length:Nat):Int))]<|G<|dQ H (λc8 H=>?_) λc8 H=>?_
 ·refine ks<|ko [U]<|G<|wr<|tr<|?_;cases H;exact fX h
 refine wk<|tn<|ks<|kL h 0<|ko [Z (wi (g3+1))]<|kS h 0 (pts B0 (.cells #[Z (wi (g3+1))] 3)) λw h=>G<|ks<|kL (h.pick 1) 0<|kL h 0<|qg H λc9 H=>ko [Z (wi ((wi (g3+1))-1))]<|ki (h.pick 2) c9<|λ_ r=>ld (wn rfl) r (Z (J Y (wi ((wi (g3+1))-1)).toNat)) ((h.pick 2).cU aL (f:=0) (bp c9) rfl)<|?_;refine ko [Z (J Y (wi ((wi (g3+1))-1)).toNat)]<|G<|wr<|?_;cases H;exact fX h
end
end Md
end
end Go.Proofs.YtaiffafelihaaaaGreatDoor

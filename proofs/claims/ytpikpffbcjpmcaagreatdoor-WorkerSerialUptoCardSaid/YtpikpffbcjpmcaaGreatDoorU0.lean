/- plunderlaw11.WorkerSerial answers true for every input of the bulk that the statement names, and leaves its input alone. Conditions: none. -/
import Derived.Below
import Derived.OwnWalk
import Derived.Deep.Draws
import Derived.Laws.AppendOwn
import Derived.Laws.OwnMore
import Derived.Laws.MakeOwn
import Derived.Laws.CopyRow
import Derived.StillTail
import Derived.Deep.Quiet
import Derived.KernelRfl
import Derived.IntWalk
import Derived.Laws.StructEq
import Derived.Test.YtpikpffbcjpmcaaGreatDoorProg
import Derived.Carry
import Derived.ChangeSlices
import Derived.ChangeOld
import Derived.Deep.Fields
import Derived.Deep.Slices
import Derived.DataReads
import Derived.OpenShut
import Derived.Test.YtpikpffbcjpmcaaGreatDoorRows
import Derived.FnData
import Derived.Scope
import Derived.Laws.IdiomRangeMap
import Derived.Defers
import Derived.Laws.LoneSync
import Derived.Conc.MuLone
import Derived.Recover
import Derived.ArgAppend
import Derived.ChangeKeysEq
import Derived.Test.YtpikpffbcjpmcaaGreatDoorCards
import Derived.Test.YtpikpffbcjpmcaaGreatDoorTie
import Derived.WalkKit
import Derived.ProofKit
import Derived.SizedLaws
import Derived.JoinedCond
import Derived.Deep.DeepHandedRow
import Derived.Lib.LaidTab
import Derived.LaidMore
import Derived.SevenTiedAt
set_option linter.unusedVariables false
set_option linter.unusedSimpArgs false
set_option linter.unusedSectionVars false
set_option maxRecDepth 100000
set_option maxHeartbeats 4000000
set_option autoImplicit true
set_option relaxedAutoImplicit true
namespace Go.Proofs.YtpikpffbcjpmcaaGreatDoor
open Proofs.Tryz
theorem aZ{p:Prop}(h:p:=by kernel_rfl):p:=h
theorem I{p:Prop}(h:p:=by omega):p:=h
theorem eC{p:Prop}(h:p:=by decide):p:=h
theorem rj{p:Prop}(h:p:=by intro e;cases e):p:=h
abbrev fP:=Option Addr
abbrev vg(o:Oper)(ops:Array Oper)(a:Act):Prop:=Region.wanted o (yielded ops a.tmps)=true
abbrev dH(p:Prop)[Decidable p]:Value:=.bool (decide p)
theorem cu{c:Prop}{h:Decidable c}(hn:¬c){α:Sort _}{t e:α}:ite c t e=e:=if_neg hn
theorem aP{c:Prop}{h:Decidable c}(hn:c){α:Sort _}{t e:α}:ite c t e=t:=if_pos hn
theorem bP:True:=trivial
theorem ef{c:Prop}{h:Decidable c}{α:Sort _}{t e:α}(hn:¬c:=by omega):ite c t e=e:=if_neg hn
theorem p7{c:Prop}{h:Decidable c}{α:Sort _}{t e:α}(hn:c:=by omega):ite c t e=t:=if_pos hn
theorem dR{β:Type}{x k c:β}(h:x=c){d:Decidable (x=k)}{α:Sort _}{t e:α}(hn:¬c=k:=by decide):ite (x=k) t e=e:=if_neg (h▸hn)
abbrev Fu:=@Nat.le_trans
abbrev jU:=@Nat.le_refl
abbrev Oy:=@List.flatMap_cons
abbrev j6:=@List.length_append
abbrev BG:=@List.length_cons
abbrev vj:=@Nat.add_mul
abbrev Oz:=@Nat.add_comm
abbrev BX:=@Nat.zero_add
abbrev vY:=@List.take_zero
abbrev AD:=@List.nil_append
abbrev J7:=@List.drop_append_of_le_length
abbrev zR:=@List.drop_of_length_le
abbrev Gp:=@List.take_of_length_le
abbrev J8:=@List.take_append
abbrev q9:=@List.append_assoc
abbrev sH:=@Nat.mul_le_mul_right
abbrev zS:=@List.ext_getElem?
abbrev vk:=@List.length_take
abbrev yW:=@Nat.min_eq_left
abbrev hU:=@List.length_set
abbrev Dt:=@List.size_toArray
abbrev Es:=@List.flatMap_append
abbrev Gq:=@List.take_left
abbrev Gr:=@List.eq_nil_of_length_eq_zero
abbrev yX:=@List.length_nil
abbrev BZ:=@List.length_drop
abbrev vl:=@Array.length_toList
abbrev wH:=@Go.Addr.add_lit
abbrev qa:=@Nat.le_of_ble_eq_true
abbrev wI:=@Array.getD_eq_getD_getElem?
abbrev P9:=@Nat.eq_of_beq_eq_true
abbrev n5:=@Go.Sem.run_bind
abbrev n6:=@Go.Result.andThen_ok
abbrev uo:=@Go.Sem.run_pure
abbrev Gs:=@Nat.add_zero
abbrev J9:=@List.toList_toArray
abbrev Ka:=@List.drop_take
abbrev vR:=@Option.map_some
abbrev Mq:=@Nat.le_mul_of_pos_right
abbrev Gt:=@List.map_toArray
abbrev Bs:=@List.map_cons
abbrev B3:=@List.map_nil
abbrev Du:=@Nat.mod_lt
abbrev Gu:=@Nat.div_add_mod
abbrev n7:=@List.length_replicate
abbrev Gv:=@Int.mul_comm
abbrev cQ:=@Int.toNat_natCast
abbrev mR:=@Bool.and_eq_true
abbrev zT:=@beq_iff_eq
abbrev Kb:=@Nat.add_left_comm
abbrev nV:=@congrArg
abbrev tV:=@List.mem_cons
abbrev tW:=@List.not_mem_nil
abbrev tX:=@or_false
abbrev HH:=@List.map_append
abbrev B4:=@Bool.or_eq_true
abbrev Kc:=@Bool.false_eq_true
abbrev Dv:=@Nat.lt_or_ge
abbrev Mr:=@Go.Region.noSelect_spec
abbrev qb:=@List.take_succ_cons
abbrev yl:=@List.perm_middle
abbrev uq:=@List.cons_append
abbrev Bt:=@List.append_nil
abbrev B5:=@decide_eq_true_eq
abbrev tY:=@decide_eq_true
abbrev HI:=@decide_eq_false
abbrev HJ:=@List.take_append_drop
abbrev Ms:=@List.ext_getElem
abbrev Qa:=@List.drop_eq_nil_of_le
abbrev Dw:=@List.length_map
abbrev pK:=@Option.getD_some
abbrev Gw:=@Nat.succ_mul
abbrev Qb:=@Go.MapKept.run_getObj_map
abbrev og:=@List.drop_zero
abbrev Qc:=@List.drop_eq_getElem_cons
abbrev Et:=@Nat.zero_le
abbrev rY:=@List.drop_succ_cons
abbrev iI:=@Nat.lt_succ_self
abbrev Mt:=@List.mem_cons_of_mem
abbrev Kd:=@List.singleton_append
abbrev pL:=@Int.ofNat_zero
abbrev HK:=@List.length_singleton
abbrev B6:=@Prod.ext
abbrev iX:=@List.set_set
abbrev B7:=@Int.emod_nonneg
abbrev Dx:=@Int.emod_lt_of_pos
abbrev Mu:=@Int.mul_ediv_add_emod
abbrev yY:=@Int.le_refl
abbrev Mv:=@List.getLastD_eq_getLast?
abbrev HM:=@Nat.mod_eq_of_lt
abbrev Ke:=@Int.tmod_eq_emod
abbrev HN:=@BitVec.toNat_ofInt
abbrev sI:=@List.getElem_toArray
abbrev sJ:=@List.getElem_cons_zero
abbrev sK:=@List.getElem_cons_succ
abbrev sL:=@Array.getInternal_eq_getElem
abbrev Bu:=@and_true
section
namespace SL
open Go Go.RowKit
abbrev Hp:=Nat->Option Obj
abbrev bj:=Hp->Prop
def Hp.none:Hp:=λ_=>Option.none
def Hp.add(a b:Hp):Hp:=λk=>match a k with | some o=>some o | Option.none=>b k
def Hp.GI(a b:Hp):Prop:=∀k,a k=Option.none∨b k=Option.none
def Ok:bj:=λh=>h=Hp.none
def sep(P Q:bj):bj:=λh =>∃a b,a.GI b/\h=a.add b/\P a/\Q b
def pts(b:Nat)(o:Obj):bj:=λh=>h=λk=>if k=b then some o else Option.none
def RD(p:Prop):bj:=λh=>p/\h=Hp.none
def exs{α:Type}(P:α->bj):bj:=λh =>∃x,P x h
def aC:List bj->bj
 | []=>Ok
 | P::L=>sep P (aC L)
theorem Hp.vZ{a b:Hp}(h:a.GI b):b.GI a:=λk=>(h k).symm
theorem Hp.add_comm{a b:Hp}(h:a.GI b):a.add b=b.add a:=by
 funext k
 unfold Hp.add;rcases h k with h | h<;>rw[h]<;>cases a k<;>cases b k<;>simp_all
theorem Hp.add_assoc(a b c:Hp):(a.add b).add c=a.add (b.add c):=by
 funext k;unfold Hp.add;cases a k<;>rfl
theorem Hp.B8{a b c:Hp}(h1:a.GI b)(h2:a.GI c):a.GI (b.add c):=λk=>by
 rcases h1 k with h | h
 ·exact .inl h
 ·rcases h2 k with h' | h'
  ·exact .inl h'
  ·exact .inr (by unfold Hp.add;rw[h,h'])
theorem Hp.Gx{a b c:Hp}(h:a.GI (b.add c)):a.GI b/\a.GI c:=by
 constructor
 ·intro k;rcases h k with h | h
  ·exact .inl h
  ·refine .inr ?_;unfold Hp.add at h;cases hb:b k with
   | none=>rfl
   | some o=>rw[hb]at h;exact absurd h (by simp)
 ·intro k;rcases h k with h | h
  ·exact .inl h
  ·refine .inr ?_;unfold Hp.add at h;cases hb:b k with
   | none=>rw[hb]at h;exact h
   | some o=>rw[hb]at h;exact absurd h (by simp)
theorem Hp.Mw(a:Hp):a.add Hp.none=a:=by funext k;unfold Hp.add Hp.none;cases a k<;>rfl
theorem Hp.Mx(a:Hp):Hp.none.add a=a:=rfl
theorem Hp.RE(a:Hp):a.GI Hp.none:=λ_=>.inr rfl
theorem Hp.Kf(a:Hp):Hp.none.GI a:=λ_=>.inl rfl
theorem My(P Q:bj):sep P Q=sep Q P:=by
 funext h
 apply propext
 constructor <;>
 ·rintro ⟨a,b,hd,rfl,hp,hq⟩
  exact⟨b,a,Hp.vZ hd,Hp.add_comm hd,hq,hp⟩
theorem Fv(P Q R:bj):sep (sep P Q) R=sep P (sep Q R):=by
 funext h
 apply propext
 constructor
 ·rintro ⟨ab,c,hd,rfl,⟨a,b,hd',rfl,hp,hq⟩,hr⟩
  obtain⟨h1,h2⟩:=Hp.Gx (Hp.vZ hd);exact⟨a,b.add c,Hp.B8 hd' (Hp.vZ h1),Hp.add_assoc _ _ _,hp,b,c,Hp.vZ h2,rfl,hq,hr⟩
 ·rintro ⟨a,bc,hd,rfl,hp,b,c,hd',rfl,hq,hr⟩
  obtain⟨h1,h2⟩:=Hp.Gx hd;exact⟨a.add b,c,Hp.vZ (Hp.B8 (Hp.vZ h2) (Hp.vZ hd')),(Hp.add_assoc _ _ _).symm,⟨a,b,h1,rfl,hp,hq⟩,hr⟩
theorem Dy(P Q R:bj):sep P (sep Q R)=sep Q (sep P R):=by
 rw[<-Fv,My P Q,Fv]
theorem Ho(P:bj):sep P Ok=P:=by
 funext h
 apply propext
 constructor
 ·rintro ⟨a,b,_,rfl,hp,rfl⟩;rw[Hp.Mw];exact hp
 ·intro hp;exact⟨h,Hp.none,Hp.RE h,(Hp.Mw h).symm,hp,rfl⟩
theorem B9(L M:List bj):aC (L++M)=sep (aC L) (aC M):=by
 induction L with
 | nil=>show aC M=sep Ok (aC M);rw[My,Ho]
 | cons P L ih=>show sep P (aC (L++M))=sep (sep P (aC L)) (aC M);rw[ih,Fv]
theorem RF{L M:List bj}(h:L.Perm M):aC L=aC M:=by
 induction h with
 | nil=>rfl
 | cons P _ ih=>show sep P _=sep P _;rw[ih]
 | swap P Q L=>exact Dy _ _ _
 | trans _ _ h1 h2=>exact h1.trans h2
def pick(i:Nat)(L:List bj):List bj:=match L[i]? with | some P=>P::L.eraseIdx i | Option.none=>L
theorem Fw(i:Nat)(L:List bj):aC (pick i L)=aC L:=by
 unfold pick
 induction L generalizing i with
 | nil=>rfl
 | cons P L ih =>
  cases i with
  | zero=>rfl
  | succ i =>
   have hi:=ih i;simp only[List.getElem?_cons_succ,List.eraseIdx_cons_succ];cases hg:L[i]? with
   | none=>rfl
   | some Q =>
    rw[hg]at hi;show sep Q (sep P (aC (L.eraseIdx i)))=sep P (aC L);rw[<-hi];exact Dy _ _ _
structure Fit(w0:World)(P:bj)(w:World):Prop where
 sat :∃h:Hp,(∀k o,h k=some o->w.heap[k]? = some o)/\P h
 os:w.os=w0.os
 tape:w.tape=w0.tape
 output:w.output=w0.output
 size:w0.heap.size<=w.heap.size
section
variable {w0 w:World}{L M:List bj}{P Q:bj}
theorem Fit.imp(h:Fit w0 P w)(i:∀x,P x->Q x):Fit w0 Q w:=
 let ⟨x,hx,hp⟩:=h.sat
 ⟨⟨x,hx,i x hp⟩,h.os,h.tape,h.output,h.size⟩
theorem Fit.eq(h:Fit w0 P w)(e:P=Q):Fit w0 Q w:=e▸ h
theorem Fit.perm(h:Fit w0 (aC L) w)(p:L.Perm M):Fit w0 (aC M) w:=h.eq (RF p)
theorem Fit.pick(h:Fit w0 (aC L) w)(i:Nat):Fit w0 (aC (pick i L)) w:=h.eq (Fw i L).symm
theorem Fit.trans{w1:World}{R:bj}(h:Fit w0 R w1)(k:Fit w1 P w):Fit w0 P w:=
 ⟨k.sat,k.os.trans h.os,k.tape.trans h.tape,k.output.trans h.output,Fu h.size k.size⟩
theorem Fit.self(h:Fit w0 P w):Fit w P w:=⟨h.sat,rfl,rfl,rfl,jU _⟩
theorem TI{P P' Q Q':bj}(hp:∀x,P x->P' x)(hq:∀x,Q x->Q' x)(x:Hp)(h:sep P Q x):sep P' Q' x:=
 let ⟨a,b,hd,e,p,q⟩:=h
 ⟨a,b,hd,e,hp a p,hq b q⟩
theorem Fit.head(h:Fit w0 (aC (P::L)) w)(i:∀x,P x->Q x):Fit w0 (aC (Q::L)) w:=h.imp (TI i λ_ q=>q)
theorem Fit.drop(h:Fit w0 (aC (P::L)) w):Fit w0 (aC L) w:=
 let ⟨x,hx,a,b,hd,e,p,q⟩:=h.sat
 ⟨⟨b,λk o hk=>hx k o (by
  rw[e];unfold Hp.add;rcases hd k with h1 | h1
  ·rw[h1];exact hk
  ·rw[h1]at hk;cases hk),q⟩,h.os,h.tape,h.output,h.size⟩
theorem Fit.n8{α:Type}{F:α->bj}(h:Fit w0 (aC (exs F::L)) w) :∃x,Fit w0 (aC (F x::L)) w:=
 let ⟨x,hx,a,b,hd,e,⟨y,p⟩,q⟩:=h.sat
 ⟨y,⟨⟨x,hx,a,b,hd,e,p,q⟩,h.os,h.tape,h.output,h.size⟩⟩
theorem Fit.jZ{α:Type}{F:α->bj}(x:α)(h:Fit w0 (aC (F x::L)) w):Fit w0 (aC (exs F::L)) w:=h.head λ_ p=>⟨x,p⟩
theorem Fit.zU{p:Prop}(h:Fit w0 (aC (RD p::L)) w):p/\Fit w0 (aC L) w:=
 let ⟨_,_,_,_,_,_,⟨hp,_⟩,_⟩:=h.sat
 ⟨hp,h.drop⟩
theorem Fit.ym{p:Prop}(hp:p)(h:Fit w0 (aC L) w):Fit w0 (aC (RD p::L)) w:=
 h.imp λx hx=>⟨Hp.none,x,Hp.Kf x,(Hp.Mx x).symm,⟨hp,rfl⟩,hx⟩
theorem Fit.tM(h:Fit w0 (aC (aC M::L)) w):Fit w0 (aC (M++L)) w:=h.eq (B9 M L).symm
theorem Fit.sY(M L:List bj)(h:Fit w0 (aC (M++L)) w):Fit w0 (aC (aC M::L)) w:=h.eq (B9 M L)
theorem Fit.block{b:Nat}{o:Obj}(h:Fit w0 (aC (pts b o::L)) w):w.heap[b]? = some o:=by
 obtain⟨x,hx,a,c,hd,e,p,q⟩:=h.sat;refine hx b o ?_;rw[e,p];unfold Hp.add;simp
theorem Fit.lt{b:Nat}{o:Obj}(h:Fit w0 (aC (pts b o::L)) w):b<w.heap.size:=(Array.getElem?_eq_some_iff.1 h.block).1
theorem Fit.cell{b:Nat}{cs:Array Value}{t:TypeId}{z:Nat×Nat}(h:Fit w0 (aC (pts b (.cells cs t z)::L)) w)(i:Nat){v:Value}(hv:cs[i]? = some v):w.cell? ⟨b,i,none⟩=some v:=by
 simp only[World.cell?,h.block]
 simpa using hv
theorem Fit.news{b:Nat}{cs:Array Value}{t:TypeId}{z:Nat×Nat}(h:Fit w0 (aC (pts b (.cells cs t z)::L)) w){xs:List Value}(hx:cs.toList=xs):∀j u,xs[j]? = some u->w.cell? ((⟨b,0,none⟩:Addr).add j)=some u:=by
 subst hx;intro j u hu;have e:(⟨b,0,none⟩:Addr).add j=⟨b,j,none⟩:=by unfold Addr.add;split<;>simp_all
 rw[e];exact h.cell j (by simpa using hu)
theorem Fit.free{b:Nat}{cs:Array Value}{t:TypeId}(h:Fit w0 (aC (pts b (.cells cs t)::L)) w)(i:Nat):w.frozen? ⟨b,i,none⟩=false:=by
 simp[World.frozen?,h.block]
theorem Fit.alloc(h:Fit w0 (aC L) w)(o:Obj):Fit w0 (aC (pts w.heap.size o::L)) (w.alloc o):=by
 obtain⟨x,hx,hp⟩:=h.sat;have hlt:∀k o',x k=some o'->k<w.heap.size:=λk o' hk=>(Array.getElem?_eq_some_iff.1 (hx k o' hk)).1;refine⟨⟨_,?_,(λk=>if k=w.heap.size then some o else Option.none),x,?_,rfl,rfl,hp⟩,h.os,h.tape,h.output,?_⟩
 ·intro k o' hk;unfold Hp.add at hk;by_cases e:k=w.heap.size
  ·subst e;simp at hk;subst hk;exact heap_alloc_new w o
  ·simp only[e,if_false]at hk;rw[Below.heap_alloc w o k (hlt k o' hk)];exact hx k o' hk
 ·intro k;by_cases e:k=w.heap.size
  ·right
   cases hk:x k with
   | none=>rfl
   | some o'=>have:=hlt k o' hk;omega
  ·left;simp[e]
 ·have:=h.size;simp;omega
theorem Fit.drew(h:Fit w0 P w):Fit w0 P w.drew:=⟨h.sat,h.os,h.tape,h.output,h.size⟩
theorem Fit.turn{b:Nat}{o o':Obj}{w':World}(h:Fit w0 (aC (pts b o::L)) w)(hb:w'.heap[b]? = some o')(hr:∀k,k≠b->k<w.heap.size->w'.heap[k]? = w.heap[k]?)
 (hos:w'.os=w.os) (ht:w'.tape=w.tape) (ho:w'.output=w.output) (hs:w.heap.size<=w'.heap.size):Fit w0 (aC (pts b o'::L)) w':=by
 obtain⟨x,hx,a,c,hd,e,p,q⟩:=h.sat;refine⟨⟨_,?_,(λk=>if k=b then some o' else Option.none),c,?_,rfl,rfl,q⟩,hos.trans h.os,ht.trans h.tape,ho.trans h.output,Fu h.size hs⟩
 ·intro k o'' hk;unfold Hp.add at hk;by_cases ek:k=b
  ·subst ek;simp at hk;subst hk;exact hb
  ·simp only[ek,if_false]at hk;have hk':x k=some o'':=by rw[e,p];unfold Hp.add;simp[ek,hk]
   have hw:=hx k o'' hk';rw[hr k ek (Array.getElem?_eq_some_iff.1 hw).1];exact hw
 ·intro k;by_cases ek:k=b
  ·right
   rcases hd k with h1 | h1
   ·rw[p]at h1;simp[ek]at h1
   ·exact h1
  ·left;simp[ek]
theorem Fit.set{b:Nat}{cs:Array Value}{t:TypeId}(h:Fit w0 (aC (pts b (.cells cs t)::L)) w)(i:Nat)(v:Value) :
 Fit w0 (aC (pts b (.cells (cs.setIfInBounds i v) t)::L)) (w.setCell ⟨b,i,none⟩ v):=by
 refine h.turn (w':=w.setCell ⟨b,i,none⟩ v) ?_ ?_ rfl rfl rfl (by simp)
 ·simp[World.setCell,Array.getElem?_modify,h.block]
 ·intro k hk _;exact Below.heap_setCell _ _ _ _ hk
end
def old(ag1:World):bj:=λh=>h=λk=>ag1.heap[k]?
theorem Fit.begin(ag1:World):Fit ag1 (aC [old ag1]) ag1:=
 ⟨⟨λk=>ag1.heap[k]?,λ_ _ h=>h,by show sep (old ag1) Ok _;rw[Ho];exact rfl⟩,rfl,rfl,rfl,jU _⟩
theorem Fit.below{ag1 w:World}{L:List bj}(h:Fit ag1 (aC (old ag1::L)) w):Below ag1.heap.size ag1 w:=by
 obtain⟨x,hx,a,c,hd,e,p,q⟩:=h.sat;refine⟨h.os,h.tape,h.output,h.size,λk hk => ?_⟩;have hk':ag1.heap[k]? = some ag1.heap[k]:=Array.getElem?_eq_getElem hk;rw[hk'];refine hx k _ ?_;rw[e,p];unfold Hp.add;simp[hk']
theorem Fit.RG{z ag1 w:World}{L:List bj}(h:Fit z (aC (old ag1::L)) w){k:Nat}{o:Obj}(hk:ag1.heap[k]? = some o):w.heap[k]? = some o:=by
 obtain⟨x,hx,a,c,hd,e,p,q⟩:=h.sat;refine hx k _ ?_;rw[e,p];unfold Hp.add;simp[hk]
theorem Fit.Mz{z ag1 w:World}{L:List bj}{ad:Addr}{u:Value}(h:Fit z (aC (old ag1::L)) w)(hc:ag1.cell? ad=some u):w.cell? ad=some u:=by
 have hlt:=World.block_lt_of_cell? ag1 ad hc;have hk:ag1.heap[ad.block]? = some ag1.heap[ad.block]:=Array.getElem?_eq_getElem hlt;have:=h.RG hk;simp only[World.cell?]at hc⊢;rw[this];rw[hk]at hc;exact hc
structure tZ{α:Type}(enc:α->List Value)(sz:Nat):Prop where
 len:∀x,(enc x).length=sz
 one:∀x,∀u∈enc x,u.oneCell'=true
 pos:0<sz
theorem tZ.flat{α:Type}{enc:α->List Value}{sz:Nat}(he:tZ enc sz)(l:List α):(l.flatMap enc).length=l.length*sz:=by
 induction l with
 | nil=>simp
 | cons x l ih=>rw[Oy,j6,he.len,ih,BG,vj,Nat.one_mul,Oz]
theorem tZ.zV{α:Type}{enc:α->List Value}{sz:Nat}(he:tZ enc sz)(l:List α):∀u∈l.flatMap enc,u.oneCell'=true:=by
 intro u hu;obtain⟨x,_,hx⟩:=List.mem_flatMap.1 hu;exact he.one x u hx
theorem tZ.get{α:Type}{enc:α->List Value}{sz:Nat}(he:tZ enc sz)(l:List α)(i f:Nat)(x:α)(hi:l[i]? = some x)(hf:f<sz):(l.flatMap enc)[i*sz+f]? = (enc x)[f]?:=by
 induction l generalizing i with
 | nil=>simp at hi
 | cons y l ih =>
  rw[Oy];cases i with
  | zero =>
   simp at hi;subst hi;rw[Nat.zero_mul,BX,List.getElem?_append_left (by rw[he.len];exact hf)]
  | succ i =>
   rw[List.getElem?_append_right (by rw[he.len,vj];omega),he.len,show(i+1)*sz+f-sz=i*sz+f by rw[vj];omega];exact ih i (by simpa using hi)
theorem tZ.set{α:Type}{enc:α->List Value}{sz:Nat}(he:tZ enc sz)(l:List α)(i:Nat)(x:α)(hi:i<l.length) :
 (l.set i x).flatMap enc=(l.flatMap enc).take (i*sz)++enc x++(l.flatMap enc).drop (i*sz+sz):=by
 induction l generalizing i with
 | nil=>simp at hi
 | cons y l ih =>
  cases i with
  | zero =>
   simp only[List.set_cons_zero,Oy,Nat.zero_mul,vY,AD,BX]
   congr 1
   rw[J7 (by rw[he.len];exact jU _),zR (by rw[he.len];exact jU _),AD]
  | succ i =>
   simp only[List.set_cons_succ,Oy];rw[ih i (by simpa using hi)];have h1:(i+1)*sz=sz+i*sz:=by rw[vj];omega
   have t1:(enc y).take (sz+i*sz)=enc y:=Gp (by rw[he.len];omega);have d1:(enc y).drop (sz+i*sz+sz)=[]:=zR (by rw[he.len];omega);rw[h1,J8,t1,he.len,show sz+i*sz-sz=i*sz by omega,List.drop_append,d1,he.len,show sz+i*sz+sz-sz=i*sz+sz by omega];simp only[AD,q9]
def rowOf{α:Type}(e:TypeId)(sz:Nat)(enc:α->List Value)(v:Value)(l:List α):bj:=λh =>
 (v= .slice none 0 0/\l=[]/\h=Hp.none)∨
 ∃g cap cur,v= .slice (some ⟨g,0,none⟩) l.length cap/\l.length<=cap/\cap<=maxLen/\cur.size=cap*sz/\cur.toList.take (l.length*sz)=l.flatMap enc/\pts g (.cells cur e) h
def slc{α:Type}(e:TypeId)(sz:Nat)(enc:α->List Value)(g cap:Nat)(l:List α):bj:=λh =>
 l.length<=cap/\cap<=maxLen/\∃cur:Array Value,cur.size=cap*sz/\cur.toList.take (l.length*sz)=l.flatMap enc/\pts g (.cells cur e) h
section
variable {w0 w:World}{L:List bj}{α:Type}{e:TypeId}{sz:Nat}{enc:α->List Value}{v:Value}{l:List α}{g cap:Nat}
theorem Fit.rows(h:Fit w0 (aC (rowOf e sz enc v l::L)) w):(v= .slice none 0 0/\l=[]/\Fit w0 (aC L) w)∨∃g cap,v= .slice (some ⟨g,0,none⟩) l.length cap/\l.length<=cap/\Fit w0 (aC (slc e sz enc g cap l::L)) w:=by
 obtain⟨x,hx,a,c,hd,ee,hp,q⟩:=h.sat;rcases hp with ⟨h1,h2,h3⟩ | ⟨g,cap,cur,h1,h2,h3,h4,h5,h6⟩
 ·left
  exact⟨h1,h2,h.drop⟩
 ·right
  exact⟨g,cap,h1,h2,⟨x,hx,a,c,hd,ee,⟨h2,h3,cur,h4,h5,h6⟩,q⟩,h.os,h.tape,h.output,h.size⟩
theorem Fit.TJ(h:Fit w0 (aC (rowOf e sz enc v l::L)) w)(hl:0<l.length) :∃g cap,v= .slice (some ⟨g,0,none⟩) l.length cap/\l.length<=cap/\Fit w0 (aC (slc e sz enc g cap l::L)) w:=by
 rcases h.rows with ⟨_,h2,_⟩ | h
 ·rw[h2]at hl;simp at hl
 ·exact h
theorem Fit.WN{ca:fP}{m cc:Nat}(h:Fit w0 (aC (rowOf e sz enc (.slice ca m cc) l::L)) w)(hl:0<l.length) :
 ∃g,ca=some ⟨g,0,none⟩/\Fit w0 (aC (slc e sz enc g cc l::L)) w:=by
 obtain⟨g,cap,e,_,h⟩:=h.TJ hl;simp only[Value.slice.injEq]at e;obtain⟨rfl,_,rfl⟩:=e;exact⟨g,rfl,h⟩
theorem Fit.YF(h:Fit w0 (aC (slc e sz enc g cap l::L)) w):Fit w0 (aC (rowOf e sz enc (.slice (some ⟨g,0,none⟩) l.length cap) l::L)) w:=
 h.head λ_ ⟨h1,h2,cur,h3,h4,h5⟩=>.inr ⟨g,cap,cur,rfl,h1,h2,h3,h4,h5⟩
theorem Fit.Qd{m:Nat}(hm:m=l.length)(h:Fit w0 (aC (slc e sz enc g cap l::L)) w):Fit w0 (aC (rowOf e sz enc (.slice (some ⟨g,0,none⟩) m cap) l::L)) w:=hm▸ h.YF
theorem Fit.WO{ca:fP}{m:Nat}(hca:ca=some ⟨g,0,none⟩)(hm:m=l.length)(h:Fit w0 (aC (slc e sz enc g cap l::L)) w):Fit w0 (aC (rowOf e sz enc (.slice ca m cap) l::L)) w:=by
 subst hca;subst hm;exact h.YF
theorem Fit.fM(h:Fit w0 (aC L) w):Fit w0 (aC (rowOf e sz enc (.slice none 0 0) ([]:List α)::L)) w:=
 h.imp λx hx=>⟨Hp.none,x,Hp.Kf x,(Hp.Mx x).symm,.inl ⟨rfl,rfl,rfl⟩,hx⟩
theorem Fit.Hq(h:Fit w0 (aC (rowOf e sz enc v l::L)) w) :∃a cap,v= .slice a l.length cap/\(a=none->l=[]/\cap=0)/\l.length<=cap:=by
 rcases h.rows with ⟨rfl,rfl,_⟩ | ⟨g,cap,rfl,hc,_⟩
 ·exact⟨none,0,rfl,λ_=>⟨rfl,rfl⟩,jU _⟩
 ·exact⟨_,cap,rfl,(λh=>by cases h),hc⟩
theorem Fit.rA{ca:fP}{m cc:Nat}(h:Fit w0 (aC (rowOf e sz enc (.slice ca m cc) l::L)) w):m=l.length:=by
 obtain⟨a,cap,e,_,_⟩:=h.Hq;simp only[Value.slice.injEq]at e;exact e.2.1
theorem Fit.yZ(h:Fit w0 (aC (slc e sz enc g cap l::L)) w):l.length<=cap/\cap<=maxLen:=by
 obtain⟨x,hx,a,c,hd,ee,⟨h1,h2,_⟩,q⟩:=h.sat;exact⟨h1,h2⟩
theorem Fit.ql(h:Fit w0 (aC (slc e sz enc g cap l::L)) w) :∃cur:Array Value,cur.size=cap*sz/\cur.toList.take (l.length*sz)=l.flatMap enc/\Fit w0 (aC (pts g (.cells cur e)::L)) w:=by
 obtain⟨x,hx,a,c,hd,ee,⟨h1,h2,cur,h3,h4,h5⟩,q⟩:=h.sat;exact⟨cur,h3,h4,⟨x,hx,a,c,hd,ee,h5,q⟩,h.os,h.tape,h.output,h.size⟩
theorem Fit.Qe(he:tZ enc sz)(h:Fit w0 (aC (slc e sz enc g cap l::L)) w)(i f:Nat)(x:α)(u:Value)(hi:l[i]? = some x)(hf:(enc x)[f]? = some u):w.cell? ⟨g,i*sz+f,none⟩=some u:=by
 obtain⟨cur,h1,h2,h3⟩:=h.ql;have hfs:f<sz:=by rw[<-he.len x];exact(List.getElem?_eq_some_iff.1 hf).1
 have GJ:i<l.length:=(List.getElem?_eq_some_iff.1 hi).1;refine h3.cell _ ?_;have h4:=he.get l i f x hi hfs;rw[<-h2,List.getElem?_take]at h4;have:i*sz+f<l.length*sz:=by
  have:(i+1)*sz<=l.length*sz:=sH _ GJ;rw[vj]at this;omega
 rw[aP this,hf]at h4
 simpa using h4
theorem Fit.TK(h:Fit w0 (aC (slc e sz enc g cap l::L)) w)(j:Nat):w.frozen? ⟨g,j,none⟩=false:=by
 obtain⟨cur,h1,h2,h3⟩:=h.ql;exact h3.free j
theorem Jp{β:Type}(cur xs:List β)(n i:Nat)(v:β)(h:cur.take n=xs)(_hi:i<n):(cur.set i v).take n=xs.set i v:=by
 subst h;rw[List.take_set]
theorem WQ{β:Type}(A B C:List β)(k f:Nat)(u:β)(hk:k=A.length)(hf:f<B.length):(A++B++C).set (k+f) u=A++B.set f u++C:=by
 subst hk;rw[q9,List.set_append_right _ _ I,show A.length+f-A.length=f by omega,List.set_append_left _ _ hf,q9]
theorem Fit.WR(he:tZ enc sz)(h:Fit w0 (aC (slc e sz enc g cap l::L)) w)(i f:Nat)(x y:α)(u:Value)(hi:l[i]? = some x)(hf:f<sz)(hy:enc y=(enc x).set f u) :
 Fit w0 (aC (slc e sz enc g cap (l.set i y)::L)) (w.setCell ⟨g,i*sz+f,none⟩ u):=by
 obtain⟨h1',h2'⟩:=h.yZ;obtain⟨cur,h1,h2,h3⟩:=h.ql;have GJ:i<l.length:=(List.getElem?_eq_some_iff.1 hi).1;refine(h3.set (i*sz+f) u).head λz hz=>⟨by simpa using h1',h2',cur.setIfInBounds (i*sz+f) u,by simpa using h1,?_,hz⟩;have hlt:i*sz+f<l.length*sz:=by
  have:(i+1)*sz<=l.length*sz:=sH _ GJ;rw[vj]at this;omega
 have HO:l.set i x=l:=by
  apply zS
  intro j;by_cases hj:i=j
  ·subst hj;rw[List.getElem?_set_self GJ,hi]
  ·rw[List.getElem?_set_ne hj]
 have hA:((l.flatMap enc).take (i*sz)).length=i*sz:=by
  have hle:i*sz<=l.length*sz:=sH _ (Nat.le_of_lt GJ);rw[vk,he.flat];exact yW hle
 have e1:=he.set l i x GJ;rw[HO]at e1;rw[Array.toList_setIfInBounds,hU,Jp _ _ _ _ _ h2 hlt,he.set l i y GJ,hy]
 conv=>lhs;rw[e1]
 exact WQ _ _ _ _ _ _ hA.symm (by rw[he.len];exact hf)
end
section
variable {P:Program}{w0 w:World}{L:List bj}{α:Type}{e:TypeId}{sz:Nat}{enc:α->List Value}{v:Value}{l:List α}
theorem HP(he:tZ enc sz)(t ty:TypeId)(i:TypeInfo)(z:Value)(bytes:Nat)(ht:P.underlying t=some (.slice e))(hi:P.info? e=some i)(hz:i.zero=some z)
 (hsize:i.size=sz) (hby:i.bytes=bytes) (hzs:z.cells.size=sz) (h:Fit w0 (aC (rowOf e sz enc v l::L)) w)
 (ad:Addr) (m c:Nat) (news:List α) (hm:news.length=m) (hnews:∀j u,(news.flatMap enc)[j]? = some u->w.cell? (ad.add j)=some u)
 (h63:l.length+m<=maxLen) (hbytes:(l.length+m)*bytes<=140737488355328) :
 ∃v' w',(Builtin.append_ #[t,t] ty #[v,.slice (some ad) m c]).run P w= .ok v' w'/\Fit w0 (aC (rowOf e sz enc v' (l++news)::L)) w':=by
 subst hsize;subst hby;have hlen:(news.flatMap enc).length=m*i.size:=by rw[he.flat,hm]
 have WS:((l.length+m:Nat):Int)<=9223372036854775807:=by simp only[maxLen]at h63;omega
 have grown:∀old,old<l.length+m->Fit w0 (aC L) w->
  Fit w0 (aC (rowOf e i.size enc (.slice (some ⟨w.heap.size,0,none⟩) (l.length+m) (grownCap w (l.length+m) old e)) (l++news)::L))
   (w.drew.alloc (.cells ((l.flatMap enc).toArray++(news.flatMap enc).toArray++Builtin.zeroCells z.cells (grownCap w (l.length+m) old e-(l.length+m))) e)):=by
  intro old ho hF;have hge:=grownCap_ge w (l.length+m) old e;have hcm:grownCap w (l.length+m) old e<=maxLen:=grownCap_le_maxLen w (l.length+m) old e h63;refine(hF.drew.alloc _).head λx hx=>.inr ⟨w.heap.size,_,_,by rw[j6,hm],by rw[j6,hm];exact hge,hcm,?_,?_,hx⟩
  ·simp only[Array.size_append,Dt,size_zeroCells,hzs,he.flat,hm,<-vj]
   congr 1
   omega
  ·rw[Es,j6,hm];simp only[Array.toList_append];rw[show(l.length+m)*i.size=((l.flatMap enc)++(news.flatMap enc)).length by rw[j6,hlen,he.flat,vj]];exact Gq
 rcases h.rows with ⟨rfl,rfl,hF⟩ | ⟨g,cap,rfl,hc,hF⟩
 ·by_cases TL:m=0
  ·subst TL;have hn:news=[]:=Gr hm;subst hn;refine⟨.slice none 0 0,w,?_,hF.fM⟩;simp[Builtin.append_,run_underlying ht,sizeOf,typeInfo,hi,Builtin.lenOf,Builtin.firstCells,loadCells,loadCellsFrom]
  ·have hr:=run_append_nil (P:=P) w t ty e i z ht hi hz ad m c (news.flatMap enc) hlen hnews I (by simp at WS;omega) (by have hb:=hbytes;simp only[yX,BX]at hb;omega);have hg:=grown 0 I hF;simp only[yX,BX,AD,List.flatMap_nil,Array.empty_append]at hg;exact⟨_,_,hr,by simpa using hg⟩
 ·obtain⟨cur,hs,htk,hP⟩:=hF.ql;obtain⟨_,hcm⟩:=hF.yZ;by_cases hroom:l.length+m<=cap
  ·have hfit:l.length*i.size+(news.flatMap enc).length<=cur.size:=by rw[hlen,hs,<-vj];exact sH _ hroom
   have hr:=run_append_room (P:=P) w t ty e i ht hi g l.length cap cur hP.block ad m c (news.flatMap enc) hlen hnews (he.zV news) hroom hfit;refine⟨_,_,hr,?_⟩;refine(hP.turn (w':=w.setRow g (cur.toList.take (l.length*i.size)++news.flatMap enc++cur.toList.drop (l.length*i.size+(news.flatMap enc).length)).toArray) (setRow_heap w g cur _ e _ hP.block) (λk hk _=>setRow_other w g k _ hk) rfl rfl rfl (by simp)).head ?_;intro x hx;refine .inr ⟨g,cap,_,by rw[j6,hm],by rw[j6,hm];exact hroom,hcm,?_,?_,hx⟩
   ·simp only[Dt,j6,vk,BZ,vl];omega
   ·rw[htk,Es,j6,hm];rw[show(l.length+m)*i.size=((l.flatMap enc)++(news.flatMap enc)).length by rw[j6,hlen,he.flat,vj]];exact Gq
  ·have holds:∀j u,(l.flatMap enc)[j]? = some u->w.cell? ((⟨g,0,none⟩:Addr).add j)=some u:=by
    intro j u hu;rw[wH,BX];refine hP.cell j ?_;rw[<-htk,List.getElem?_take]at hu;split at hu
    ·simpa using hu
    ·cases hu
   have hr:=run_append_grow (P:=P) w t ty e i z ht hi hz ⟨g,0,none⟩ l.length cap (l.flatMap enc) (he.flat l) holds ad m c (news.flatMap enc) hlen hnews I WS (growslice_fits I hbytes);exact⟨_,_,hr,grown cap I hP.drop⟩
end
end SL
end
section
namespace GX
open Go Go.RowKit SL
def lk:List (Nat×Value)->(Nat->Value)->Nat->Value
 | [],j,t=>j t
 | (k,v)::r,j,t=>bif Nat.beq t k then v else lk r j t
def eZ(e:Nat->Value):Operand->Value
 | .tmp t=>e t
 | .const v=>v
 | .global g=>.pointer (some ⟨g,0,none⟩)
 | .func f=>.func (.func f) #[] #[]
structure cX(D:List Deferred)(n:Nat)(e:Nat->Value)(a:Act):Prop where
 size:a.tmps.size=n
 get:∀t,a.tmps.getD t undef=e t
 defers:a.defers=D
abbrev kX(n:Nat)(e:Nat->Value)(a:Act):Prop:=cX [] n e a
section
variable {P:Program}{ops:Array Oper}{Q:Exit->Act->World->Prop}{a:Act}{w w0 w1:World}{rest:List Oper}{o:Oper}{n d t:Nat}{v:Value}{l:List (Nat×Value)}{j e:Nat->Value}{L:List bj}{H:bj}{Df:List Deferred}
theorem cX.eval(h:cX Df n e a):a.eval=eZ e:=by
 funext x
 cases x with
 | tmp t=>exact h.get t
 | _=>rfl
theorem cX.put(h:cX Df n (lk l j) a)(d:Nat)(v:Value)(hd:Nat.blt d n=true):cX Df n (lk ((d,v)::l) j) (a.put (some d) v):=by
 have hd':d<a.tmps.size:=by rw[h.size];exact qa hd
 refine⟨by simp[Act.put,h.size],λt => ?_,h.defers⟩;show(a.tmps.setIfInBounds d v).getD t undef=bif Nat.beq t d then v else lk l j t;rw[<-h.get t];by_cases e:t=d
 ·subst e;simp[wI,hd']
 ·have hb:Nat.beq t d=false:=by
   cases hb:Nat.beq t d with
   | false=>rfl
   | true=>exact absurd (P9 hb) e
  rw[hb];simp[wI,Array.getElem?_setIfInBounds_ne (Ne.symm e)]
def allEq(e:Nat->Value):List (Nat×Value)->Prop
 | []=>True
 | (t,v)::r=>e t=v/\allEq e r
theorem wJ:∀{l:List (Nat×Value)},allEq e l->lk l e=e
 | [],_=>rfl
 | (k,v)::r,h=>by
  funext t
  show(bif Nat.beq t k then v else lk r e t)=e t;rw[wJ h.2];cases hb:Nat.beq t k with
  | false=>rfl
  | true=>have:=P9 hb;subst this;exact h.1.symm
theorem cX.fold(h:cX Df n e a)(l:List (Nat×Value))(hl:allEq e l) :∃j,cX Df n (lk l j) a:=⟨e,by rw[wJ hl];exact h⟩
theorem wn(h:o.guard=none):Region.wanted o (yielded ops a.tmps)=true:=by simp[Region.wanted,h]
theorem wg{i:Nat}{b b':Bool}(hr:cX Df n e a)(hg:o.guard=some (i,b))(hi:(ops[i]?).bind (·.dst)=some t)(ht:Nat.blt t n=true)(he:e t= .bool b') :
 Region.wanted o (yielded ops a.tmps)=(b'==b):=by
 have ht':t<a.tmps.size:=by rw[hr.size];exact qa ht
 have hg2:a.tmps[t]? = some (.bool b'):=by
  have:=hr.get t;rw[he,wI,Array.getElem?_eq_getElem ht']at this;rw[Array.getElem?_eq_getElem ht']
  simpa using this
 simp only[Region.wanted,hg,yielded,hi,Option.bind_some,hg2];cases b'<;>cases b<;>rfl
theorem xM(hw:vg o ops a)(h:o.wp P a w (wpList P ops Q rest) Q):wpList P ops Q (o::rest) a w:=by
 unfold wpList;rw[aP hw];exact .inl h
theorem AE(hw:vg o ops a)(hd:o.dst=some d)(hn:Nat.blt d n=true)(hr:cX Df n (lk l j) a)
 (hrun:(execOp (eZ (lk l j)) o).run P w= .ok (.value v) w) (k:∀a,cX Df n (lk ((d,v)::l) j) a->wpList P ops Q rest a w):wpList P ops Q (o::rest) a w:=by
 refine xM hw ?_;unfold Oper.wp;rw[hr.eval,hrun,Oper.upon_value,hd];exact k _ (hr.put d v hn)
theorem sw(hw:vg o ops a)(hd:o.dst=some d)(hn:Nat.blt d n=true)(hr:cX Df n (lk l j) a)
 (hrun:(execOp (eZ (lk l j)) o).run P w= .ok (.value v) w1) (k:∀a,cX Df n (lk ((d,v)::l) j) a->wpList P ops Q rest a w1):wpList P ops Q (o::rest) a w:=by
 refine xM hw ?_;unfold Oper.wp;rw[hr.eval,hrun,Oper.upon_value,hd];exact k _ (hr.put d v hn)
theorem Eu(hw:vg o ops a)(hd:o.dst=none)(hr:cX Df n (lk l j) a)
 (hrun:(execOp (eZ (lk l j)) o).run P w= .ok .skip w1) (k:wpList P ops Q rest a w1):wpList P ops Q (o::rest) a w:=by
 refine xM hw ?_;unfold Oper.wp;rw[hr.eval,hrun,Oper.upon_skip,hd];exact k
theorem OA(hw:Region.wanted o (yielded ops a.tmps)=false)(hd:o.dst=some d)(hn:Nat.blt d n=true)(hr:cX Df n (lk l j) a)
 (k:∀a,cX Df n (lk ((d,undef)::l) j) a->wpList P ops Q rest a w):wpList P ops Q (o::rest) a w:=by
 unfold wpList;rw[dR hw,hd];exact k _ (hr.put d undef hn)
theorem OB{cs:Array Value}{T:TypeId}{vf:Nat->Value}(hw:vg o ops a)(hd:o.dst=some d)(hn:Nat.blt d n=true)(hr:cX Df n (lk l j) a)(hF:Fit w0 (aC L) w)
 (hrun:(execOp (eZ (lk l j)) o).run P w= .ok (.value (vf w.heap.size)) (w.alloc (.cells cs T)))
 (k:∀b w1 a,Fit w0 (aC (pts b (.cells cs T)::L)) w1->cX Df n (lk ((d,vf b)::l) j) a->wpList P ops Q rest a w1):wpList P ops Q (o::rest) a w:=
 sw hw hd hn hr hrun λ_ GK=>k _ _ _ (hF.alloc _) GK
theorem uF{f:FuncId}{args:Array Value}{R:Ending->World->Prop}(hw:vg o ops a)(hd:o.dst=some d)(hn:Nat.blt d n=true)(hr:cX Df n (lk l j) a)
 (hrun:(execOp (eZ (lk l j)) o).run P w= .ok (.enter f args) w) (hc:Calls P f args w R)
 (k:∀e w1,R e w1->∃v,e= .returned v/\∀a,cX Df n (lk ((d,v)::l) j) a->wpList P ops Q rest a w1):wpList P ops Q (o::rest) a w:=by
 refine xM hw ?_;unfold Oper.wp;rw[hr.eval,hrun,Oper.upon_enter,hd];refine hc.mono λe w1 h => ?_;obtain⟨v,rfl,h2⟩:=k e w1 h;exact h2 _ (hr.put d v hn)
theorem rb{b c:Bool}{s:Sem Next}{w w':World}(h:s.run P w= .ok (.value (.bool b)) w')(hz:b=c):s.run P w= .ok (.value (.bool c)) w':=hz▸ h
theorem i64_in(x:Int)(h:-9223372036854775808<=x/\x<=9223372036854775807):IntKind.i64.wrap x=x:=IntWalk.i64_in _ h
def yn:Option TypeDesc->Bool
 | some (.struct _)=>false
 | some (.array _ _)=>false
 | some _=>true
 | none=>false
theorem KQ{t:TypeId}(h:yn (P.underlying t)=true):(isAgg t).run P w= .ok false w:=by
 cases hu:P.underlying t with
 | none=>rw[hu]at h;cases h
 | some D =>
  rw[hu]at h;simp only[isAgg,n5,run_underlying hu,n6];cases D<;>first | rfl | cases h
theorem rl{x:Operand}{ad:Addr}(ho:o.op= .load t x)(hx:eZ e x= .pointer (some ad))(hu:yn (P.underlying t)=true)(hc:w.cell? ad=some v) :
 (execOp (eZ e) o).run P w= .ok (.value v) w:=by
 unfold execOp;simp only[ho,Instr.loadAt,hx,Instr.sureAddr,loadVar,n5,uo,n6,KQ hu];simp[go_sem,hc]
theorem rs{x y:Operand}{ad:Addr}{u:Value}(ho:o.op= .store t x y)(hx:eZ e x= .pointer (some ad))(hy:eZ e y=v)(hv:v.cells=#[v])(h1:v.oneCell'=true)(hs:(P.info? t).map (·.size)=some 1)(hc:w.cell? ad=some u)(hf:w.frozen? ad=false) :
 (execOp (eZ e) o).run P w= .ok .skip (w.setCell ad v):=by
 have hst:(Instr.storeAt t (.pointer (some ad)) v).run P w= .ok () (w.setCell ad v):=by
  cases hi:P.info? t with
  | none=>simp[hi]at hs
  | some i =>
   simp[hi]at hs;have ha:ad.add 0=ad:=by unfold Addr.add;rw[aP rfl]
   simp only[Instr.storeAt,Instr.sureAddr,storeVar,n5,uo,n6,sizeOf,typeInfo,hv,run_program,hi];simp[storeCells,ha,hs,run_store P w ad v _ h1,hc,hf]
 unfold execOp;simp only[ho,hx,hy,n5,hst,n6,uo]
theorem Fx{c x y:Operand}{b:Bool}(ho:o.op= .pick c x y)(hc:eZ e c= .bool b)(hb:b=true)(hx:eZ e x=v):(execOp (eZ e) o).run P w= .ok (.value v) w:=by
 subst hb;subst hx;unfold execOp;simp[ho,hc,asBool]
theorem GL{c x y:Operand}{b:Bool}(ho:o.op= .pick c x y)(hc:eZ e c= .bool b)(hb:b=false)(hx:eZ e y=v):(execOp (eZ e) o).run P w= .ok (.value v) w:=by
 subst hb;subst hx;unfold execOp;simp[ho,hc,asBool]
theorem ri{x y:Operand}{g off len cap:Nat}{k:IntKind}{i:Int}{E:TypeId}{sz:Nat}(ho:o.op= .indexAddr t x y)(hx:eZ e x= .slice (some ⟨g,off,none⟩) len cap)(hy:eZ e y= .int k i)
 (ht:P.underlying t=some (.slice E)) (hs:(P.info? E).map (·.size)=some sz) (h0:0<=i) (h1:i<len):(execOp (eZ e) o).run P w= .ok (.value (.pointer (some ⟨g,off+i.toNat*sz,none⟩))) w:=by
 unfold execOp;simp only[ho,hx,hy];cases hi:P.info? E with
 | none=>simp[hi]at hs
 | some q =>
  simp[hi]at hs;simp[Instr.indexAt,run_underlying ht,asIntOf,h0,h1,sizeOf,typeInfo,hi,hs,wH]
theorem ri0{x y:Operand}{g len cap:Nat}{k:IntKind}{i:Int}{E:TypeId}{sz:Nat}(ho:o.op= .indexAddr t x y)(hx:eZ e x= .slice (some ⟨g,0,none⟩) len cap)(hy:eZ e y= .int k i)
 (ht:P.underlying t=some (.slice E)) (hs:(P.info? E).map (·.size)=some sz) (h0:0<=i) (h1:i<len):(execOp (eZ e) o).run P w= .ok (.value (.pointer (some ⟨g,i.toNat*sz,none⟩))) w:=by
 have:=ri (w:=w) ho hx hy ht hs h0 h1
 rwa [BX]at this
theorem ZE{x y:Operand}{g len cap:Nat}{ca:fP}{k:IntKind}{i:Int}{E:TypeId}{sz:Nat}(hca:ca=some ⟨g,0,none⟩)(ho:o.op= .indexAddr t x y)(hx:eZ e x= .slice ca len cap)(hy:eZ e y= .int k i)
 (ht:P.underlying t=some (.slice E)) (hs:(P.info? E).map (·.size)=some sz) (h0:0<=i) (h1:i<len):(execOp (eZ e) o).run P w= .ok (.value (.pointer (some ⟨g,i.toNat*sz,none⟩))) w:=
 ri0 ho (hca▸ hx) hy ht hs h0 h1
theorem rie{x y:Operand}{g off len cap:Nat}{ca:fP}{k:IntKind}{i:Int}{E:TypeId}{sz:Nat}(hca:ca=some ⟨g,off,none⟩)(ho:o.op= .indexAddr t x y)(hx:eZ e x= .slice ca len cap)(hy:eZ e y= .int k i)
 (ht:P.underlying t=some (.slice E)) (hs:(P.info? E).map (·.size)=some sz) (h0:0<=i) (h1:i<len):(execOp (eZ e) o).run P w= .ok (.value (.pointer (some ⟨g,off+i.toNat*sz,none⟩))) w:=
 ri ho (hca▸ hx) hy ht hs h0 h1
theorem MA{x y:Operand}{k:IntKind}{p q:Int}{T T':TypeId}(ho:o.op= .binOp .rem T x y T')(hx:eZ e x= .int k p)(hy:eZ e y= .int k q)(hq:q≠0):(execOp (eZ e) o).run P w= .ok (.value (.int k (p.tmod q))) w:=by
 unfold execOp;simp[ho,hx,hy,eqGuard,binOp,Op.intDiv,hq]
theorem TM{x y:Operand}{k:IntKind}{p q:Int}{T T':TypeId}(ho:o.op= .binOp .quo T x y T')(hx:eZ e x= .int k p)(hy:eZ e y= .int k q)(hq:q≠0):(execOp (eZ e) o).run P w= .ok (.value (.int k (k.wrap (p.tdiv q)))) w:=by
 unfold execOp;simp[ho,hx,hy,eqGuard,binOp,Op.intDiv,hq]
theorem MB{K:Act->World->Prop}(h:K a w):Exit.then K Q .normal a w:=h
theorem HQ{i:Nat}(h:Q .normal a w):Exit.inBlock i Q .normal a w:=h
theorem TN{i:Nat}(h:Q .normal a w):Exit.inBlock i Q (.exit i) a w:=by show(if i=i then _ else _);rw[aP rfl];exact h
theorem CM{i i':Nat}(hne:i'≠i)(h:Q (.exit i') a w):Exit.inBlock i Q (.exit i') a w:=by show(if i'=i then _ else _);rw[cu hne];exact h
theorem HR{c:Operand}{x y:Code}{b:Bool}(hr:cX Df n e a)(hc:eZ e c= .bool b)(hb:b=true)(h:x.wp P Q a w):(Code.cond c x y).wp P Q a w:=
 wp_cond_true (by rw[hr.eval,hc,hb]) h
theorem HS{c:Operand}{x y:Code}{b:Bool}(hr:cX Df n e a)(hc:eZ e c= .bool b)(hb:b=false)(h:y.wp P Q a w):(Code.cond c x y).wp P Q a w:=
 wp_cond_false (by rw[hr.eval,hc,hb]) h
theorem dz{β:Type}{c:Code}(μ:β->Nat)(ag3:β->Act->World->Prop)(x0:β)(h0:ag3 x0 a w)
 (round:∀x a w,ag3 x a w->c.wp P (Exit.then (λa w =>∃x',ag3 x' a w/\μ x'<μ x) Q) a w):(Code.loop c).wp P Q a w:=by
 have key:∀m x a w,μ x=m->ag3 x a w->∀b k cs,∃e a' w',Q e a' w'/\Arrives P (lone (b.at a (.code c:: .inLoop c::k)) cs w) b k cs e a' w':=by
  intro m
  induction m using Nat.strongRecOn with
  | _ m ih =>
   intro x a w hm hI b k cs;obtain⟨e,a1,w1,hq,MC⟩:=round x a w hI b (.inLoop c::k) cs;cases e with
   | normal =>
    obtain⟨x',hI',hlt⟩:=hq;obtain⟨e2,a2,w2,hq2,abr⟩:=ih (μ x') (hm▸ hlt) x' a1 w1 rfl hI' b k cs;exact⟨e2,a2,w2,hq2,.of_steps (Steps.trans MC (.one step_inLoop)) abr⟩
   | exit id=>exact⟨_,a1,w1,hq,.pass (x:=.inLoop c) rfl (λ_ _=>.inl (by simp)) MC⟩
   | goto l=>exact⟨_,a1,w1,hq,.pass (x:=.inLoop c) rfl (λ_ _=>.inl (by simp)) MC⟩
   | ret=>exact⟨_,a1,w1,hq,.pass (x:=.inLoop c) rfl (λ_ _=>.inl (by simp)) MC⟩
   | panic ch=>exact⟨_,a1,w1,hq,.pass (x:=.inLoop c) rfl (λ_ _=>.inl (by simp)) MC⟩
   | outgrown=>exact⟨_,a1,w1,hq,.pass (x:=.inLoop c) rfl (λ_ _=>.inl (by simp)) MC⟩
 intro b k cs;obtain⟨e,a',w',hq,MC⟩:=key _ x0 a w rfl h0 b k cs;exact⟨e,a',w',hq,.of_steps (.one step_loop) MC⟩
theorem dh{β:Type}{x y:Code}(ag3:β->Act->World->Prop)(h:x.wp P (Exit.then (λa w =>∃g,ag3 g a w) Q) a w)(k:∀g a w,ag3 g a w->y.wp P Q a w):(Code.seq x y).wp P Q a w:=
 wp_seq (Code.wp_mono (λe a w q=>by
  cases e with
  | normal=>obtain⟨g,hg⟩:=q;exact k g a w hg
  | _=>exact q) h)
theorem HU(args:Array Value)(m t:Nat):(args++Array.replicate m undef).getD t undef=args.getD t undef:=by
 simp only[wI,Array.getElem?_append,Array.getElem?_replicate];by_cases h:t<args.size
 ·rw[aP h]
 ·rw[cu h,Array.getElem?_eq_none I];split<;>rfl
theorem enter{f:FuncId}{fn:Func}{c:Code}{args:Array Value}{R:Ending->World->Prop}(hf:P.funcs[f]? = some fn)(hb:fn.body=some c)(n:Nat)(hn:fn.ntmps=n)(hs:Nat.ble args.size n=true)
 (l:List (Nat×Value)) (hl:allEq (λt=>args.getD t undef) l) (k:∀j a,kX n (lk l j) a->c.wp P (bodyPost P fn R) a w):Calls P f args w R:=by
 refine calls_of_wp hf hb (k (λt=>args.getD t undef) _ ?_);rw[wJ hl];refine⟨?_,λt=>HU args _ t,rfl⟩;have:=qa hs;simp[hn];omega
theorem zW{fn:Func}{R:Ending->World->Prop}{t:Nat}(hres:fn.results=#[.tmp t])(hr:kX n e a)(hv:e t=v)(h:R (.returned v) w):bodyPost P fn R .ret a w:=
 bodyPost_ret (by rw[results_tmp hres,hr.get,hv]) hr.defers h
theorem Ew{fn:Func}{R:Ending->World->Prop}{t t':Nat}{v':Value}(hres:fn.results=#[.tmp t,.tmp t'])(hr:kX n e a)(hv:e t=v)(To:e t'=v')(h:R (.returned (.tuple #[v,v'])) w):bodyPost P fn R .ret a w:=
 bodyPost_ret (by rw[results_tmp2 hres,hr.get,hr.get,hv,To]) hr.defers h
theorem HV{fn:Func}{R:Ending->World->Prop}(hres:fn.results=#[])(hr:kX n e a)(h:R (.returned (.tuple #[])) w):bodyPost P fn R .ret a w:=
 bodyPost_ret (results_none hres _ _ _) hr.defers h
theorem qm{fn:Func}{R:Ending->World->Prop}(hres:fn.results=#[])(hr:kX n e a)(h:R (.returned (.tuple #[])) w):bodyPost P fn R .normal a w:=
 bodyPost_end (results_none hres _ _ _) hr.defers h
end
def J{α:Type}[Inhabited α](l:List α)(i:Nat):α:=l.getD i default
theorem get_at{α:Type}[Inhabited α]{l:List α}{i:Nat}(h:i<l.length):l[i]? = some (J l i):=by
 unfold J;rw[List.getD_eq_getElem?_getD,List.getElem?_eq_getElem h];rfl
theorem uX{α:Type}[Inhabited α]{l:List α}{i:Nat}{x:α}(h:i<l.length):J (l.set i x) i=x:=by
 unfold J;rw[List.getD_eq_getElem?_getD,List.getElem?_set_self h];rfl
theorem zX{α:Type}[Inhabited α]{l:List α}{i k:Nat}{x:α}(h:i≠k):J (l.set i x) k=J l k:=by
 unfold J;rw[List.getD_eq_getElem?_getD,List.getElem?_set_ne h,List.getD_eq_getElem?_getD]
theorem tC{α:Type}[Inhabited α]{l m:List α}{i:Nat}(h:i<l.length):J (l++m) i=J l i:=by
 unfold J;rw[List.getD_eq_getElem?_getD,List.getElem?_append_left h,List.getD_eq_getElem?_getD]
theorem xl{α:Type}[Inhabited α]{l m:List α}{i:Nat}(h:l.length<=i):J (l++m) i=J m (i-l.length):=by
 unfold J;rw[List.getD_eq_getElem?_getD,List.getElem?_append_right h,List.getD_eq_getElem?_getD]
theorem dM{α:Type}{l:List α}{i:Nat}{x:α}(h:i<l.length):(l.set i x)[i]? = some x:=List.getElem?_set_self h
def rB(w:World)(b:Nat):Nat->List Value->Prop
 | _,[]=>True
 | off,v::r=>w.cell? ⟨b,off,none⟩=some v/\rB w b (off+1) r
theorem v5{w:World}{b:Nat}:∀{cs:List Value} {off:Nat},rB w b off cs->∀j v,cs[j]? = some v->w.cell? ((⟨b,off,none⟩:Addr).add j)=some v
 | [],_,_,j,v,h=>by simp at h
 | u::r,off,hh,j,v,h=>by
  cases j with
  | zero=>simp at h;subst h;rw[wH];exact hh.1
  | succ j =>
   have:=v5 hh.2 j v (by simpa using h);rw[wH]at this⊢;rw[show off+(j+1)=off+1+j by omega];exact this
section
variable {P:Program}{ops:Array Oper}{Q:Exit->Act->World->Prop}{a:Act}{w w0 w1:World}{rest:List Oper}{o:Oper}{n d t:Nat}{v:Value}{l:List (Nat×Value)}{j e:Nat->Value}{L:List bj}{H:bj}{Df:List Deferred}
def uN:Option TypeDesc->Bool
 | some (.struct _)=>true
 | some (.array _ _)=>true
 | _=>false
theorem ur{t:TypeId}(h:uN (P.underlying t)=true):(isAgg t).run P w= .ok true w:=by
 cases hu:P.underlying t with
 | none=>rw[hu]at h;cases h
 | some D =>
  rw[hu]at h;simp only[isAgg,n5,run_underlying hu,n6];cases D<;>first | rfl | cases h
theorem rlm{x:Operand}{b off:Nat}{cs:List Value}(ho:o.op= .load t x)(hx:eZ e x= .pointer (some ⟨b,off,none⟩))(hu:uN (P.underlying t)=true)
 (hs:(P.info? t).map (·.size)=some cs.length) (hc:rB w b off cs):(execOp (eZ e) o).run P w= .ok (.value (.agg cs.toArray)) w:=by
 have hl:=run_loadCells_list (P:=P) w ⟨b,off,none⟩ cs (v5 hc);unfold execOp;cases hi:P.info? t with
 | none=>simp[hi]at hs
 | some q =>
  simp[hi]at hs;simp only[ho,Instr.loadAt,hx,Instr.sureAddr,loadVar,n5,uo,n6,ur hu,if_true,sizeOf,typeInfo,run_program,hi,hs,hl]
theorem TP{fn:Func}{R:Ending->World->Prop}{t T b off:Nat}{cs:List Value}(hres:fn.results=#[.cell t T])(hr:kX n e a)(hv:e t= .pointer (some ⟨b,off,none⟩))(hu:uN (P.underlying T)=true)
 (hs:(P.info? T).map (·.size)=some cs.length) (hc:rB w b off cs) (h:R (.returned (.agg cs.toArray)) w):bodyPost P fn R .ret a w:=by
 have hl:=run_loadCells_list (P:=P) w ⟨b,off,none⟩ cs (v5 hc);refine bodyPost_ret ?_ hr.defers h;cases hi:P.info? T with
 | none=>simp[hi]at hs
 | some q =>
  simp[hi]at hs;have hg:=hr.get t;rw[hv,wI]at hg;simp[results,hres,hg,asAddr,loadVar,ur hu,sizeOf,typeInfo,hi,hs,hl]
theorem RH{fn:Func}{R:Ending->World->Prop}{t T b off u:Nat}{cs:List Value}(hres:fn.results=#[.cell t T,.tmp u])(hr:kX n e a)(hv:e t= .pointer (some ⟨b,off,none⟩))(To:e u=v)(hu:uN (P.underlying T)=true)
 (hs:(P.info? T).map (·.size)=some cs.length) (hc:rB w b off cs) (h:R (.returned (.tuple #[.agg cs.toArray,v])) w):bodyPost P fn R .ret a w:=by
 have hl:=run_loadCells_list (P:=P) w ⟨b,off,none⟩ cs (v5 hc);refine bodyPost_ret ?_ hr.defers h;cases hi:P.info? T with
 | none=>simp[hi]at hs
 | some q =>
  simp[hi]at hs;have hg:=hr.get t;rw[hv,wI]at hg;have Kg:=hr.get u;rw[To,wI]at Kg;simp[results,hres,hg,Kg,asAddr,loadVar,ur hu,sizeOf,typeInfo,hi,hs,hl]
theorem DS{fn:Func}{R:Ending->World->Prop}{v2:Value}{t T b off u u2:Nat}{cs:List Value}(hres:fn.results=#[.cell t T,.tmp u,.tmp u2])(hr:kX n e a)(hv:e t= .pointer (some ⟨b,off,none⟩))(To:e u=v)(BT:e u2=v2)(hu:uN (P.underlying T)=true)
 (hs:(P.info? T).map (·.size)=some cs.length) (hc:rB w b off cs) (h:R (.returned (.tuple #[.agg cs.toArray,v,v2])) w):bodyPost P fn R .ret a w:=by
 have hl:=run_loadCells_list (P:=P) w ⟨b,off,none⟩ cs (v5 hc);refine bodyPost_ret ?_ hr.defers h;cases hi:P.info? T with
 | none=>simp[hi]at hs
 | some q =>
  simp[hi]at hs;have hg:=hr.get t;rw[hv,wI]at hg;have Kg:=hr.get u;rw[To,wI]at Kg;have hg2:=hr.get u2;rw[BT,wI]at hg2;simp[results,hres,hg,Kg,hg2,asAddr,loadVar,ur hu,sizeOf,typeInfo,hi,hs,hl]
theorem MD{x y:Operand}{b i:Nat}{cs:Array Value}{T:TypeId}{u:Value}(hw:vg o ops a)(hd:o.dst=none)(hr:cX Df n (lk l j) a)(ho:o.op= .store t x y)
 (hx:eZ (lk l j) x= .pointer (some ⟨b,i,none⟩)) (hy:eZ (lk l j) y=v) (hv:v.cells=#[v]) (h1:v.oneCell'=true) (hs:(P.info? t).map (·.size)=some 1)
 (hF:Fit w0 (aC (pts b (.cells cs T)::L)) w) (hc:cs[i]? = some u) (k:∀w1,Fit w0 (aC (pts b (.cells (cs.setIfInBounds i v) T)::L)) w1->wpList P ops Q rest a w1):wpList P ops Q (o::rest) a w:=
 Eu hw hd hr (rs ho hx hy hv h1 hs (hF.cell i hc) (hF.free i)) (k _ (hF.set i v))
theorem Kh{x y:Operand}{b:Nat}{cs cs':Array Value}{T:TypeId}{vs:List Value}(hw:vg o ops a)(hd:o.dst=none)(hr:cX Df n (lk l j) a)(ho:o.op= .store t x y)
 {i:Nat} (hx:eZ (lk l j) x= .pointer (some ⟨b,i,none⟩)) (hy:eZ (lk l j) y= .agg vs.toArray) (h1:vs.all (·.oneCell')=true) (hfit:Nat.ble (i+vs.length) cs.size=true) (hs:(P.info? t).map (·.size)=some vs.length)
 (hF:Fit w0 (aC (pts b (.cells cs T)::L)) w) (hcs:(cs.toList.take i++vs++cs.toList.drop (i+vs.length)).toArray=cs') (k:∀w1,Fit w0 (aC (pts b (.cells cs' T)::L)) w1->wpList P ops Q rest a w1):wpList P ops Q (o::rest) a w:=by
 have hst:=run_storeCells_at P b i T vs 0 cs w hF.block (by simpa using qa hfit) (by simpa using h1);simp only[Gs,hcs]at hst;refine Eu (w1:=w.setRow b cs') hw hd hr ?_ (k _ ?_)
 ·unfold execOp;cases hi:P.info? t with
  | none=>simp[hi]at hs
  | some q =>
   simp[hi]at hs;simp only[ho,hx,hy,Instr.storeAt,Instr.sureAddr,storeVar,n5,uo,n6,sizeOf,typeInfo,run_program,hi,Value.cells];simp[hs,hst]
 ·exact hF.turn (w':=w.setRow b cs') (setRow_heap w b cs cs' T (0,0) hF.block) (λk hk _=>setRow_other w b k _ hk) rfl rfl rfl (by simp)
section
variable {α:Type}{E:TypeId}{sz g cap:Nat}{enc:α->List Value}{xs:List α}
theorem KR{x y:Operand}(hw:vg o ops a)(hd:o.dst=none)(hr:cX Df n (lk l j) a)(ho:o.op= .store t x y)
 {i f:Nat} (hx:eZ (lk l j) x= .pointer (some ⟨g,i*sz+f,none⟩)) (hy:eZ (lk l j) y=v) (hv:v.cells=#[v]) (h1:v.oneCell'=true) (hs:(P.info? t).map (·.size)=some 1)
 (he:tZ enc sz) (hF:Fit w0 (aC (slc E sz enc g cap xs::L)) w) {p q:α} (hp:xs[i]? = some p) (hf:f<sz) (hq:enc q=(enc p).set f v)
 (k:∀w1,Fit w0 (aC (slc E sz enc g cap (xs.set i q)::L)) w1->wpList P ops Q rest a w1):wpList P ops Q (o::rest) a w:=by
 have hu:(enc p)[f]? = some (enc p)[f]!:=by
  have:f<(enc p).length:=by rw[he.len];exact hf
  rw[List.getElem?_eq_getElem this,List.getElem!_eq_getElem?_getD,List.getElem?_eq_getElem this]
  rfl
 exact Eu hw hd hr (rs ho hx hy hv h1 hs (hF.Qe he i f p _ hp hu) (hF.TK _)) (k _ (hF.WR he i f p q v hp hf hq))
theorem Jq{x y:Operand}{vs:List Value}(hw:vg o ops a)(hd:o.dst=none)(hr:cX Df n (lk l j) a)(ho:o.op= .store t x y)
 {i:Nat} (hx:eZ (lk l j) x= .pointer (some ⟨g,i*sz,none⟩)) (hy:eZ (lk l j) y= .agg vs.toArray) (h1:vs.all (·.oneCell')=true) (hs:(P.info? t).map (·.size)=some vs.length)
 (he:tZ enc sz) (hF:Fit w0 (aC (slc E sz enc g cap xs::L)) w) {q:α} (hi:i<xs.length) (hq:enc q=vs)
 (k:∀w1,Fit w0 (aC (slc E sz enc g cap (xs.set i q)::L)) w1->wpList P ops Q rest a w1):wpList P ops Q (o::rest) a w:=by
 obtain⟨Gy,Fy⟩:=hF.yZ;obtain⟨cur,WT,ME,hP⟩:=hF.ql;have hvl:vs.length=sz:=by rw[<-hq,he.len]
 have hle:i*sz+sz<=xs.length*sz:=by
  have:(i+1)*sz<=xs.length*sz:=sH _ hi;rw[vj]at this;omega
 have ZF:xs.length*sz<=cap*sz:=sH _ Gy;have hst:=run_storeCells_at P g (i*sz) E vs 0 cur w hP.block (by rw[hvl];omega) (by simpa using h1);simp only[Gs]at hst;refine Eu (w1:=w.setRow g (cur.toList.take (i*sz)++vs++cur.toList.drop (i*sz+vs.length)).toArray) hw hd hr ?_ (k _ ?_)
 ·unfold execOp;cases yo:P.info? t with
  | none=>simp[yo]at hs
  | some q =>
   simp[yo]at hs;simp only[ho,hx,hy,Instr.storeAt,Instr.sureAddr,storeVar,n5,uo,n6,sizeOf,typeInfo,run_program,yo,Value.cells];simp[hs,hst]
 ·refine(hP.turn (w':=w.setRow g (cur.toList.take (i*sz)++vs++cur.toList.drop (i*sz+vs.length)).toArray) (setRow_heap w g cur _ E (0,0) hP.block) (λk hk _=>setRow_other w g k _ hk) rfl rfl rfl (by simp)).head λz hz=>⟨by simpa using Gy,Fy,_,?_,?_,hz⟩
  ·simp only[Dt,j6,vk,BZ,vl,hvl];omega
  ·rw[hU,he.set xs i q hi,hq,<-ME];have hA:(cur.toList.take (i*sz)).length=i*sz:=by rw[vk,vl];omega
   have e1:(cur.toList.take (i*sz)++vs++cur.toList.drop (i*sz+vs.length)).take (xs.length*sz)=cur.toList.take (i*sz)++vs++(cur.toList.drop (i*sz+vs.length)).take (xs.length*sz-(i*sz+sz)):=by
    rw[J8,Gp (by rw[j6,hA,hvl];exact hle),j6,hA,hvl]
   rw[J9,e1,List.take_take,yW I,Ka,hvl]
theorem j8{ca:fP}{n0 cc bytes:Nat}{s x:Operand}{ad:Addr}{m c:Nat}(hw:vg o ops a)(hd:o.dst=some d)(hn:Nat.blt d n=true)(hr:cX Df n (lk l j) a)
 (ho:o.op= .call {callee:=.builtin .append,args:=#[s,x],argTypes:=#[t,t]}) (hs:eZ (lk l j) s= .slice ca n0 cc) (hx:eZ (lk l j) x= .slice (some ad) m c)
 (he:tZ enc sz) (hty:P.underlying t=some (.slice E)) (rZ:(P.info? E).map (λi=>(i.size,i.bytes,i.zero.map (·.cells.size)))=some (sz,bytes,some sz))
 (hF:Fit w0 (aC (rowOf E sz enc (.slice ca n0 cc) xs::L)) w) {news:List α} (hm:news.length=m) (hnews:∀j u,(news.flatMap enc)[j]? = some u->w.cell? (ad.add j)=some u)
 (hb:(xs.length+m)*bytes<=140737488355328) (Ol:Nat.blt 0 bytes=true)
 (k:∀ca cc w1 a,Fit w0 (aC (rowOf E sz enc (.slice ca (xs++news).length cc) (xs++news)::L)) w1->cX Df n (lk ((d,.slice ca (xs++news).length cc)::l) j) a->wpList P ops Q rest a w1):wpList P ops Q (o::rest) a w:=by
 have Jj:=hF.rA;subst Jj;cases hi:P.info? E with
 | none=>simp[hi]at rZ
 | some i =>
  simp only[hi,vR,Option.some.injEq,Prod.mk.injEq]at rZ;obtain⟨i1,i2,i3⟩:=rZ;cases hz:i.zero with
  | none=>simp[hz]at i3
  | some zv =>
   simp only[hz,vR,Option.some.injEq]at i3;have MF:0<bytes:=qa Ol;have h63:xs.length+m<=maxLen:=by
    have:xs.length+m<=(xs.length+m)*bytes:=Mq _ MF;simp only[maxLen];omega
   obtain⟨v',w',hrun,Dz⟩:=HP (P:=P) he t o.type i zv bytes hty hi hz i1 i2 i3 hF ad m c news hm hnews h63 hb;obtain⟨a',cap',e,_,_⟩:=Dz.Hq;subst e;refine sw hw hd hn hr ?_ (λa hr=>k a' cap' w' a Dz hr);unfold execOp;simp only[ho,resolve,invoke,builtin,n5,uo,n6,Gt,Bs,B3,hs,hx,hrun]
end
end
section
variable {α:Type}{sz:Nat}{enc:α->List Value}
theorem HW(he:tZ enc sz)(zc:Array Value)(z0:α)(hz:zc.toList=enc z0)(n:Nat) :
 ((Array.range (n*sz)).map λi=>zc[i%zc.size]!).toList=(List.replicate n z0).flatMap enc:=by
 have hs:zc.size=sz:=by rw[<-vl,hz,he.len]
 have hpos:=he.pos
 apply zS
 intro i;rw[Array.toList_map,Array.toList_range,List.getElem?_map];by_cases hi:i<n*sz
 ·have hd:i/sz<n:=(Nat.div_lt_iff_lt_mul hpos).2 hi;have hm:i%sz<sz:=Du _ hpos;have hg:=he.get (List.replicate n z0) (i/sz) (i%sz) z0 (by rw[List.getElem?_replicate,aP hd]) hm;rw[show i/sz*sz+i%sz=i by rw[Nat.mul_comm];exact Gu i sz]at hg;rw[hg,List.getElem?_range hi,<-hz,hs];have hm':i%sz<zc.size:=by omega
  simp[hm']
 ·rw[List.getElem?_eq_none (by simp;omega),List.getElem?_eq_none (by rw[he.flat,n7];omega)]
  rfl
end
section
variable {P:Program}{ops:Array Oper}{Q:Exit->Act->World->Prop}{a:Act}{w w0 w1:World}{rest:List Oper}{o:Oper}{n d t:Nat}{v:Value}{l:List (Nat×Value)}{j e:Nat->Value}{L:List bj}{H:bj}{Df:List Deferred}
variable {α:Type}{E:TypeId}{sz g cap:Nat}{enc:α->List Value}{xs:List α}
theorem Qf{bytes:Nat}{zc:Array Value}(h:(P.info? E).map (λi=>(i.size,i.bytes,i.zero.map (·.cells)))=some (sz,bytes,some zc)) :
 ∃i z,P.info? E=some i/\i.size=sz/\i.bytes=bytes/\i.zero=some z/\z.cells=zc:=by
 cases hi:P.info? E with
 | none=>simp[hi]at h
 | some i =>
  simp only[hi,vR,Option.some.injEq,Prod.mk.injEq]at h;obtain⟨h1,h2,h3⟩:=h;cases hz:i.zero with
  | none=>simp[hz]at h3
  | some z=>exact⟨i,z,rfl,h1,h2,hz,by simpa [hz]using h3⟩
theorem WU{x y:Operand}{c:Nat}{i:Int}{bytes:Nat}{zc:Array Value}(z0:α)(hw:vg o ops a)(hd:o.dst=some d)(hn:Nat.blt d n=true)(hr:cX Df n (lk l j) a)
 (ho:o.op= .makeSlice t x y) (hx:eZ (lk l j) x= .int .i64 i) (hy:eZ (lk l j) y= .int .i64 i) (hi:i=c) (he:tZ enc sz) (hty:P.underlying t=some (.slice E))
 (rZ:(P.info? E).map (λi=>(i.size,i.bytes,i.zero.map (·.cells)))=some (sz,bytes,some zc)) (hz:zc.toList=enc z0) (hb:c*bytes<=140737488355328) (Ol:Nat.blt 0 bytes=true) (hF:Fit w0 (aC L) w)
 (k:∀g w1 a,Fit w0 (aC (slc E sz enc g c (List.replicate c z0)::L)) w1->cX Df n (lk ((d,.slice (some ⟨g,0,none⟩) c c)::l) j) a->wpList P ops Q rest a w1):wpList P ops Q (o::rest) a w:=by
 obtain⟨q,z,hq,h1,h2,h3,h4⟩:=Qf rZ;have MF:0<bytes:=qa Ol;have hc:c<=c*bytes:=Mq _ MF;subst hi;have hcb:((q.bytes:Nat):Int)*(c:Int)<=281474976710656:=by
  have aeq:((c*bytes:Nat):Int)<=140737488355328:=by omega
  rw[h2,Gv];simp only[Int.natCast_mul]at aeq;omega
 have hrun:=run_make (P:=P) w t E q z hty hq h3 .i64 .i64 (c:Int) (c:Int) I I hcb I;have hs:zc.size=sz:=by rw[<-vl,hz,he.len]
 have hcells:(madeCells z.cells ((c:Int).toNat*q.size)).toList=(List.replicate c z0).flatMap enc:=by
  rw[h1,h4,cQ];exact HW he zc z0 hz c
 refine sw (w1:=w.alloc (.cells (madeCells z.cells ((c:Int).toNat*q.size)) E)) hw hd hn hr (v:=.slice (some ⟨w.heap.size,0,none⟩) c c) ?_ (λa hr=>k w.heap.size _ a ?_ hr)
 ·unfold execOp;simp only[ho,hx,hy,n5,hrun,n6,uo,cQ]
 ·refine(hF.alloc _).head λx hx=>⟨by simp,by simp only[maxLen];omega,_,?_,?_,hx⟩
  ·rw[<-vl,hcells,he.flat,n7]
  ·rw[hcells,n7,Gp (by rw[he.flat,n7];exact jU _)]
theorem WV{s x:Operand}{ca:fP}{n0 n1 cc:Nat}{ys:List α}(hw:vg o ops a)(hd:o.dst=some d)(hn:Nat.blt d n=true)(hr:cX Df n (lk l j) a)
 (ho:o.op= .call {callee:=.builtin .copy,args:=#[s,x],argTypes:=#[t,t]}) (hs:eZ (lk l j) s= .slice (some ⟨g,0,none⟩) n0 cap) (hx:eZ (lk l j) x= .slice ca n1 cc) (Jj:n0=xs.length)
 (he:tZ enc sz) (hty:P.underlying t=some (.slice E)) (hsz:(P.info? E).map (·.size)=some sz) (hlen:ys.length=xs.length)
 (hF:Fit w0 (aC (slc E sz enc g cap xs::rowOf E sz enc (.slice ca n1 cc) ys::L)) w)
 (k:∀w1 a,Fit w0 (aC (slc E sz enc g cap ys::rowOf E sz enc (.slice ca n1 cc) ys::L)) w1->cX Df n (lk ((d,.int .i64 ((xs.length:Nat):Int))::l) j) a->wpList P ops Q rest a w1):wpList P ops Q (o::rest) a w:=by
 have Om:=(hF.pick 1).rA;subst Om;subst Jj;obtain⟨Gy,Fy⟩:=hF.yZ;obtain⟨cur,WT,ME,hP⟩:=hF.ql;have hcells:(Builtin.firstCells sz (Nat.min ys.length xs.length) (.slice ca ys.length cc)).run P w= .ok (ys.flatMap enc).toArray w:=by
  rw[hlen,show Nat.min xs.length xs.length=xs.length from Nat.min_self _,<-hlen];rcases(hF.pick 1).rows with ⟨e1,e2,_⟩ | ⟨g',cap',e1,_,Dz⟩
  ·simp only[Value.slice.injEq]at e1;rw[e1.1,e2];exact run_firstCells_none (P:=P) w sz _ _ _
  ·simp only[Value.slice.injEq]at e1;rw[e1.1];obtain⟨cur',aer,ZG,hP'⟩:=Dz.ql;refine run_firstCells_some (P:=P) w sz ys.length _ _ _ (ys.flatMap enc) (he.flat ys) ?_;intro j u hu;rw[wH,BX];refine hP'.cell j ?_;rw[<-ZG,List.getElem?_take]at hu;split at hu
   ·simpa using hu
   ·cases hu
 have hfl:(ys.flatMap enc).length=xs.length*sz:=by rw[he.flat,hlen]
 have hle:xs.length*sz<=cap*sz:=sH _ Gy;have hst:=run_storeCells_at P g 0 E (ys.flatMap enc) 0 cur w hP.block (by rw[hfl,WT];omega) (he.zV ys);simp only[Gs,BX,vY,AD]at hst;refine sw (w1:=w.setRow g (ys.flatMap enc++cur.toList.drop (ys.flatMap enc).length).toArray) (v:=.int .i64 ((xs.length:Nat):Int)) hw hd hn hr ?_ (λa hr=>k _ a ?_ hr)
 ·unfold execOp;cases yo:P.info? E with
  | none=>simp[yo]at hsz
  | some q =>
   simp[yo]at hsz;have hmin:Nat.min ys.length xs.length=xs.length:=by rw[hlen];exact Nat.min_self _
   have abt:Nat.min xs.length xs.length=xs.length:=Nat.min_self _;simp only[ho,resolve,invoke,builtin,n5,uo,n6,Gt,Bs,B3,hs,hx];rw[hmin]at hcells;rw[hlen]at hcells;simp[Builtin.copy_,run_underlying hty,Builtin.lenOf,sizeOf,typeInfo,yo,hsz,hlen,abt,hcells,hst,goInt]
 ·refine((hP.turn (w':=w.setRow g (ys.flatMap enc++cur.toList.drop (ys.flatMap enc).length).toArray) (setRow_heap w g cur _ E (0,0) hP.block) (λk hk _=>setRow_other w g k _ hk) rfl rfl rfl (by simp)).head λz hz=>⟨by rw[hlen];exact Gy,Fy,_,?_,?_,hz⟩)
  ·simp only[Dt,j6,BZ,vl,hfl];omega
  ·rw[J9,<-he.flat ys];exact Gq
theorem RI{ca:fP}{n0 cc bytes:Nat}{s x:Operand}{tx:TypeId}{m:Nat}{i:Int}{zc:Array Value}{kx:IntKind}(z0:α)(hw:vg o ops a)(hd:o.dst=some d)(hn:Nat.blt d n=true)(hr:cX Df n (lk l j) a)
 (ho:o.op= .call {callee:=.builtin .append,args:=#[s,x],argTypes:=#[t,tx]}) (hs:eZ (lk l j) s= .slice ca n0 cc) (hx:eZ (lk l j) x= .int .i64 i) (hi:i=m)
 (he:tZ enc sz) (hty:P.underlying t=some (.slice E)) (htx:P.underlying tx=some (.int kx)) (rZ:(P.info? E).map (λi=>(i.size,i.bytes,i.zero.map (·.cells)))=some (sz,bytes,some zc)) (hz:zc.toList=enc z0)
 (hF:Fit w0 (aC (rowOf E sz enc (.slice ca n0 cc) xs::L)) w) (hb:(xs.length+m)*bytes<=140737488355328) (Ol:Nat.blt 0 bytes=true)
 (k:∀ca cc w1 a,Fit w0 (aC (rowOf E sz enc (.slice ca (xs++List.replicate m z0).length cc) (xs++List.replicate m z0)::L)) w1->cX Df n (lk ((d,.slice ca (xs++List.replicate m z0).length cc)::l) j) a->wpList P ops Q rest a w1):wpList P ops Q (o::rest) a w:=by
 have Jj:=hF.rA;subst Jj;obtain⟨q,zv,hq,h1,h2,h3,h4⟩:=Qf rZ;have MF:0<bytes:=qa Ol;have TQ:m<=m*bytes:=Mq _ MF;have hxx:xs.length<=xs.length*bytes:=Mq _ MF;have agv:(xs.length+m)*bytes=xs.length*bytes+m*bytes:=vj _ _ _;subst hi;have hzs:zv.cells.size=sz:=by rw[h4,<-vl,hz,he.len]
 have hzl:(Builtin.zeroCells zv.cells m).toList=(List.replicate m z0).flatMap enc:=by
  have:=HW he zc z0 hz m;rw[<-h4]at this;rw[<-this,<-hzs]
  rfl
 have hpos:=he.pos;have hzv:∀w,(zeroValue E).run P w= .ok zv w:=λw=>by
  simp only[zeroValue,typeInfo,n5,run_program,hq,n6,uo,h3]
 have ZH:((List.replicate m z0).flatMap enc).length=m*sz:=by rw[he.flat,n7]
 have abu:=he.zV (List.replicate m z0);have Qg:IntKind.i64.wrap (m:Int)=m:=IntWalk.i64_in _ I;have Om:¬((m:Int)<0):=by omega
 have YG:¬(281474976710656<(m:Int)*(q.bytes:Int)):=by
  have:((m*bytes:Nat):Int)<=140737488355328:=by omega
  rw[h2];simp only[Int.natCast_mul]at this;omega
 have main :∃v' w',(Builtin.append_ #[t,tx] o.type #[.slice ca xs.length cc,.int .i64 (m:Int)]).run P w= .ok v' w'/\Fit w0 (aC (rowOf E sz enc v' (xs++List.replicate m z0)::L)) w':=by
  by_cases hroom:xs.length+m<=cc
  ·rcases hF.rows with ⟨e1,e2,Dz⟩ | ⟨g,cap,e1,_,Dz⟩
   ·simp only[Value.slice.injEq]at e1;obtain⟨rfl,e3,rfl⟩:=e1;have TL:m=0:=by omega
    subst TL;subst e2;refine⟨.slice none 0 0,w,?_,by simpa using Dz.fM⟩;have hw0:IntKind.i64.wrap 0=0:=by rfl
    simp[Builtin.append_,run_underlying hty,run_underlying htx,sizeOf,typeInfo,hq,asInt,asIntOf,hw0]
   ·simp only[Value.slice.injEq]at e1;obtain⟨rfl,_,rfl⟩:=e1;obtain⟨cur,hs1,htk,hP⟩:=Dz.ql;obtain⟨Gy,Fy⟩:=Dz.yZ;have hle:(xs.length+m)*sz<=cc*sz:=sH _ hroom;rw[vj]at hle;have abv:(xs++List.replicate m z0).flatMap enc=xs.flatMap enc++(List.replicate m z0).flatMap enc:=Es;generalize hZ:(List.replicate m z0).flatMap enc=zl at *;have hst:=run_storeCells_at P g (xs.length*sz) E zl 0 cur w hP.block (by rw[ZH,hs1];omega) abu;simp only[Gs]at hst;refine⟨.slice (some ⟨g,0,none⟩) (xs.length+m) cc,w.setRow g (cur.toList.take (xs.length*sz)++zl++cur.toList.drop (xs.length*sz+zl.length)).toArray,?_,?_⟩
    ·generalize w.setRow g (cur.toList.take (xs.length*sz)++zl++cur.toList.drop (xs.length*sz+zl.length)).toArray=w9 at hst;by_cases TL:m*sz=0
     ·have hz0:zl=[]:=Gr I;subst hz0;simp[Builtin.append_,run_underlying hty,run_underlying htx,sizeOf,typeInfo,hq,asInt,asIntOf,Qg,Om,YG,hroom,h1,wH,TL,hst]
     ·simp[Builtin.append_,run_underlying hty,run_underlying htx,sizeOf,typeInfo,hq,asInt,asIntOf,Qg,Om,YG,hroom,h1,wH,TL,hzv,hzl,hst]
    ·refine(hP.turn (w':=w.setRow g (cur.toList.take (xs.length*sz)++zl++cur.toList.drop (xs.length*sz+zl.length)).toArray) (setRow_heap w g cur _ E (0,0) hP.block) (λk hk _=>setRow_other w g k _ hk) rfl rfl rfl (by simp)).head λz RJ=>.inr ⟨g,cc,_,by simp,by simpa using hroom,Fy,?_,?_,RJ⟩
     ·simp only[Dt,j6,vk,BZ,vl,ZH];omega
     ·rw[htk,abv,j6,n7];rw[show(xs.length+m)*sz=((xs.flatMap enc)++zl).length by rw[j6,ZH,he.flat,vj]];exact Gq
  ·have hge:=grownCap_ge w (xs.length+m) cc E;have h63:xs.length+m<=maxLen:=by simp only[maxLen];omega
   have hcm:grownCap w (xs.length+m) cc E<=maxLen:=grownCap_le_maxLen w (xs.length+m) cc E h63;have hfit:=growslice_fits (need:=xs.length+m) (old:=cc) (bytes:=bytes) I hb;have YH:¬(281474976710656<Builtin.nextslicecap (xs.length+m) cc*q.bytes):=by rw[h2];omega
   have abw:¬(9223372036854775807<(xs.length:Int)+(m:Int)):=by omega
   have hold:(Builtin.firstCells sz xs.length (.slice ca xs.length cc)).run P w.drew= .ok (xs.flatMap enc).toArray w.drew:=by
    rcases hF.rows with ⟨e1,e2,_⟩ | ⟨g',cap',e1,_,Dz⟩
    ·simp only[Value.slice.injEq]at e1;rw[e1.1,e2];exact run_firstCells_none (P:=P) w.drew sz _ _ _
    ·simp only[Value.slice.injEq]at e1;rw[e1.1];obtain⟨cur',aer,ZG,hP'⟩:=Dz.ql;refine run_firstCells_some (P:=P) w.drew sz xs.length _ _ _ (xs.flatMap enc) (he.flat xs) ?_;intro j u hu;rw[wH,BX];refine hP'.cell j ?_;rw[<-ZG,List.getElem?_take]at hu;split at hu
     ·simpa using hu
     ·cases hu
   refine⟨.slice (some ⟨w.heap.size,0,none⟩) (xs.length+m) (grownCap w (xs.length+m) cc E),w.drew.alloc (.cells ((xs.flatMap enc).toArray++((List.replicate m z0).flatMap enc).toArray++Builtin.zeroCells zv.cells (grownCap w (xs.length+m) cc E-(xs.length+m))) E),?_,?_⟩
   ·generalize hZ:(List.replicate m z0).flatMap enc=zl at *;by_cases TL:m*sz=0
    ·have hz0:zl=[]:=Gr I;subst hz0;simp[Builtin.append_,run_underlying hty,run_underlying htx,sizeOf,typeInfo,hq,asInt,asIntOf,Qg,Om,YG,hroom,Question.forced,h1,YH,abw,TL,hold,hzv,newRow,grownCap]
    ·have hza:Builtin.zeroCells zv.cells m=zl.toArray:=by rw[<-hzl,Array.toArray_toList]
     simp[Builtin.append_,run_underlying hty,run_underlying htx,sizeOf,typeInfo,hq,asInt,asIntOf,Qg,Om,YG,hroom,Question.forced,h1,YH,abw,TL,hold,hzv,hza,newRow,grownCap]
     congr 2
     apply Array.ext'
     simp[q9]
   ·refine(hF.drop.drew.alloc _).head λx hx=>.inr ⟨w.heap.size,_,_,by simp,by simpa using hge,hcm,?_,?_,hx⟩
    ·simp only[Array.size_append,Dt,size_zeroCells,hzs,he.flat,n7,<-vj]
     congr 1
     omega
    ·rw[Es,j6,n7];simp only[Array.toList_append];rw[show(xs.length+m)*sz=((xs.flatMap enc)++((List.replicate m z0).flatMap enc)).length by rw[j6,he.flat,he.flat,n7,vj]];exact Gq
 obtain⟨v',w',hrun,Dz⟩:=main;obtain⟨a',cap',e,_,_⟩:=Dz.Hq;subst e;refine sw hw hd hn hr ?_ (λa hr=>k a' cap' w' a Dz hr);unfold execOp;simp only[ho,resolve,invoke,builtin,n5,uo,n6,Gt,Bs,B3,hs,hx,hrun]
end
def iT{α:Type}:Sem α->Prop
 | .pure _=>True
 | .load _ _ k=>∀v,iT (k v)
 | .store .. => False
 | .new _ k=>∀r,iT (k r)
 | .shape _ k=>∀s,iT (k s)
 | .freeze .. => False
 | .frozen _ k=>∀b,iT (k b)
 | .getObj _ k=>∀o,iT (k o)
 | .setObj .. => False
 | .choose _ k=>∀n,iT (k n)
 | .sys .. => False
 | .program k=>∀p,iT (k p)
 | .mark _ k=>iT k
 | .halt _=>True
def qy(w w':World):Prop:=∀ad v,w.cell? ad=some v->w'.cell? ad=some v
theorem qy.refl(w:World):qy w w:=λ_ _ h=>h
theorem qy.trans{a b c:World}(h:qy a b)(k:qy b c):qy a c:=λad v hv=>k ad v (h ad v hv)
theorem iT.run{α:Type}{P:Program}(s:Sem α):∀(w:World),iT s->∀x w',s.run P w= .ok x w'->qy w w':=by
 induction s with
 | pure a=>intro w _ x w' h;simp only[Sem.run,Result.ok.injEq]at h;rw[<-h.2];exact .refl _
 | load m a k ih =>
  intro w hk x w' h;simp only[Sem.run]at h;split at h
  ·exact ih _ w (hk _) x w' h
  ·split at h
   ·exact ih _ w (hk _) x w' h
   ·cases h
 | store m a v k ih=>intro w hk;exact hk.elim
 | new o k ih =>
  intro w hk x w' h;simp only[Sem.run]at h;have h1:=ih _ _ (hk _) x w' h;refine qy.trans (λad v hv => ?_) h1;exact(World.cell?_alloc_lt w o ad (World.block_lt_of_cell? w ad hv)).trans hv
 | shape r k ih=>intro w hk x w' h;simp only[Sem.run]at h;exact ih _ w (hk _) x w' h
 | freeze a n k ih=>intro w hk;exact hk.elim
 | frozen a k ih=>intro w hk x w' h;simp only[Sem.run]at h;exact ih _ w (hk _) x w' h
 | getObj r k ih =>
  intro w hk x w' h;simp only[Sem.run]at h;split at h
  ·cases h
  ·exact ih _ w (hk _) x w' h
  ·cases h
 | setObj r o k ih=>intro w hk;exact hk.elim
 | choose q k ih =>
  intro w hk x w' h;simp only[Sem.run]at h;split at h
  ·exact ih _ w (hk _) x w' h
  ·exact(ih _ {w with drawn:=w.drawn+1} (hk _) x w' h:qy w w')
 | sys c k ih=>intro w hk;exact hk.elim
 | program k ih=>intro w hk x w' h;simp only[Sem.run]at h;exact ih _ w (hk _) x w' h
 | mark m k ih=>intro w hk x w' h;simp only[Sem.run]at h;exact ih w hk x w' h
 | halt e=>intro w _ x w' h;simp only[Sem.run]at h;cases h
theorem iT.bind{α β:Type}:∀(s:Sem α) (f:α->Sem β),iT s->(∀a,iT (f a))->iT (s >>= f)
 | .pure a,f,_,hf=>hf a
 | .load m a k,f,hk,hf=>λv=>iT.bind (k v) f (hk v) hf
 | .new o k,f,hk,hf=>λv=>iT.bind (k v) f (hk v) hf
 | .shape r k,f,hk,hf=>λv=>iT.bind (k v) f (hk v) hf
 | .frozen a k,f,hk,hf=>λv=>iT.bind (k v) f (hk v) hf
 | .getObj r k,f,hk,hf=>λv=>iT.bind (k v) f (hk v) hf
 | .choose q k,f,hk,hf=>λv=>iT.bind (k v) f (hk v) hf
 | .program k,f,hk,hf=>λv=>iT.bind (k v) f (hk v) hf
 | .mark m k,f,hk,hf=>iT.bind k f hk hf
 | .halt e,_,_,_=>trivial
theorem yp{α:Type}(a:α):iT (pure a:Sem α):=trivial
theorem DA:iT program:=λ_=>trivial
theorem zY(t:TypeId):iT (underlying t):=by
 unfold underlying;refine iT.bind _ _ DA (λp => ?_);split
 ·exact trivial
 ·exact trivial
theorem Ca(t:TypeId):iT (typeInfo t):=by
 unfold typeInfo;refine iT.bind _ _ DA (λp => ?_);split
 ·exact trivial
 ·exact trivial
theorem Ex(t:TypeId):iT (sizeOf t):=iT.bind _ _ (Ca t) λ_=>trivial
theorem Bv(t:TypeId):iT (zeroValue t):=by
 unfold zeroValue;refine iT.bind _ _ (Ca t) (λp => ?_);split
 ·exact trivial
 ·exact trivial
theorem MG(t:TypeId):iT (isAgg t):=by
 unfold isAgg;refine iT.bind _ _ (zY t) (λp => ?_);split<;>exact trivial
theorem xA(a:Addr):∀(n i:Nat) (acc:Array Value),iT (loadCellsFrom a i n acc)
 | 0,_,_=>trivial
 | n+1,i,acc=>iT.bind _ _ (λ_=>trivial) λv=>xA a n (i+1) _
theorem Jr(t:TypeId)(a:Addr):iT (loadVar t a):=by
 unfold loadVar;refine iT.bind _ _ (MG t) (λb => ?_);split
 ·exact iT.bind _ _ (Ex t) λ_=>iT.bind _ _ (xA _ _ _ _) λ_=>trivial
 ·exact λ_=>trivial
theorem AG(t:TypeId)(cs:Array Value):iT (newRow t cs):=by
 unfold newRow newObj;exact λ_=>trivial
theorem Ey(t:TypeId)(v:Value):iT (newVar t v):=AG t _
def Fz(o:Oper):Bool:=
 match o.op with
 | .move _ | .assign _ | .pick .. | .alloc _ | .box .. | .load .. | .buildSlice .. | .extract .. => true
 | _=>false
theorem MH{P:Program}{o:Oper}(h:Fz o=true)(ρ:Operand->Value)(w w':World)(x:Next)(hr:(execOp ρ o).run P w= .ok x w'):(∃u,x= .value u)/\qy w w':=by
 have main:∀s:Sem Value,iT s->execOp ρ o=(do pure (.value (<-s)))->(∃u,x= .value u)/\qy w w':=by
  intro s hs e;rw[e]at hr;refine⟨?_,iT.run _ w (iT.bind _ _ hs λ_=>yp _) x w' hr⟩;simp only[n5,uo]at hr;cases hx:s.run P w with
  | ok v w2 =>
   rw[hx]at hr;simp only[n6,Result.ok.injEq]at hr;exact⟨v,hr.1.symm⟩
  | halt e w2=>rw[hx]at hr;cases hr
 unfold Fz at h;cases ho:o.op with
 | move y =>
  refine main (pure (ρ y)) trivial ?_;unfold execOp;rw[ho];rfl
 | assign y =>
  refine main (pure (ρ y)) trivial ?_;unfold execOp;rw[ho];rfl
 | pick c a b =>
  refine main (do pure (if<-asBool (ρ c)then ρ a else ρ b)) ?_ ?_
  ·refine iT.bind _ _ ?_ (λ_=>trivial);unfold asBool;split<;>exact trivial
  ·unfold execOp;rw[ho];cases hc:ρ c<;>simp[asBool,stuck,hc]<;>rfl
 | alloc t =>
  refine main (Instr.alloc t true (.tuple #[])) ?_ ?_
  ·unfold Instr.alloc;exact iT.bind _ _ (Bv t) λz=>iT.bind _ _ (Ey t z) λ_=>trivial
  ·unfold execOp;rw[ho]
 | box t y =>
  refine main (Instr.box t (ρ y)) (iT.bind _ _ (Ey t _) λ_=>trivial) ?_;unfold execOp;rw[ho]
 | load t y =>
  refine main (Instr.loadAt t (ρ y)) (iT.bind _ _ ?_ λ_=>Jr _ _) ?_
  ·unfold Instr.sureAddr;split<;>exact trivial
  ·unfold execOp;rw[ho]
 | buildSlice t n ps =>
  refine main (Instr.buildSlice t n (ps.map λ(i,x)=>(i,ρ x))) ?_ ?_
  ·unfold Instr.buildSlice;refine iT.bind _ _ (zY t) (λd => ?_);split
   ·refine iT.bind _ _ (Ex _) (λsz => ?_)
    dsimp only
    split
    ·exact trivial
    ·split
     ·refine iT.bind _ _ (yp _) (λz => ?_);split
      ·exact iT.bind _ _ (AG _ _) λ_=>yp _
      ·exact trivial
     ·refine iT.bind _ _ (Bv _) (λv=>iT.bind _ _ (yp _) (λz => ?_));split
      ·exact iT.bind _ _ (AG _ _) λ_=>yp _
      ·exact trivial
   ·exact trivial
  ·unfold execOp;rw[ho]
 | extract y i =>
  refine main (Instr.extract (ρ y) i) ?_ ?_
  ·unfold Instr.extract;split
   ·split<;>exact trivial
   ·exact trivial
  ·unfold execOp;rw[ho]
 | _=>rw[ho]at h;cases h
section
variable {P:Program}{ops:Array Oper}{Q:Exit->Act->World->Prop}{a:Act}{w w0 w1:World}{o:Oper}{n d t:Nat}{v:Value}{l:List (Nat×Value)}{j e:Nat->Value}{H:bj}{md:Region.Mode}{Df:List Deferred}
def yq(Q:Exit->Act->World->Prop):Prop:=∀ch (a:Act) w dst v,Q (.panic ch) (a.put dst v) w->Q (.panic ch) a w
theorem MI{fn:Func}{R:Ending->World->Prop}:yq (bodyPost P fn R):=by
 intro ch a w dst v h;cases dst<;>exact h
theorem MJ{K:Act->World->Prop}(h:yq Q):yq (Exit.then K Q):=λch a w dst v k=>h ch a w dst v k
theorem KS{i:Nat}(h:yq Q):yq (Exit.inBlock i Q):=λch a w dst v k=>h ch a w dst v k
def YD(P:Program)(ops:Array Oper)(D:World->Prop)(o:Oper)(v:Value)(a:Act):Prop:=
 (Region.wanted o (yielded ops a.tmps)=true/\∀w,D w->(execOp a.eval o).run P w= .ok (.value v) w)∨(Region.wanted o (yielded ops a.tmps)=false/\v=undef)
theorem YD.of_same{D:World->Prop}{a':Act}(hy:YD P ops D o v a)(he:execOp a'.eval o=execOp a.eval o)
 (hw:Region.wanted o (yielded ops a'.tmps)=Region.wanted o (yielded ops a.tmps)):YD P ops D o v a':=by
 unfold YD at *;rw[he,hw];exact hy
theorem YD.wpOp{D:World->Prop}{i:Nat}(hi:ops[i]? = some o)(hy:YD P ops D o v a)(hD:D w){K:Act->World->Prop}(h:K (a.put o.dst v) w):wpOp P ops Q i K a w:=by
 unfold Go.wpOp;simp only[hi];rcases hy with ⟨hw,hv⟩ | ⟨hw,rfl⟩
 ·rw[aP hw]
  left
  unfold Oper.wp;rw[hv w hD];exact h
 ·rw[dR hw];exact h
def MK(md:Region.Mode)(ops:Array Oper)(aR:Array Bool)(i:Nat):Nat->Nat->Bool
 | 0,_=>true
 | f+1,k=>k != i&&match ops[k]? with
  | none=>false
  | some ok=>ok.after.all λe => !Region.binds md e||aR.getD e.on false||MK md ops aR i f e.on
theorem WW{id:Nat}{lo:List Oper}(hF:Fit w0 H w)(hm:P.follows .mixedOrders=true)(k:∀w,Fit w0 H w->wpAny P .any lo.toArray Q lo.toArray.size (Array.replicate lo.toArray.size false) a w) :
 (Code.region id lo.toArray true).wp P Q a w:=wp_region_any hm (k _ hF.drew)
end
section
variable {P:Program}{ops:Array Oper}{Q:Exit->Act->World->Prop}{a:Act}{w w0 w1:World}{o:Oper}{n d t:Nat}{v:Value}{l:List (Nat×Value)}{j e:Nat->Value}{H:bj}{md:Region.Mode}{C:World->Prop}{ag1:List Nat}{Lk:Array Bool->Act->Prop}{Df:List Deferred}
theorem TT{i:Nat}{b:Bool}(hr:cX Df n e a)(hg:o.guard=some (i,b))(hi:(ops[i]?).bind (·.dst)=some t)(ht:Nat.blt t n=true)(he:e t=undef) :
 Region.wanted o (yielded ops a.tmps)=false:=by
 have ht':t<a.tmps.size:=by rw[hr.size];exact qa ht
 have hg2:a.tmps[t]? = some undef:=by
  have:=hr.get t;rw[he,wI,Array.getElem?_eq_getElem ht']at this;rw[Array.getElem?_eq_getElem ht']
  simpa using this
 simp only[Region.wanted,hg,yielded,hi,Option.bind_some,hg2];cases b<;>rfl
end
section
variable {P:Program}{ops:Array Oper}{Q:Exit->Act->World->Prop}{a:Act}{w w0 w1:World}{o:Oper}{n d t:Nat}{v:Value}{l:List (Nat×Value)}{j e:Nat->Value}{md:Region.Mode}{ag1 A:List Nat}{pre:List bj->List bj}{Ls:List bj}{Df:List Deferred}
def KT(X:Nat->Prop):List Nat->Prop
 | []=>True
 | i::r=>X i/\KT X r
theorem KT.mem{X:Nat->Prop}:∀{r:List Nat},KT X r->∀i∈r,X i
 | _::_,h,_,.head _=>h.1
 | _::_,h,_,.tail _ hm=>KT.mem h.2 _ hm
theorem iU{X:Nat->Prop}:KT X []:=trivial
theorem dc{X:Nat->Prop}{i:Nat}{r:List Nat}(h:X i)(k:KT X r):KT X (i::r):=⟨h,k⟩
end
end GX
end
section
namespace SL
open Go Go.RowKit Go.ChangeShapes Go.WideShapes
end SL
namespace GX
open Go Go.RowKit SL
section
variable {P:Program}{ops:Array Oper}{Q:Exit->Act->World->Prop}{a:Act}{w w0 w1:World}{rest:List Oper}{o:Oper}{n d t:Nat}{v:Value}{l:List (Nat×Value)}{j e:Nat->Value}{L:List bj}{H:bj}{Df:List Deferred}
variable {α:Type}{E:TypeId}{sz g cap:Nat}{enc:α->List Value}{xs:List α}
end
end GX
end
section
namespace GX
open Go Go.RowKit SL
def vm:List Value->List Value->Bool
 | .int _ a::xs,.int _ b::ys=>(a==b)&&vm xs ys
 | .bool a::xs,.bool b::ys=>(a==b)&&vm xs ys
 | _,_=>true
def DB(P:Program):Nat->List Field->List Value->List Value->Bool
 | _,[],[],[]=>true
 | i,f::fs,.int k _::xs,.int k' _::ys=>(f.name != "_")&&f.offset==i&&(match P.underlying f.type with | some (.int _)=>true | _=>false)&&k==k'&&DB P (i+1) fs xs ys
 | i,f::fs,.bool _::xs,.bool _::ys=>(f.name != "_")&&f.offset==i&&(match P.underlying f.type with | some .bool=>true | _=>false)&&DB P (i+1) fs xs ys
 | _,_,_,_=>false
section
variable {P:Program}{w:World}{o:Oper}{e:Nat->Value}
theorem sZ{t:TypeId}{cs:Array Value}{i:Nat}{v:Value}(h:(match P.underlying t with | some (.int _)=>true | some .bool=>true | _=>false)=true)(hv:cs[i]? = some v):(part t cs i).run P w= .ok v w:=by
 have hu :∃d,P.underlying t=some d/\(∀fs,d≠.struct fs)/\∀n q,d≠.array n q:=by
  revert h
  cases hq:P.underlying t with
  | none=>simp
  | some d=>cases d<;>simp
 obtain⟨d,hd,h1,h2⟩:=hu;unfold part isAgg;simp only[n5,run_underlying hd,n6];cases d<;>simp_all
theorem KU(d:Nat)(xs ys:Array Value):∀(fs:List Field) (i:Nat) (us vs:List Value),DB P i fs us vs=true->(∀j,us[j]? = xs[i+j]?∨us.length<=j)->(∀j,vs[j]? = ys[i+j]?∨vs.length<=j)->
 (Op.eqFields (d+1) xs ys fs).run P w= .ok (vm us vs) w
 | [],_,[],[],_,_,_=>by simp[Op.eqFields,vm]
 | f::fs,i,.int k a::us,.int k' b::vs,h,hx,hy=>by
  simp only[DB,mR,bne_iff_ne,ne_eq,zT]at h;obtain⟨⟨⟨⟨hn,ho⟩,ht⟩,hk⟩,hr⟩:=h;subst hk;have hx0:xs[i]? = some (.int k a):=by rcases hx 0 with h | h;simpa using h.symm;simp at h
  have hy0:ys[i]? = some (.int k b):=by rcases hy 0 with h | h;simpa using h.symm;simp at h
  have hty :∃kk,P.underlying f.type=some (.int kk):=by
   revert ht
   cases hq:P.underlying f.type with
   | none=>simp
   | some d=>cases d<;>simp
  obtain⟨kk,hty⟩:=hty;have ih:=KU d xs ys fs (i+1) us vs hr (λj=>by rcases hx (j+1)with h | h;left;simpa [Oz,Kb]using h;right;simpa using h) (λj=>by rcases hy (j+1)with h | h;left;simpa [Oz,Kb]using h;right;simpa using h);have pa:=sZ (P:=P) (w:=w) (t:=f.type) (cs:=xs) (i:=f.offset) (v:=.int k a) (by rw[hty]) (by rw[ho];exact hx0);have pb:=sZ (P:=P) (w:=w) (t:=f.type) (cs:=ys) (i:=f.offset) (v:=.int k b) (by rw[hty]) (by rw[ho];exact hy0);rw[Op.eqFields];simp only[aP hn,n5,pa,pb,run_equalIn_int w d f.type k kk a b hty,n6];cases hab:(a==b)
  ·simp[vm,hab]
  ·simp[vm,hab,ih]
 | f::fs,i,.bool a::us,.bool b::vs,h,hx,hy=>by
  simp only[DB,mR,bne_iff_ne,ne_eq,zT]at h;obtain⟨⟨⟨hn,ho⟩,ht⟩,hr⟩:=h;have hx0:xs[i]? = some (.bool a):=by rcases hx 0 with h | h;simpa using h.symm;simp at h
  have hy0:ys[i]? = some (.bool b):=by rcases hy 0 with h | h;simpa using h.symm;simp at h
  have hty:P.underlying f.type=some .bool:=by
   revert ht
   cases hq:P.underlying f.type with
   | none=>simp
   | some d=>cases d<;>simp
  have ih:=KU d xs ys fs (i+1) us vs hr (λj=>by rcases hx (j+1)with h | h;left;simpa [Oz,Kb]using h;right;simpa using h) (λj=>by rcases hy (j+1)with h | h;left;simpa [Oz,Kb]using h;right;simpa using h);have pa:=sZ (P:=P) (w:=w) (t:=f.type) (cs:=xs) (i:=f.offset) (v:=.bool a) (by rw[hty]) (by rw[ho];exact hx0);have pb:=sZ (P:=P) (w:=w) (t:=f.type) (cs:=ys) (i:=f.offset) (v:=.bool b) (by rw[hty]) (by rw[ho];exact hy0);rw[Op.eqFields];simp only[aP hn,n5,pa,pb,run_equalIn_bool' w d f.type a b hty,n6];cases hab:(a==b)
  ·simp[vm,hab]
  ·simp[vm,hab,ih]
end
theorem gd{γ:Type}{p:Prop}[Decidable p]{x:Option γ}{r:γ}(h:(if p then x else none)=some r):p/\x=some r:=by
 by_cases c:p
 ·rw[aP c]at h;exact⟨c,h⟩
 ·rw[cu c]at h;cases h
theorem ifT{γ:Type}{p:Prop}[Decidable p]{x y:Option γ}{r:γ}(c:p)(h:(if p then x else y)=some r):x=some r:=by rw[aP c]at h;exact h
theorem ifF{γ:Type}{p:Prop}[Decidable p]{x y:Option γ}{r:γ}(c:¬p)(h:(if p then x else y)=some r):y=some r:=by rw[cu c]at h;exact h
theorem bF{b:Bool}(h:¬b=true):b=false:=by cases b<;>simp_all
theorem gE{γ:Type}{x y:γ}(h:some x=some y):x=y:=Option.some.inj h
def OC{γ:Type}(o:Option (Unit))(f:Option γ):Option γ:=match o with | some ()=>f | none=>none
@[simp] theorem jC{γ:Type}(f:Option γ):OC (some ()) f=f:=rfl
@[simp] theorem abx{γ:Type}(f:Option γ):OC none f=none:=rfl
theorem bd0{γ:Type}{o:Option (Unit)}{f:Option γ}{r:γ}(h:OC o f=some r):o=some ()/\f=some r:=by
 match o,h with | some (),h=>exact⟨rfl,h⟩
def zZ{γ:Type}(o:Option ((Unit)⊕γ))(f:Option γ):Option γ:=match o with | some (.inl ())=>f | some (.inr r)=>some r | none=>none
@[simp] theorem fA{γ:Type}(f:Option γ):zZ (some (.inl ())) f=f:=rfl
@[simp] theorem KV{γ:Type}(r:γ)(f:Option γ):zZ (some (.inr r)) f=some r:=rfl
@[simp] theorem aby{γ:Type}(f:Option γ):zZ none f=none:=rfl
def jc0{γ:Type}(o:(Unit)⊕γ)(f:Option γ)(r:γ):Prop:=match o with | .inl ()=>f=some r | .inr x=>x=r
theorem Gz{γ:Type}{o:Option ((Unit)⊕γ)}{f:Option γ}{r:γ}(h:zZ o f=some r) :∃o',o=some o'/\jc0 o' f r:=by
 match o,h with | some (.inl ()),h=>exact⟨_,rfl,h⟩ | some (.inr x),h=>exact⟨_,rfl,gE h⟩
theorem xm{γ:Type}{o:(Unit)⊕γ}{f:Option γ}{r x:γ}(h:some (.inr x)=some o)(k:jc0 o f r):some x=some r:=by
 have e:=gE h;subst e;exact nV some k
def kc0{γ:Type}(o:Unit)(f:Option γ)(r:γ):Prop:=match o with | ()=>f=some r
theorem kd0{γ:Type}{o:Option (Unit)}{f:Option γ}{r:γ}(h:OC o f=some r) :∃o',o=some o'/\kc0 o' f r:=by
 match o,h with | some (),h=>exact⟨_,rfl,h⟩
theorem GA{γ:Type}{f:Option γ}{r:γ}(k:jc0 (γ:=γ) (.inl ()) f r):f=some r:=k
theorem kk0{γ:Type}{f:Option γ}{r:γ}(k:kc0 (γ:=γ) () f r):f=some r:=k
def ei{dN:Type}{γ:Type}(o:Option (dN))(f:dN->Option γ):Option γ:=match o with | some x0=>f x0 | none=>none
@[simp] theorem au{dN:Type}{γ:Type}(x0:dN)(f:dN->Option γ):ei (some x0) f=f x0:=rfl
@[simp] theorem abz{dN:Type}{γ:Type}(f:dN->Option γ):ei none f=none:=rfl
theorem bd1{dN:Type}{γ:Type}{o:Option (dN)}{f:dN->Option γ}{r:γ}(h:ei o f=some r) :∃x0,o=some x0/\f x0=some r:=by
 match o,h with | some x0,h=>exact⟨x0,rfl,h⟩
def jn1{dN:Type}{γ:Type}(o:Option ((dN)⊕γ))(f:dN->Option γ):Option γ:=match o with | some (.inl x0)=>f x0 | some (.inr r)=>some r | none=>none
@[simp] theorem Qh{dN:Type}{γ:Type}(x0:dN)(f:dN->Option γ):jn1 (some (.inl x0)) f=f x0:=rfl
@[simp] theorem ad9{dN:Type}{γ:Type}(r:γ)(f:dN->Option γ):jn1 (some (.inr r)) f=some r:=rfl
@[simp] theorem abA{dN:Type}{γ:Type}(f:dN->Option γ):jn1 none f=none:=rfl
def jc1{dN:Type}{γ:Type}(o:(dN)⊕γ)(f:dN->Option γ)(r:γ):Prop:=match o with | .inl x0=>f x0=some r | .inr x=>x=r
theorem jd1{dN:Type}{γ:Type}{o:Option ((dN)⊕γ)}{f:dN->Option γ}{r:γ}(h:jn1 o f=some r) :∃o',o=some o'/\jc1 o' f r:=by
 match o,h with | some (.inl x0),h=>exact⟨_,rfl,h⟩ | some (.inr x),h=>exact⟨_,rfl,gE h⟩
theorem jx1{dN:Type}{γ:Type}{o:(dN)⊕γ}{f:dN->Option γ}{r x:γ}(h:some (.inr x)=some o)(k:jc1 o f r):some x=some r:=by
 have e:=gE h;subst e;exact nV some k
def kc1{dN:Type}{γ:Type}(o:dN)(f:dN->Option γ)(r:γ):Prop:=match o with | x0=>f x0=some r
theorem kd1{dN:Type}{γ:Type}{o:Option (dN)}{f:dN->Option γ}{r:γ}(h:ei o f=some r) :∃o',o=some o'/\kc1 o' f r:=by
 match o,h with | some x0,h=>exact⟨_,rfl,h⟩
theorem jk1{dN:Type}{γ:Type}{f:dN->Option γ}{r:γ}{x0:dN}(k:jc1 (γ:=γ) (.inl x0) f r):f x0=some r:=k
theorem Ek{dN:Type}{γ:Type}{f:dN->Option γ}{r:γ}{x0:dN}(k:kc1 (γ:=γ) x0 f r):f x0=some r:=k
def tN{dN eW:Type}{γ:Type}(o:Option (dN×eW))(f:dN->eW->Option γ):Option γ:=match o with | some (x0,x1)=>f x0 x1 | none=>none
@[simp] theorem eR{dN eW:Type}{γ:Type}(x0:dN)(x1:eW)(f:dN->eW->Option γ):tN (some (x0,x1)) f=f x0 x1:=rfl
@[simp] theorem abB{dN eW:Type}{γ:Type}(f:dN->eW->Option γ):tN none f=none:=rfl
theorem bd2{dN eW:Type}{γ:Type}{o:Option (dN×eW)}{f:dN->eW->Option γ}{r:γ}(h:tN o f=some r) :∃x0 x1,o=some (x0,x1)/\f x0 x1=some r:=by
 match o,h with | some (x0,x1),h=>exact⟨x0,x1,rfl,h⟩
def jn2{dN eW:Type}{γ:Type}(o:Option ((dN×eW)⊕γ))(f:dN->eW->Option γ):Option γ:=match o with | some (.inl (x0,x1))=>f x0 x1 | some (.inr r)=>some r | none=>none
@[simp] theorem WX{dN eW:Type}{γ:Type}(x0:dN)(x1:eW)(f:dN->eW->Option γ):jn2 (some (.inl (x0,x1))) f=f x0 x1:=rfl
@[simp] theorem WY{dN eW:Type}{γ:Type}(r:γ)(f:dN->eW->Option γ):jn2 (some (.inr r)) f=some r:=rfl
@[simp] theorem abC{dN eW:Type}{γ:Type}(f:dN->eW->Option γ):jn2 none f=none:=rfl
def jc2{dN eW:Type}{γ:Type}(o:(dN×eW)⊕γ)(f:dN->eW->Option γ)(r:γ):Prop:=match o with | .inl (x0,x1)=>f x0 x1=some r | .inr x=>x=r
theorem jd2{dN eW:Type}{γ:Type}{o:Option ((dN×eW)⊕γ)}{f:dN->eW->Option γ}{r:γ}(h:jn2 o f=some r) :∃o',o=some o'/\jc2 o' f r:=by
 match o,h with | some (.inl (x0,x1)),h=>exact⟨_,rfl,h⟩ | some (.inr x),h=>exact⟨_,rfl,gE h⟩
theorem jx2{dN eW:Type}{γ:Type}{o:(dN×eW)⊕γ}{f:dN->eW->Option γ}{r x:γ}(h:some (.inr x)=some o)(k:jc2 o f r):some x=some r:=by
 have e:=gE h;subst e;exact nV some k
def kc2{dN eW:Type}{γ:Type}(o:dN×eW)(f:dN->eW->Option γ)(r:γ):Prop:=match o with | (x0,x1)=>f x0 x1=some r
theorem kd2{dN eW:Type}{γ:Type}{o:Option (dN×eW)}{f:dN->eW->Option γ}{r:γ}(h:tN o f=some r) :∃o',o=some o'/\kc2 o' f r:=by
 match o,h with | some (x0,x1),h=>exact⟨_,rfl,h⟩
theorem jk2{dN eW:Type}{γ:Type}{f:dN->eW->Option γ}{r:γ}{x0:dN}{x1:eW}(k:jc2 (γ:=γ) (.inl (x0,x1)) f r):f x0 x1=some r:=k
theorem kk2{dN eW:Type}{γ:Type}{f:dN->eW->Option γ}{r:γ}{x0:dN}{x1:eW}(k:kc2 (γ:=γ) (x0,x1) f r):f x0 x1=some r:=k
def qd{dN eW gb:Type}{γ:Type}(o:Option (dN×eW×gb))(f:dN->eW->gb->Option γ):Option γ:=match o with | some (x0,x1,x2)=>f x0 x1 x2 | none=>none
@[simp] theorem dr{dN eW gb:Type}{γ:Type}(x0:dN)(x1:eW)(x2:gb)(f:dN->eW->gb->Option γ):qd (some (x0,x1,x2)) f=f x0 x1 x2:=rfl
@[simp] theorem abD{dN eW gb:Type}{γ:Type}(f:dN->eW->gb->Option γ):qd none f=none:=rfl
theorem bd3{dN eW gb:Type}{γ:Type}{o:Option (dN×eW×gb)}{f:dN->eW->gb->Option γ}{r:γ}(h:qd o f=some r) :∃x0 x1 x2,o=some (x0,x1,x2)/\f x0 x1 x2=some r:=by
 match o,h with | some (x0,x1,x2),h=>exact⟨x0,x1,x2,rfl,h⟩
def jn3{dN eW gb:Type}{γ:Type}(o:Option ((dN×eW×gb)⊕γ))(f:dN->eW->gb->Option γ):Option γ:=match o with | some (.inl (x0,x1,x2))=>f x0 x1 x2 | some (.inr r)=>some r | none=>none
@[simp] theorem aea{dN eW gb:Type}{γ:Type}(x0:dN)(x1:eW)(x2:gb)(f:dN->eW->gb->Option γ):jn3 (some (.inl (x0,x1,x2))) f=f x0 x1 x2:=rfl
@[simp] theorem aeb{dN eW gb:Type}{γ:Type}(r:γ)(f:dN->eW->gb->Option γ):jn3 (some (.inr r)) f=some r:=rfl
@[simp] theorem abE{dN eW gb:Type}{γ:Type}(f:dN->eW->gb->Option γ):jn3 none f=none:=rfl
def kc3{dN eW gb:Type}{γ:Type}(o:dN×eW×gb)(f:dN->eW->gb->Option γ)(r:γ):Prop:=match o with | (x0,x1,x2)=>f x0 x1 x2=some r
theorem kd3{dN eW gb:Type}{γ:Type}{o:Option (dN×eW×gb)}{f:dN->eW->gb->Option γ}{r:γ}(h:qd o f=some r) :∃o',o=some o'/\kc3 o' f r:=by
 match o,h with | some (x0,x1,x2),h=>exact⟨_,rfl,h⟩
theorem kk3{dN eW gb:Type}{γ:Type}{f:dN->eW->gb->Option γ}{r:γ}{x0:dN}{x1:eW}{x2:gb}(k:kc3 (γ:=γ) (x0,x1,x2) f r):f x0 x1 x2=some r:=k
def Jk{dN eW gb hM:Type}{γ:Type}(o:Option (dN×eW×gb×hM))(f:dN->eW->gb->hM->Option γ):Option γ:=match o with | some (x0,x1,x2,x3)=>f x0 x1 x2 x3 | none=>none
@[simp] theorem gH{dN eW gb hM:Type}{γ:Type}(x0:dN)(x1:eW)(x2:gb)(x3:hM)(f:dN->eW->gb->hM->Option γ):Jk (some (x0,x1,x2,x3)) f=f x0 x1 x2 x3:=rfl
@[simp] theorem abF{dN eW gb hM:Type}{γ:Type}(f:dN->eW->gb->hM->Option γ):Jk none f=none:=rfl
theorem bd4{dN eW gb hM:Type}{γ:Type}{o:Option (dN×eW×gb×hM)}{f:dN->eW->gb->hM->Option γ}{r:γ}(h:Jk o f=some r) :∃x0 x1 x2 x3,o=some (x0,x1,x2,x3)/\f x0 x1 x2 x3=some r:=by
 match o,h with | some (x0,x1,x2,x3),h=>exact⟨x0,x1,x2,x3,rfl,h⟩
def jn4{dN eW gb hM:Type}{γ:Type}(o:Option ((dN×eW×gb×hM)⊕γ))(f:dN->eW->gb->hM->Option γ):Option γ:=match o with | some (.inl (x0,x1,x2,x3))=>f x0 x1 x2 x3 | some (.inr r)=>some r | none=>none
@[simp] theorem aec{dN eW gb hM:Type}{γ:Type}(x0:dN)(x1:eW)(x2:gb)(x3:hM)(f:dN->eW->gb->hM->Option γ):jn4 (some (.inl (x0,x1,x2,x3))) f=f x0 x1 x2 x3:=rfl
@[simp] theorem aed{dN eW gb hM:Type}{γ:Type}(r:γ)(f:dN->eW->gb->hM->Option γ):jn4 (some (.inr r)) f=some r:=rfl
@[simp] theorem abG{dN eW gb hM:Type}{γ:Type}(f:dN->eW->gb->hM->Option γ):jn4 none f=none:=rfl
def kc4{dN eW gb hM:Type}{γ:Type}(o:dN×eW×gb×hM)(f:dN->eW->gb->hM->Option γ)(r:γ):Prop:=match o with | (x0,x1,x2,x3)=>f x0 x1 x2 x3=some r
def ob5{dN eW gb hM iW:Type}{γ:Type}(o:Option (dN×eW×gb×hM×iW))(f:dN->eW->gb->hM->iW->Option γ):Option γ:=match o with | some (x0,x1,x2,x3,x4)=>f x0 x1 x2 x3 x4 | none=>none
@[simp] theorem TU{dN eW gb hM iW:Type}{γ:Type}(x0:dN)(x1:eW)(x2:gb)(x3:hM)(x4:iW)(f:dN->eW->gb->hM->iW->Option γ):ob5 (some (x0,x1,x2,x3,x4)) f=f x0 x1 x2 x3 x4:=rfl
@[simp] theorem abH{dN eW gb hM iW:Type}{γ:Type}(f:dN->eW->gb->hM->iW->Option γ):ob5 none f=none:=rfl
theorem bd5{dN eW gb hM iW:Type}{γ:Type}{o:Option (dN×eW×gb×hM×iW)}{f:dN->eW->gb->hM->iW->Option γ}{r:γ}(h:ob5 o f=some r) :∃x0 x1 x2 x3 x4,o=some (x0,x1,x2,x3,x4)/\f x0 x1 x2 x3 x4=some r:=by
 match o,h with | some (x0,x1,x2,x3,x4),h=>exact⟨x0,x1,x2,x3,x4,rfl,h⟩
theorem Ez{dN eW gb hM iW:Type}{x0 y0:dN}{x1 y1:eW}{x2 y2:gb}{x3 y3:hM}{x4 y4:iW}(h:some (x0,x1,x2,x3,x4)=some (y0,y1,y2,y3,y4)):x0=y0/\x1=y1/\x2=y2/\x3=y3/\x4=y4:=by
 simpa using h
def jn5{dN eW gb hM iW:Type}{γ:Type}(o:Option ((dN×eW×gb×hM×iW)⊕γ))(f:dN->eW->gb->hM->iW->Option γ):Option γ:=match o with | some (.inl (x0,x1,x2,x3,x4))=>f x0 x1 x2 x3 x4 | some (.inr r)=>some r | none=>none
@[simp] theorem aee{dN eW gb hM iW:Type}{γ:Type}(x0:dN)(x1:eW)(x2:gb)(x3:hM)(x4:iW)(f:dN->eW->gb->hM->iW->Option γ):jn5 (some (.inl (x0,x1,x2,x3,x4))) f=f x0 x1 x2 x3 x4:=rfl
@[simp] theorem aef{dN eW gb hM iW:Type}{γ:Type}(r:γ)(f:dN->eW->gb->hM->iW->Option γ):jn5 (some (.inr r)) f=some r:=rfl
@[simp] theorem abI{dN eW gb hM iW:Type}{γ:Type}(f:dN->eW->gb->hM->iW->Option γ):jn5 none f=none:=rfl
def kc5{dN eW gb hM iW:Type}{γ:Type}(o:dN×eW×gb×hM×iW)(f:dN->eW->gb->hM->iW->Option γ)(r:γ):Prop:=match o with | (x0,x1,x2,x3,x4)=>f x0 x1 x2 x3 x4=some r
def ob6{dN eW gb hM iW kz:Type}{γ:Type}(o:Option (dN×eW×gb×hM×iW×kz))(f:dN->eW->gb->hM->iW->kz->Option γ):Option γ:=match o with | some (x0,x1,x2,x3,x4,x5)=>f x0 x1 x2 x3 x4 x5 | none=>none
@[simp] theorem abJ{dN eW gb hM iW kz:Type}{γ:Type}(x0:dN)(x1:eW)(x2:gb)(x3:hM)(x4:iW)(x5:kz)(f:dN->eW->gb->hM->iW->kz->Option γ):ob6 (some (x0,x1,x2,x3,x4,x5)) f=f x0 x1 x2 x3 x4 x5:=rfl
@[simp] theorem abK{dN eW gb hM iW kz:Type}{γ:Type}(f:dN->eW->gb->hM->iW->kz->Option γ):ob6 none f=none:=rfl
def jn6{dN eW gb hM iW kz:Type}{γ:Type}(o:Option ((dN×eW×gb×hM×iW×kz)⊕γ))(f:dN->eW->gb->hM->iW->kz->Option γ):Option γ:=match o with | some (.inl (x0,x1,x2,x3,x4,x5))=>f x0 x1 x2 x3 x4 x5 | some (.inr r)=>some r | none=>none
@[simp] theorem aeg{dN eW gb hM iW kz:Type}{γ:Type}(x0:dN)(x1:eW)(x2:gb)(x3:hM)(x4:iW)(x5:kz)(f:dN->eW->gb->hM->iW->kz->Option γ):jn6 (some (.inl (x0,x1,x2,x3,x4,x5))) f=f x0 x1 x2 x3 x4 x5:=rfl
@[simp] theorem aeh{dN eW gb hM iW kz:Type}{γ:Type}(r:γ)(f:dN->eW->gb->hM->iW->kz->Option γ):jn6 (some (.inr r)) f=some r:=rfl
@[simp] theorem abL{dN eW gb hM iW kz:Type}{γ:Type}(f:dN->eW->gb->hM->iW->kz->Option γ):jn6 none f=none:=rfl
def kc6{dN eW gb hM iW kz:Type}{γ:Type}(o:dN×eW×gb×hM×iW×kz)(f:dN->eW->gb->hM->iW->kz->Option γ)(r:γ):Prop:=match o with | (x0,x1,x2,x3,x4,x5)=>f x0 x1 x2 x3 x4 x5=some r
def ob7{dN eW gb hM iW kz mS:Type}{γ:Type}(o:Option (dN×eW×gb×hM×iW×kz×mS))(f:dN->eW->gb->hM->iW->kz->mS->Option γ):Option γ:=match o with | some (x0,x1,x2,x3,x4,x5,x6)=>f x0 x1 x2 x3 x4 x5 x6 | none=>none
@[simp] theorem abM{dN eW gb hM iW kz mS:Type}{γ:Type}(x0:dN)(x1:eW)(x2:gb)(x3:hM)(x4:iW)(x5:kz)(x6:mS)(f:dN->eW->gb->hM->iW->kz->mS->Option γ):ob7 (some (x0,x1,x2,x3,x4,x5,x6)) f=f x0 x1 x2 x3 x4 x5 x6:=rfl
@[simp] theorem abN{dN eW gb hM iW kz mS:Type}{γ:Type}(f:dN->eW->gb->hM->iW->kz->mS->Option γ):ob7 none f=none:=rfl
def jn7{dN eW gb hM iW kz mS:Type}{γ:Type}(o:Option ((dN×eW×gb×hM×iW×kz×mS)⊕γ))(f:dN->eW->gb->hM->iW->kz->mS->Option γ):Option γ:=match o with | some (.inl (x0,x1,x2,x3,x4,x5,x6))=>f x0 x1 x2 x3 x4 x5 x6 | some (.inr r)=>some r | none=>none
@[simp] theorem aei{dN eW gb hM iW kz mS:Type}{γ:Type}(x0:dN)(x1:eW)(x2:gb)(x3:hM)(x4:iW)(x5:kz)(x6:mS)(f:dN->eW->gb->hM->iW->kz->mS->Option γ):jn7 (some (.inl (x0,x1,x2,x3,x4,x5,x6))) f=f x0 x1 x2 x3 x4 x5 x6:=rfl
@[simp] theorem aej{dN eW gb hM iW kz mS:Type}{γ:Type}(r:γ)(f:dN->eW->gb->hM->iW->kz->mS->Option γ):jn7 (some (.inr r)) f=some r:=rfl
@[simp] theorem abO{dN eW gb hM iW kz mS:Type}{γ:Type}(f:dN->eW->gb->hM->iW->kz->mS->Option γ):jn7 none f=none:=rfl
def kc7{dN eW gb hM iW kz mS:Type}{γ:Type}(o:dN×eW×gb×hM×iW×kz×mS)(f:dN->eW->gb->hM->iW->kz->mS->Option γ)(r:γ):Prop:=match o with | (x0,x1,x2,x3,x4,x5,x6)=>f x0 x1 x2 x3 x4 x5 x6=some r
def ob8{dN eW gb hM iW kz mS oD:Type}{γ:Type}(o:Option (dN×eW×gb×hM×iW×kz×mS×oD))(f:dN->eW->gb->hM->iW->kz->mS->oD->Option γ):Option γ:=match o with | some (x0,x1,x2,x3,x4,x5,x6,x7)=>f x0 x1 x2 x3 x4 x5 x6 x7 | none=>none
@[simp] theorem abP{dN eW gb hM iW kz mS oD:Type}{γ:Type}(x0:dN)(x1:eW)(x2:gb)(x3:hM)(x4:iW)(x5:kz)(x6:mS)(x7:oD)(f:dN->eW->gb->hM->iW->kz->mS->oD->Option γ):ob8 (some (x0,x1,x2,x3,x4,x5,x6,x7)) f=f x0 x1 x2 x3 x4 x5 x6 x7:=rfl
@[simp] theorem abQ{dN eW gb hM iW kz mS oD:Type}{γ:Type}(f:dN->eW->gb->hM->iW->kz->mS->oD->Option γ):ob8 none f=none:=rfl
def jn8{dN eW gb hM iW kz mS oD:Type}{γ:Type}(o:Option ((dN×eW×gb×hM×iW×kz×mS×oD)⊕γ))(f:dN->eW->gb->hM->iW->kz->mS->oD->Option γ):Option γ:=match o with | some (.inl (x0,x1,x2,x3,x4,x5,x6,x7))=>f x0 x1 x2 x3 x4 x5 x6 x7 | some (.inr r)=>some r | none=>none
@[simp] theorem aek{dN eW gb hM iW kz mS oD:Type}{γ:Type}(x0:dN)(x1:eW)(x2:gb)(x3:hM)(x4:iW)(x5:kz)(x6:mS)(x7:oD)(f:dN->eW->gb->hM->iW->kz->mS->oD->Option γ):jn8 (some (.inl (x0,x1,x2,x3,x4,x5,x6,x7))) f=f x0 x1 x2 x3 x4 x5 x6 x7:=rfl
@[simp] theorem ael{dN eW gb hM iW kz mS oD:Type}{γ:Type}(r:γ)(f:dN->eW->gb->hM->iW->kz->mS->oD->Option γ):jn8 (some (.inr r)) f=some r:=rfl
@[simp] theorem abR{dN eW gb hM iW kz mS oD:Type}{γ:Type}(f:dN->eW->gb->hM->iW->kz->mS->oD->Option γ):jn8 none f=none:=rfl
def kc8{dN eW gb hM iW kz mS oD:Type}{γ:Type}(o:dN×eW×gb×hM×iW×kz×mS×oD)(f:dN->eW->gb->hM->iW->kz->mS->oD->Option γ)(r:γ):Prop:=match o with | (x0,x1,x2,x3,x4,x5,x6,x7)=>f x0 x1 x2 x3 x4 x5 x6 x7=some r
def ob9{dN eW gb hM iW kz mS oD sj:Type}{γ:Type}(o:Option (dN×eW×gb×hM×iW×kz×mS×oD×sj))(f:dN->eW->gb->hM->iW->kz->mS->oD->sj->Option γ):Option γ:=match o with | some (x0,x1,x2,x3,x4,x5,x6,x7,x8)=>f x0 x1 x2 x3 x4 x5 x6 x7 x8 | none=>none
@[simp] theorem abS{dN eW gb hM iW kz mS oD sj:Type}{γ:Type}(x0:dN)(x1:eW)(x2:gb)(x3:hM)(x4:iW)(x5:kz)(x6:mS)(x7:oD)(x8:sj)(f:dN->eW->gb->hM->iW->kz->mS->oD->sj->Option γ):ob9 (some (x0,x1,x2,x3,x4,x5,x6,x7,x8)) f=f x0 x1 x2 x3 x4 x5 x6 x7 x8:=rfl
@[simp] theorem abT{dN eW gb hM iW kz mS oD sj:Type}{γ:Type}(f:dN->eW->gb->hM->iW->kz->mS->oD->sj->Option γ):ob9 none f=none:=rfl
def jn9{dN eW gb hM iW kz mS oD sj:Type}{γ:Type}(o:Option ((dN×eW×gb×hM×iW×kz×mS×oD×sj)⊕γ))(f:dN->eW->gb->hM->iW->kz->mS->oD->sj->Option γ):Option γ:=match o with | some (.inl (x0,x1,x2,x3,x4,x5,x6,x7,x8))=>f x0 x1 x2 x3 x4 x5 x6 x7 x8 | some (.inr r)=>some r | none=>none
@[simp] theorem aem{dN eW gb hM iW kz mS oD sj:Type}{γ:Type}(x0:dN)(x1:eW)(x2:gb)(x3:hM)(x4:iW)(x5:kz)(x6:mS)(x7:oD)(x8:sj)(f:dN->eW->gb->hM->iW->kz->mS->oD->sj->Option γ):jn9 (some (.inl (x0,x1,x2,x3,x4,x5,x6,x7,x8))) f=f x0 x1 x2 x3 x4 x5 x6 x7 x8:=rfl
@[simp] theorem aen{dN eW gb hM iW kz mS oD sj:Type}{γ:Type}(r:γ)(f:dN->eW->gb->hM->iW->kz->mS->oD->sj->Option γ):jn9 (some (.inr r)) f=some r:=rfl
@[simp] theorem abU{dN eW gb hM iW kz mS oD sj:Type}{γ:Type}(f:dN->eW->gb->hM->iW->kz->mS->oD->sj->Option γ):jn9 none f=none:=rfl
def kc9{dN eW gb hM iW kz mS oD sj:Type}{γ:Type}(o:dN×eW×gb×hM×iW×kz×mS×oD×sj)(f:dN->eW->gb->hM->iW->kz->mS->oD->sj->Option γ)(r:γ):Prop:=match o with | (x0,x1,x2,x3,x4,x5,x6,x7,x8)=>f x0 x1 x2 x3 x4 x5 x6 x7 x8=some r
def abV{dN eW gb hM iW kz mS oD sj vn:Type}{γ:Type}(o:Option (dN×eW×gb×hM×iW×kz×mS×oD×sj×vn))(f:dN->eW->gb->hM->iW->kz->mS->oD->sj->vn->Option γ):Option γ:=match o with | some (x0,x1,x2,x3,x4,x5,x6,x7,x8,x9)=>f x0 x1 x2 x3 x4 x5 x6 x7 x8 x9 | none=>none
@[simp] theorem abi{dN eW gb hM iW kz mS oD sj vn:Type}{γ:Type}(x0:dN)(x1:eW)(x2:gb)(x3:hM)(x4:iW)(x5:kz)(x6:mS)(x7:oD)(x8:sj)(x9:vn)(f:dN->eW->gb->hM->iW->kz->mS->oD->sj->vn->Option γ):abV (some (x0,x1,x2,x3,x4,x5,x6,x7,x8,x9)) f=f x0 x1 x2 x3 x4 x5 x6 x7 x8 x9:=rfl
@[simp] theorem abj{dN eW gb hM iW kz mS oD sj vn:Type}{γ:Type}(f:dN->eW->gb->hM->iW->kz->mS->oD->sj->vn->Option γ):abV none f=none:=rfl
def ZI{dN eW gb hM iW kz mS oD sj vn:Type}{γ:Type}(o:Option ((dN×eW×gb×hM×iW×kz×mS×oD×sj×vn)⊕γ))(f:dN->eW->gb->hM->iW->kz->mS->oD->sj->vn->Option γ):Option γ:=match o with | some (.inl (x0,x1,x2,x3,x4,x5,x6,x7,x8,x9))=>f x0 x1 x2 x3 x4 x5 x6 x7 x8 x9 | some (.inr r)=>some r | none=>none
@[simp] theorem abW{dN eW gb hM iW kz mS oD sj vn:Type}{γ:Type}(x0:dN)(x1:eW)(x2:gb)(x3:hM)(x4:iW)(x5:kz)(x6:mS)(x7:oD)(x8:sj)(x9:vn)(f:dN->eW->gb->hM->iW->kz->mS->oD->sj->vn->Option γ):ZI (some (.inl (x0,x1,x2,x3,x4,x5,x6,x7,x8,x9))) f=f x0 x1 x2 x3 x4 x5 x6 x7 x8 x9:=rfl
@[simp] theorem abX{dN eW gb hM iW kz mS oD sj vn:Type}{γ:Type}(r:γ)(f:dN->eW->gb->hM->iW->kz->mS->oD->sj->vn->Option γ):ZI (some (.inr r)) f=some r:=rfl
@[simp] theorem abk{dN eW gb hM iW kz mS oD sj vn:Type}{γ:Type}(f:dN->eW->gb->hM->iW->kz->mS->oD->sj->vn->Option γ):ZI none f=none:=rfl
def ZJ{dN eW gb hM iW kz mS oD sj vn:Type}{γ:Type}(o:dN×eW×gb×hM×iW×kz×mS×oD×sj×vn)(f:dN->eW->gb->hM->iW->kz->mS->oD->sj->vn->Option γ)(r:γ):Prop:=match o with | (x0,x1,x2,x3,x4,x5,x6,x7,x8,x9)=>f x0 x1 x2 x3 x4 x5 x6 x7 x8 x9=some r
def abY{dN eW gb hM iW kz mS oD sj vn sM:Type}{γ:Type}(o:Option (dN×eW×gb×hM×iW×kz×mS×oD×sj×vn×sM))(f:dN->eW->gb->hM->iW->kz->mS->oD->sj->vn->sM->Option γ):Option γ:=match o with | some (x0,x1,x2,x3,x4,x5,x6,x7,x8,x9,CN)=>f x0 x1 x2 x3 x4 x5 x6 x7 x8 x9 CN | none=>none
@[simp] theorem abl{dN eW gb hM iW kz mS oD sj vn sM:Type}{γ:Type}(x0:dN)(x1:eW)(x2:gb)(x3:hM)(x4:iW)(x5:kz)(x6:mS)(x7:oD)(x8:sj)(x9:vn)(CN:sM)(f:dN->eW->gb->hM->iW->kz->mS->oD->sj->vn->sM->Option γ):abY (some (x0,x1,x2,x3,x4,x5,x6,x7,x8,x9,CN)) f=f x0 x1 x2 x3 x4 x5 x6 x7 x8 x9 CN:=rfl
@[simp] theorem abm{dN eW gb hM iW kz mS oD sj vn sM:Type}{γ:Type}(f:dN->eW->gb->hM->iW->kz->mS->oD->sj->vn->sM->Option γ):abY none f=none:=rfl
def ZK{dN eW gb hM iW kz mS oD sj vn sM:Type}{γ:Type}(o:Option ((dN×eW×gb×hM×iW×kz×mS×oD×sj×vn×sM)⊕γ))(f:dN->eW->gb->hM->iW->kz->mS->oD->sj->vn->sM->Option γ):Option γ:=match o with | some (.inl (x0,x1,x2,x3,x4,x5,x6,x7,x8,x9,CN))=>f x0 x1 x2 x3 x4 x5 x6 x7 x8 x9 CN | some (.inr r)=>some r | none=>none
@[simp] theorem abZ{dN eW gb hM iW kz mS oD sj vn sM:Type}{γ:Type}(x0:dN)(x1:eW)(x2:gb)(x3:hM)(x4:iW)(x5:kz)(x6:mS)(x7:oD)(x8:sj)(x9:vn)(CN:sM)(f:dN->eW->gb->hM->iW->kz->mS->oD->sj->vn->sM->Option γ):ZK (some (.inl (x0,x1,x2,x3,x4,x5,x6,x7,x8,x9,CN))) f=f x0 x1 x2 x3 x4 x5 x6 x7 x8 x9 CN:=rfl
@[simp] theorem ab0{dN eW gb hM iW kz mS oD sj vn sM:Type}{γ:Type}(r:γ)(f:dN->eW->gb->hM->iW->kz->mS->oD->sj->vn->sM->Option γ):ZK (some (.inr r)) f=some r:=rfl
@[simp] theorem abn{dN eW gb hM iW kz mS oD sj vn sM:Type}{γ:Type}(f:dN->eW->gb->hM->iW->kz->mS->oD->sj->vn->sM->Option γ):ZK none f=none:=rfl
def ZL{dN eW gb hM iW kz mS oD sj vn sM:Type}{γ:Type}(o:dN×eW×gb×hM×iW×kz×mS×oD×sj×vn×sM)(f:dN->eW->gb->hM->iW->kz->mS->oD->sj->vn->sM->Option γ)(r:γ):Prop:=match o with | (x0,x1,x2,x3,x4,x5,x6,x7,x8,x9,CN)=>f x0 x1 x2 x3 x4 x5 x6 x7 x8 x9 CN=some r
def ab1{dN eW gb hM iW kz mS oD sj vn sM Cb:Type}{γ:Type}(o:Option (dN×eW×gb×hM×iW×kz×mS×oD×sj×vn×sM×Cb))(f:dN->eW->gb->hM->iW->kz->mS->oD->sj->vn->sM->Cb->Option γ):Option γ:=match o with | some (x0,x1,x2,x3,x4,x5,x6,x7,x8,x9,CN,yt)=>f x0 x1 x2 x3 x4 x5 x6 x7 x8 x9 CN yt | none=>none
@[simp] theorem abo{dN eW gb hM iW kz mS oD sj vn sM Cb:Type}{γ:Type}(x0:dN)(x1:eW)(x2:gb)(x3:hM)(x4:iW)(x5:kz)(x6:mS)(x7:oD)(x8:sj)(x9:vn)(CN:sM)(yt:Cb)(f:dN->eW->gb->hM->iW->kz->mS->oD->sj->vn->sM->Cb->Option γ):ab1 (some (x0,x1,x2,x3,x4,x5,x6,x7,x8,x9,CN,yt)) f=f x0 x1 x2 x3 x4 x5 x6 x7 x8 x9 CN yt:=rfl
@[simp] theorem abp{dN eW gb hM iW kz mS oD sj vn sM Cb:Type}{γ:Type}(f:dN->eW->gb->hM->iW->kz->mS->oD->sj->vn->sM->Cb->Option γ):ab1 none f=none:=rfl
def ZM{dN eW gb hM iW kz mS oD sj vn sM Cb:Type}{γ:Type}(o:Option ((dN×eW×gb×hM×iW×kz×mS×oD×sj×vn×sM×Cb)⊕γ))(f:dN->eW->gb->hM->iW->kz->mS->oD->sj->vn->sM->Cb->Option γ):Option γ:=match o with | some (.inl (x0,x1,x2,x3,x4,x5,x6,x7,x8,x9,CN,yt))=>f x0 x1 x2 x3 x4 x5 x6 x7 x8 x9 CN yt | some (.inr r)=>some r | none=>none
@[simp] theorem ab2{dN eW gb hM iW kz mS oD sj vn sM Cb:Type}{γ:Type}(x0:dN)(x1:eW)(x2:gb)(x3:hM)(x4:iW)(x5:kz)(x6:mS)(x7:oD)(x8:sj)(x9:vn)(CN:sM)(yt:Cb)(f:dN->eW->gb->hM->iW->kz->mS->oD->sj->vn->sM->Cb->Option γ):ZM (some (.inl (x0,x1,x2,x3,x4,x5,x6,x7,x8,x9,CN,yt))) f=f x0 x1 x2 x3 x4 x5 x6 x7 x8 x9 CN yt:=rfl
@[simp] theorem ab3{dN eW gb hM iW kz mS oD sj vn sM Cb:Type}{γ:Type}(r:γ)(f:dN->eW->gb->hM->iW->kz->mS->oD->sj->vn->sM->Cb->Option γ):ZM (some (.inr r)) f=some r:=rfl
@[simp] theorem abq{dN eW gb hM iW kz mS oD sj vn sM Cb:Type}{γ:Type}(f:dN->eW->gb->hM->iW->kz->mS->oD->sj->vn->sM->Cb->Option γ):ZM none f=none:=rfl
abbrev wi(x:Int):Int:=IntKind.i64.wrap x
theorem eO{x:Int}(h:-9223372036854775808<=x/\x<=9223372036854775807):wi x=x:=i64_in x h
abbrev bI(i:Int)(n:Nat):Prop:=0<=i/\i<(n:Int)
theorem bl{α:Type}[Inhabited α]{l:List α}{i:Int}(h:bI i l.length):l[i.toNat]? = some (J l i.toNat):=get_at (by have:=h.1;have:=h.2;omega)
theorem fu{α:Type}[Inhabited α]{l:List α}{i:Int}(h:bI i l.length):i.toNat<l.length:=by have:=h.1;have:=h.2;omega
def aH(x:Int):List Value:=[.int .i64 x]
theorem aG:tZ aH 1:=⟨λ_=>rfl,λx u h=>by simp only[aH,tV,tW,tX]at h;subst h;rfl,eC⟩
def HX(x:Bool):List Value:=[.bool x]
def dQ:fP->Nat | some a=>a.block | none=>0
def jl:fP->Nat | some a=>a.off | none=>0
section
variable {P:Program}{w0 w:World}{L:List bj}{α:Type}{E:TypeId}{sz n cc:Nat}{enc:α->List Value}{l:List α}{ca:fP}{o:Oper}{e:Nat->Value}{t:TypeId}{Df:List Deferred}
theorem _root_.Go.Proofs.YtpikpffbcjpmcaaGreatDoor.SL.Fit.tD(h:Fit w0 (aC (rowOf E sz enc (.slice ca n cc) l::L)) w)(hl:0<l.length):ca=some ⟨dQ ca,0,none⟩/\Fit w0 (aC (slc E sz enc (dQ ca) cc l::L)) w:=by
 obtain⟨g,e,h'⟩:=h.WN hl;subst e;exact⟨rfl,h'⟩
theorem _root_.Go.Proofs.YtpikpffbcjpmcaaGreatDoor.SL.Fit.cG(he:tZ enc sz)(h:Fit w0 (aC (rowOf E sz enc (.slice ca n cc) l::L)) w){i f:Nat}{x:α}{u:Value}(hi:l[i]? = some x)(hf:(enc x)[f]? = some u):w.cell? ⟨dQ ca,i*sz+f,none⟩=some u:=by
 have hlt:i<l.length:=(List.getElem?_eq_some_iff.1 hi).1;exact(h.tD I).2.Qe he i f x u hi hf
theorem _root_.Go.Proofs.YtpikpffbcjpmcaaGreatDoor.SL.Fit.z7(h:Fit w0 (aC (slc E sz enc (dQ ca) cc l::L)) w)(hca:ca=some ⟨dQ ca,0,none⟩)(hn:n=l.length):Fit w0 (aC (rowOf E sz enc (.slice ca n cc) l::L)) w:=h.WO hca hn
theorem AH{w':World}{x y:Operand}{k:IntKind}{i:Int}(ho:o.op= .indexAddr t x y)(hx:eZ e x= .slice ca n cc)(hy:eZ e y= .int k i)
 (ht:P.underlying t=some (.slice E)) (hs:(P.info? E).map (·.size)=some sz) (hF:Fit w0 (aC (rowOf E sz enc (.slice ca n cc) l::L)) w) (hi:bI i l.length):(execOp (eZ e) o).run P w'= .ok (.value (.pointer (some ⟨dQ ca,i.toNat*sz,none⟩))) w':=by
 have hn:=hF.rA;have h0:=hi.1;have h1:=hi.2;have hca:=(hF.tD I).1;exact ZE hca ho hx hy ht hs h0 I
end
section
variable {P:Program}{ops:Array Oper}{Q:Exit->Act->World->Prop}{a:Act}{w w0 w1:World}{rest:List Oper}{o:Oper}{n d t:Nat}{v:Value}{l:List (Nat×Value)}{j e:Nat->Value}{L:List bj}{H:bj}{Df:List Deferred}
variable {α:Type}{E:TypeId}{sz n0 cc:Nat}{enc:α->List Value}{xs:List α}{ca:fP}
theorem qz{x y:Operand}(hw:vg o ops a)(hd:o.dst=none)(hr:cX Df n (lk l j) a)(ho:o.op= .store t x y)
 {i f:Nat} (hx:eZ (lk l j) x= .pointer (some ⟨dQ ca,i*sz+f,none⟩)) (hy:eZ (lk l j) y=v) (hv:v.cells=#[v]) (h1:v.oneCell'=true) (hs:(P.info? t).map (·.size)=some 1)
 (he:tZ enc sz) (hF:Fit w0 (aC (rowOf E sz enc (.slice ca n0 cc) xs::L)) w) {p q:α} (hp:xs[i]? = some p) (hf:f<sz) (hq:enc q=(enc p).set f v)
 (k:∀w1,Fit w0 (aC (rowOf E sz enc (.slice ca n0 cc) (xs.set i q)::L)) w1->wpList P ops Q rest a w1):wpList P ops Q (o::rest) a w:=by
 have hlt:i<xs.length:=(List.getElem?_eq_some_iff.1 hp).1;have hn:=hF.rA;obtain⟨hca,Dz⟩:=hF.tD I;exact KR hw hd hr ho hx hy hv h1 hs he Dz hp hf hq λw1 h=>k w1 (h.z7 hca (by rw[hU];exact hn))
theorem zp{x y:Operand}{vs:List Value}(hw:vg o ops a)(hd:o.dst=none)(hr:cX Df n (lk l j) a)(ho:o.op= .store t x y)
 {i:Nat} (hx:eZ (lk l j) x= .pointer (some ⟨dQ ca,i*sz,none⟩)) (hy:eZ (lk l j) y= .agg vs.toArray) (h1:vs.all (·.oneCell')=true) (hs:(P.info? t).map (·.size)=some vs.length)
 (he:tZ enc sz) (hF:Fit w0 (aC (rowOf E sz enc (.slice ca n0 cc) xs::L)) w) {q:α} (hi:i<xs.length) (hq:enc q=vs)
 (k:∀w1,Fit w0 (aC (rowOf E sz enc (.slice ca n0 cc) (xs.set i q)::L)) w1->wpList P ops Q rest a w1):wpList P ops Q (o::rest) a w:=by
 have hn:=hF.rA;obtain⟨hca,Dz⟩:=hF.tD I;exact Jq hw hd hr ho hx hy h1 hs he Dz hi hq λw1 h=>k w1 (h.z7 hca (by rw[hU];exact hn))
theorem tE{x y:Operand}{i:Int}{bytes:Nat}{zc:Array Value}(z0:α)(hw:vg o ops a)(hd:o.dst=some d)(hn:Nat.blt d n=true)(hr:cX Df n (lk l j) a)
 (ho:o.op= .makeSlice t x y) (hx:eZ (lk l j) x= .int .i64 i) (hy:eZ (lk l j) y= .int .i64 i) (hi:0<=i/\i*bytes<=140737488355328) (he:tZ enc sz) (hty:P.underlying t=some (.slice E))
 (rZ:(P.info? E).map (λi=>(i.size,i.bytes,i.zero.map (·.cells)))=some (sz,bytes,some zc)) (hz:zc.toList=enc z0) (Ol:Nat.blt 0 bytes=true) (hF:Fit w0 (aC L) w)
 (k:∀ca w1 a,Fit w0 (aC (rowOf E sz enc (.slice ca (List.replicate i.toNat z0).length i.toNat) (List.replicate i.toNat z0)::L)) w1->cX Df n (lk ((d,.slice ca (List.replicate i.toNat z0).length i.toNat)::l) j) a->wpList P ops Q rest a w1):wpList P ops Q (o::rest) a w:=by
 have hb:i.toNat*bytes<=140737488355328:=by
  have h2:=hi.2;have e:((i.toNat*bytes:Nat):Int)=i*bytes:=by rw[Int.natCast_mul,Int.toNat_of_nonneg hi.1]
  omega
 refine WU (c:=i.toNat) z0 hw hd hn hr ho hx hy (by have:=hi.1;omega) he hty rZ hz hb Ol hF λg w1 a h GK => ?_;have hl:(List.replicate i.toNat z0).length=i.toNat:=n7;refine k (some ⟨g,0,none⟩) w1 a (h.Qd rfl) ?_;rw[hl];exact GK
theorem ML{s x:Operand}{cb:fP}{n1 cd:Nat}{ys:List α}(hw:vg o ops a)(hd:o.dst=some d)(hn:Nat.blt d n=true)(hr:cX Df n (lk l j) a)
 (ho:o.op= .call {callee:=.builtin .copy,args:=#[s,x],argTypes:=#[t,t]}) (hs:eZ (lk l j) s= .slice ca n0 cc) (hx:eZ (lk l j) x= .slice cb n1 cd)
 (he:tZ enc sz) (hty:P.underlying t=some (.slice E)) (hsz:(P.info? E).map (·.size)=some sz) (hlen:ys.length=xs.length)
 (hF:Fit w0 (aC (rowOf E sz enc (.slice ca n0 cc) xs::rowOf E sz enc (.slice cb n1 cd) ys::L)) w)
 (k:∀w1 a,Fit w0 (aC (rowOf E sz enc (.slice ca n0 cc) ys::rowOf E sz enc (.slice cb n1 cd) ys::L)) w1->cX Df n (lk ((d,.int .i64 ((xs.length:Nat):Int))::l) j) a->wpList P ops Q rest a w1):wpList P ops Q (o::rest) a w:=by
 have Jj:=hF.rA;have Om:=(hF.pick 1).rA;rcases hF.rows with ⟨e1,e2,Dz⟩ | ⟨g,cap,e1,_,Dz⟩
 ·simp only[Value.slice.injEq]at e1;obtain⟨rfl,rfl,rfl⟩:=e1;subst e2;obtain rfl:ys=[]:=Gr hlen;subst Om;refine sw (w1:=w) (v:=.int .i64 0) hw hd hn hr ?_ (λa hr=>k w a hF (by simpa using hr));have hcells:(Builtin.firstCells sz 0 (.slice cb 0 cd)).run P w= .ok #[] w:=by
   have:=hF.pick 1;rcases(hF.pick 1).rows with ⟨e3,_,_⟩ | ⟨g',cap',e3,_,_⟩<;>simp only[Value.slice.injEq]at e3<;>rw[e3.1]
   ·have:=run_firstCells_none (P:=P) w sz 0 0 cd;simpa using this
   ·have:=run_firstCells_some (P:=P) w sz 0 ⟨g',0,none⟩ 0 cd [] (by simp) (by intro j u hu;simp at hu);simpa using this
  unfold execOp;cases yo:P.info? E with
  | none=>simp[yo]at hsz
  | some q =>
   simp[yo]at hsz;simp only[ho,resolve,invoke,builtin,n5,uo,n6,Gt,Bs,B3,hs,hx];simp[Builtin.copy_,run_underlying hty,Builtin.lenOf,sizeOf,typeInfo,yo,hsz,hcells,goInt]
 ·simp only[Value.slice.injEq]at e1;obtain⟨rfl,_,rfl⟩:=e1;exact WV hw hd hn hr ho hs hx Jj he hty hsz hlen Dz λw1 a h GK=>k w1 a (h.Qd I) GK
theorem _root_.Go.Proofs.YtpikpffbcjpmcaaGreatDoor.SL.Fit.dn{w0 w:World}(k:Nat){L:List bj}(h:Fit w0 (aC L) w):Fit w0 (aC (L.drop k)) w:=by
 induction k generalizing L with
 | zero=>exact h
 | succ k ih =>
  cases L with
  | nil=>exact h
  | cons P L=>exact ih h.drop
def bJ{α:Type}(L:List bj)(sz:Nat)(enc:α->List Value)(va:fP)(l:List α):Prop:=
 ∀i x,l[i]? = some x->va=some ⟨dQ va,jl va,none⟩/\∀f u,(enc x)[f]? = some u->∀z w,Fit z (aC L) w->w.cell? ⟨dQ va,jl va+i*sz+f,none⟩=some u
theorem bJ.nil{va:fP}:bJ L sz enc va ([]:List α):=λi x h=>by simp at h
theorem bJ.up(k:Nat){L':List bj}{va:fP}{l:List α}(h:bJ (L'.drop k) sz enc va l):bJ L' sz enc va l:=
 λi x hx=>⟨(h i x hx).1,λf u hu z w hw=>(h i x hx).2 f u hu z w (hw.dn k)⟩
theorem bJ.FA{z0:World}{L' L'' L3:List bj}{n cc:Nat}{l:List α}(he:tZ enc sz)(h0:Fit z0 (aC (rowOf E sz enc (.slice ca n cc) l::L'')) w)
 (f:∀{z w},Fit z (aC L') w->Fit z (aC (rowOf E sz enc (.slice ca n cc) l::L3)) w):bJ L' sz enc ca l:=by
 intro i x hx;have hlt:i<l.length:=(List.getElem?_eq_some_iff.1 hx).1;have hca:=(h0.tD I).1;have ho:jl ca=0:=by rw[hca];rfl
 refine⟨by rw[ho];exact hca,λq u hu z w hw => ?_⟩;rw[ho,BX];exact(f hw).cG he hx hu
theorem bJ.take{va:fP}{l:List α}(h:bJ L sz enc va l)(k:Nat):bJ L sz enc va (l.take k):=by
 intro i x hx;refine h i x ?_;rw[List.getElem?_take]at hx;split at hx
 ·exact hx
 ·cases hx
theorem YI{x y:Operand}{k:IntKind}{i:Int}{n0:Nat}{L:List bj}{va:fP}[Inhabited α]{l:List α}(ho:o.op= .indexAddr t x y)(hx:eZ e x= .slice va n0 cc)(hy:eZ e y= .int k i)(Jj:n0=l.length)
 (ht:P.underlying t=some (.slice E)) (hs:(P.info? E).map (·.size)=some sz) (hF:bJ L sz enc va l) (hi:bI i l.length):(execOp (eZ e) o).run P w= .ok (.value (.pointer (some ⟨dQ va,jl va+i.toNat*sz,none⟩))) w:=by
 have h0:=hi.1;have h1:=hi.2;exact rie (hF _ _ (bl hi)).1 ho hx hy ht hs h0 I
theorem bJ.cell{z:World}{L:List bj}{va:fP}[Inhabited α]{l:List α}{i:Int}(hF:bJ L sz enc va l)(hi:bI i l.length)(h:Fit z (aC L) w)(f:Nat){u:Value}(hu:(enc (J l i.toNat))[f]? = some u):w.cell? ⟨dQ va,jl va+i.toNat*sz+f,none⟩=some u:=
 (hF _ _ (bl hi)).2 f u hu z w h
theorem HY:∀(n:Nat) (L:List bj),aC ((List.range n).map (λi=>L.getD i Ok)++L.drop n)=aC L
 | 0,L=>by simp
 | n+1,[]=>by
  have e:∀n,aC ((List.range n).map (λi=>([]:List bj).getD i Ok))=aC []:=by
   intro n
   induction n with
   | zero=>rfl
   | succ n ih =>
    rw[List.range_succ,HH,B9,ih];show sep Ok (sep Ok Ok)=Ok;rw[Ho,Ho]
  simpa using e (n+1)
 | n+1,P::L=>by
  rw[List.range_succ_eq_map,Bs,List.map_map];have ih:=HY n L;show sep P (aC (List.map ((λi=>(P::L).getD i Ok)∘Nat.succ) (List.range n)++L.drop n))=sep P (aC L);rw[<-ih]
  rfl
def ab4(n:Nat)(is:List Nat):Bool:=(is++(List.range n).filter (λi => !is.contains i)).isPerm (List.range n)
theorem _root_.Go.Proofs.YtpikpffbcjpmcaaGreatDoor.SL.Fit.sel{w0 w:World}{L L':List bj}(h:Fit w0 (aC L) w)(n:Nat)(is:List Nat)(hB:ab4 n is=true)(e:is.map (λi=>L.getD i Ok)++L.drop n=L'):Fit w0 (aC L') w:=by
 subst e;have hp:=(List.isPerm_iff.1 hB).map (λi=>L.getD i Ok);have h1:Fit w0 (aC ((List.range n).map (λi=>L.getD i Ok)++L.drop n)) w:=h.eq (HY n L).symm;rw[HH]at hp;have h2:=h1.perm (hp.symm.append_right (L.drop n));have h3:=h2.perm (List.perm_append_comm.append_right (L.drop n));rw[q9]at h3;generalize ((List.range n).filter (λi => !is.contains i)).map (λi=>L.getD i Ok)=X at h3;clear h h1 h2 hp hB
 induction X with
 | nil=>exact h3
 | cons x X ih=>exact ih h3.drop
theorem Cd{f:FuncId}{args:Array Value}(hw:vg o ops a)(hd:o.dst=some d)(hn:Nat.blt d n=true)(hr:cX Df n (lk l j) a)
 (hrun:(execOp (eZ (lk l j)) o).run P w= .ok (.enter f args) w) (hc:Calls P f args w λe w1 =>∃v,e= .returned v/\∀a,cX Df n (lk ((d,v)::l) j) a->wpList P ops Q rest a w1):wpList P ops Q (o::rest) a w:=
 uF hw hd hn hr hrun hc λe w1 h=>h
theorem HZ{fn:Func}{R:Ending->World->Prop}{t1 t2 t3:Nat}{v1 v2 v3:Value}(hres:fn.results=#[.tmp t1,.tmp t2,.tmp t3])(hr:kX n e a)(h1:e t1=v1)(h2:e t2=v2)(h3:e t3=v3)(h:R (.returned (.tuple #[v1,v2,v3])) w):bodyPost P fn R .ret a w:=by
 refine bodyPost_ret ?_ hr.defers h;have g1:=hr.get t1;have g2:=hr.get t2;have g3:=hr.get t3;rw[h1,wI]at g1;rw[h2,wI]at g2;rw[h3,wI]at g3;simp[results,hres,g1,g2,g3]
variable {md:Region.Mode}
def eX(P:Program)(md:Region.Mode)(ops:Array Oper)(Q:Exit->Act->World->Prop)(D:World->Prop)(E:List Nat):Nat->Array Bool->Act->World->Prop
 | 0,aR,a,w=>Region.ready md ops aR=[]/\Q .normal a w
 | fuel+1,aR,a,w=>(Region.ready md ops aR=[]->Q .normal a w)/\
  ∀i∈Region.ready md ops aR,wpOp P ops Q i (λa w=>(i∈E->D w)/\eX P md ops Q D E fuel (aR.setIfInBounds i true) a w) a w
theorem H6{D:World->Prop}{E:List Nat}:∀(fuel:Nat) (aR:Array Bool) (a:Act) (w:World),eX P md ops Q D E fuel aR a w->wpAny P md ops Q fuel aR a w
 | 0,_,_,_,h=>h
 | f+1,aR,a,w,h=>⟨h.1,λi hi=>wpOp_mono (λa w k=>H6 f _ a w k.2) (h.2 i hi)⟩
def DC(md:Region.Mode)(ops:Array Oper)(E:List Nat)(aR:Array Bool)(i:Nat):Bool:=
 (List.range ops.size).all λk=>k==i||aR.getD k true || !MK md ops aR i ops.size k||E.contains k||match ops[k]? with | some ok=>Fz ok | none=>true
theorem RL{D D':World->Prop}{E E':List Nat}{k:Nat}{oi ok:Oper}(hk:ops[k]? = some ok)(hap:oi.apart ops ok=true)(Wq:yq Q)
 (hsi:∀cs b,oi.op≠.select cs b) (hsk:∀cs b,ok.op≠.select cs b) (Tp:∀k∈E',k∈E/\∀w,D w->D' w) (hDk:∀w w',qy w w'->D' w->D' w') (MM:(∀w,D' w)∨Fz ok=true∨k∈E') (hD:D' w) {K:Act->World->Prop}
 (hy:YD P ops D' oi v a) (h:wpOp P ops Q k (λa w=>(k∈E->D w)/\K a w) (a.put oi.dst v) w):wpOp P ops Q k (λa w=>(k∈E->D w)/\D' w/\YD P ops D' oi v a/\K (a.put oi.dst v) w) a w:=by
 obtain⟨h1,h2,h3⟩:=Oper.apart_spec hap;have keep:∀(a:Act),YD P ops D' oi v a->∀u,YD P ops D' oi v (a.put ok.dst u):=λa hy u=>hy.of_same (execOp_put oi hsi a ok.dst u h3) (wanted_put oi a ok.dst u h3);unfold wpOp at *;simp only[hk]at *;rw[wanted_put ok a oi.dst v h1]at h;by_cases hw:Region.wanted ok (yielded ops a.tmps)=true
 ·rw[aP hw]at h⊢;rcases h with h | h
  ·left
   unfold Oper.wp at *;rw[execOp_put ok hsk a oi.dst v h1]at h;have hkeep:=λ(hb:Fz ok=true) x w' hr=>MH (P:=P) hb a.eval w w' x hr;generalize (execOp a.eval ok).run P w=r at *;cases r with
   | ok x w' =>
    have hD':(k∈E->D w')->D' w':=by
     intro hE;rcases MM with z8 | hb | hb
     ·exact z8 w'
     ·exact hDk w w' (hkeep hb x w' rfl).2 hD
     ·exact(Tp k hb).2 _ (hE (Tp k hb).1)
    cases x<;>simp only[Oper.upon]at h⊢
    case value u=>exact⟨h.1,hD' h.1,keep a hy u,by rw[<-Act.put_comm a v u h2];exact h.2⟩
    case skip=>exact⟨h.1,hD' h.1,keep a hy _,by rw[<-Act.put_comm a v undef h2];exact h.2⟩
    case defer df =>
     refine⟨h.1,hD' h.1,?_,?_⟩
     ·have:YD P ops D' oi v ({a with defers:=df::a.defers}:Act):=hy;exact keep _ this _
     ·have e:=Act.put_comm ({a with defers:=df::a.defers}:Act) v undef h2;rw[<-e];have e2:({(a.put oi.dst v)with defers:=df::(a.put oi.dst v).defers}:Act)=({a with defers:=df::a.defers}:Act).put oi.dst v:=by cases oi.dst<;>rfl
      rw[<-e2];exact h.2
    case enter f args =>
     have hpr:∀w'',(k∈E->D w'')->D' w'':=by
      intro w'' hE;rcases MM with z8 | hb | hb
      ·exact z8 w''
      ·obtain⟨⟨u,hu⟩,_⟩:=hkeep hb _ _ rfl;cases hu
      ·exact(Tp k hb).2 _ (hE (Tp k hb).1)
     refine h.mono λe w'' he => ?_;cases e with
     | returned u=>exact⟨he.1,hpr _ he.1,keep a hy u,by rw[<-Act.put_comm a v u h2];exact he.2⟩
     | panicked ch=>exact Wq ch a w'' _ _ he
     | outgrown=>exact he
    case row rw' args =>
     have hpr:∀w'',(k∈E->D w'')->D' w'':=by
      intro w'' hE;rcases MM with z8 | hb | hb
      ·exact z8 w''
      ·obtain⟨⟨u,hu⟩,_⟩:=hkeep hb _ _ rfl;cases hu
      ·exact(Tp k hb).2 _ (hE (Tp k hb).1)
     refine h.mono λu w'' he => ?_;exact⟨he.1,hpr _ he.1,keep a hy u,by rw[<-Act.put_comm a v u h2];exact he.2⟩
   | halt x w' =>
    cases x<;>simp only[Oper.upon]at h⊢;exact Wq _ a w' _ _ h
  ·right
   refine⟨?_,h.2⟩;have:=h.1;unfold Oper.asks at *;rw[execOp_put ok hsk a oi.dst v h1]at this;exact this
 ·rw[cu hw]at h⊢;exact⟨h.1,hD,keep a hy _,by rw[<-Act.put_comm a v undef h2];exact h.2⟩
theorem vo{D D':World->Prop}{E E':List Nat}{i:Nat}{oi:Oper}(hi:ops[i]? = some oi)(Wq:yq Q)(hsel:∀(k:Nat) (o:Oper) cs b,ops[k]? = some o->o.op≠.select cs b)(hiD:i∈E->∀w,D' w->D w)(Tp:∀k∈E',k∈E/\∀w,D w->D' w)(hDk:∀w w',qy w w'->D' w->D' w')
 (tO:Array Bool) (MM:(∀w,D' w)∨DC md ops E' tO i=true) :
 ∀(fuel:Nat) (aR:Array Bool) (a:Act) (w:World),
   (∀k ok,ops[k]? = some ok->k≠i->aR.getD k true=false->(∀e∈ok.after,Region.binds md e=true->e.on≠i)->oi.apart ops ok=true)->
   (∀k,aR.getD k true=false->tO.getD k true=false)->
   (∀k,aR.getD k false=true->tO.getD k false=true∨∀f,MK md ops tO i f k=true)->
   i∈Region.ready md ops aR->D' w->YD P ops D' oi v a->
   eX P md ops Q D E fuel (aR.setIfInBounds i true) (a.put oi.dst v) w->eX P md ops Q D E (fuel+1) aR a w:=by
 intro fuel;have hcan:∀(aR:Array Bool),(∀k,aR.getD k false=true->tO.getD k false=true∨∀f,MK md ops tO i f k=true)->∀k ok,ops[k]? = some ok->k≠i->(∀e∈ok.after,Region.binds md e=true->aR.getD e.on false=true)->∀f,MK md ops tO i f k=true:=by
  intro aR hl k ok hk Ma z8 f;cases f with
  | zero=>rfl
  | succ f =>
   simp only[MK,hk,mR,bne_iff_ne,ne_eq,Ma,not_false_eq_true,true_and];rw[Array.all_eq_true_iff_forall_mem];intro e he;by_cases hb:Region.binds md e=true
   ·rcases hl _ (z8 e he hb)with h | h
    ·simp[h]
    ·simp[h f]
   ·simp[hb]
 have hp:∀(aR:Array Bool),(∀k,aR.getD k true=false->tO.getD k true=false)->(∀k,aR.getD k false=true->tO.getD k false=true∨∀f,MK md ops tO i f k=true)->∀k ok,ops[k]? = some ok->k≠i->aR.getD k true=false->(∀e∈ok.after,Region.binds md e=true->aR.getD e.on false=true)->(∀w,D' w)∨Fz ok=true∨k∈E':=by
  intro aR hl0 hl k ok hk Ma hun z8;rcases MM with h | h
  ·exact .inl h
  ·right
   have hc:=hcan aR hl k ok hk Ma z8 ops.size;have h1:=List.all_eq_true.1 h k (List.mem_range.2 (Array.getElem?_eq_some_iff.1 hk).1);simp only[hk,B4,zT,Ma,false_or,hl0 k hun,Kc,hc,Bool.not_true,List.contains_iff_mem]at h1;exact h1.symm
 induction fuel with
 | zero =>
  intro aR a w _ _ _ hr hD hy H;refine⟨λh=>(by rw[h]at hr;cases hr),λk hk => ?_⟩;by_cases Ma:k=i
  ·subst Ma;exact hy.wpOp hi hD ⟨λh=>hiD h _ hD,H⟩
  ·have:=ready_mono hk Ma;rw[H.1]at this;cases this
 | succ fuel ih =>
  intro aR a w hfree hl0 hl hr hD hy H;refine⟨λh=>(by rw[h]at hr;cases hr),λk hk => ?_⟩;by_cases Ma:k=i
  ·subst Ma;exact hy.wpOp hi hD ⟨λh=>hiD h _ hD,H⟩
  ·have h1:=H.2 k (ready_mono hk Ma);obtain⟨WZ,ok,hok,z8⟩:=mem_ready.1 hk;have hnot:∀e∈ok.after,Region.binds md e=true->e.on≠i:=λe he hb heq=>by
    have h1:=z8 e he hb;have h0:=(mem_ready.1 hr).1;rw[heq]at h1;rcases Dv i aR.size with h' | h'
    ·simp[h']at h0 h1;rw[h0]at h1;cases h1
    ·simp[Array.getElem?_eq_none h']at h1
   have h2:=RL (D:=D) (E:=E) (E':=E') hok (hfree k ok hok Ma WZ hnot) Wq (λcs b=>hsel i oi cs b hi) (λcs b=>hsel k ok cs b hok) Tp hDk (hp aR hl0 hl k ok hok Ma WZ z8) hD hy h1;have ZN:∀m om,ops[m]? = some om->m≠i->(aR.setIfInBounds k true).getD m true=false->
    (∀e∈om.after,Region.binds md e=true->e.on≠i)->oi.apart ops om=true:=λm om hm hmi hun hno=>by
    refine hfree m om hm hmi ?_ hno;by_cases hkm:k=m
    ·subst hkm;exact WZ
    ·rw[getD_set_ne true hkm]at hun;exact hun
   have aes:∀m,(aR.setIfInBounds k true).getD m true=false->tO.getD m true=false:=λm hm=>by
    by_cases hkm:k=m
    ·subst hkm;exact hl0 k WZ
    ·rw[getD_set_ne true hkm]at hm;exact hl0 m hm
   have hl':∀m,(aR.setIfInBounds k true).getD m false=true->tO.getD m false=true∨∀f,MK md ops tO i f m=true:=λm hm=>by
    by_cases hkm:k=m
    ·subst hkm;exact .inr (hcan aR hl k ok hok Ma z8)
    ·rw[getD_set_ne false hkm]at hm;exact hl m hm
   refine wpOp_mono (λa' w' h3=>⟨h3.1,ih (aR.setIfInBounds k true) a' w' ZN aes hl' (ready_mono hr (Ne.symm Ma)) h3.2.1 h3.2.2.1 ?_⟩) h2;rw[Array.setIfInBounds_comm _ _ Ma];exact h3.2.2.2
theorem ab5{id:Nat}{lo:List Oper}{H:bj}(D:World->Prop)(E:List Nat)(hF:Fit w0 H w)(hm:P.follows .mixedOrders=true)(k:∀w,Fit w0 H w->eX P .any lo.toArray Q D E lo.toArray.size (Array.replicate lo.toArray.size false) a w) :
 (Code.region id lo.toArray true).wp P Q a w:=WW hF hm λw h=>H6 _ _ _ _ (k w h)
theorem e_val{D:World->Prop}{E:List Nat}{fuel i:Nat}{aR:Array Bool}(Wq:yq Q)(hi:ops[i]? = some o)(RM:Region.noSelect ops=true)(hrd:(Region.ready .any ops aR).contains i=true)(hfr:Region.free .any ops aR i=true)
 (hiE:E.contains i=false) (hw:vg o ops a) (hd:o.dst=some d) (hn:Nat.blt d n=true) (hr:cX Df n (lk l j) a) (hrun:∀w,(execOp (eZ (lk l j)) o).run P w= .ok (.value v) w)
 (k:∀a,cX Df n (lk ((d,v)::l) j) a->eX P .any ops Q D E fuel (aR.setIfInBounds i true) a w):eX P .any ops Q D E (fuel+1) aR a w:=by
 refine vo (D:=D) (D':=λ_=>True) (E:=E) (E':=[]) (v:=v) hi Wq (Mr RM) (λh=>absurd h (by simpa using hiE)) (λ_ h=>nomatch h) (λ_ _ _ _=>trivial) aR (.inl λ_=>trivial) fuel aR a w (Region.free_spec hi hfr) (λ_ h=>h) (λ_ h=>.inl h) (by simpa using hrd) trivial ?_ ?_
 ·exact .inl ⟨hw,λw _=>by rw[hr.eval];exact hrun w⟩
 ·rw[hd];exact k _ (hr.put d v hn)
theorem e_off{D:World->Prop}{E:List Nat}{fuel i:Nat}{aR:Array Bool}(Wq:yq Q)(hi:ops[i]? = some o)(RM:Region.noSelect ops=true)(hrd:(Region.ready .any ops aR).contains i=true)(hfr:Region.free .any ops aR i=true)
 (hiE:E.contains i=false) (hw:Region.wanted o (yielded ops a.tmps)=false) (hd:o.dst=some d) (hn:Nat.blt d n=true) (hr:cX Df n (lk l j) a)
 (k:∀a,cX Df n (lk ((d,undef)::l) j) a->eX P .any ops Q D E fuel (aR.setIfInBounds i true) a w):eX P .any ops Q D E (fuel+1) aR a w:=by
 refine vo (D:=D) (D':=λ_=>True) (E:=E) (E':=[]) (v:=undef) hi Wq (Mr RM) (λh=>absurd h (by simpa using hiE)) (λ_ h=>nomatch h) (λ_ _ _ _=>trivial) aR (.inl λ_=>trivial) fuel aR a w (Region.free_spec hi hfr) (λ_ h=>h) (λ_ h=>.inl h) (by simpa using hrd) trivial ?_ ?_
 ·exact .inr ⟨hw,rfl⟩
 ·rw[hd];exact k _ (hr.put d undef hn)
theorem H7:∀(cs:List Value) (b off:Nat) (w w':World),qy w w'->rB w b off cs->rB w' b off cs
 | [],_,_,_,_,_,_=>trivial
 | _::cs,b,off,w,w',hg,h=>⟨hg _ _ h.1,H7 cs b (off+1) w w' hg h.2⟩
theorem ZO{D:World->Prop}{E:List Nat}(E':List Nat){fuel i:Nat}{aR:Array Bool}{b off:Nat}{cs:List Value}(Wq:yq Q)(Tp:∀k∈E',k∈E/\∀w,D w->rB w b off cs)(hi:ops[i]? = some o)(RM:Region.noSelect ops=true)(hrd:(Region.ready .any ops aR).contains i=true)(hfr:Region.free .any ops aR i=true)
 (hpr:DC .any ops E' aR i=true) (hiE:E.contains i=false) (hw:vg o ops a) (hd:o.dst=some d) (hn:Nat.blt d n=true) (hr:cX Df n (lk l j) a)
 (hc:rB w b off cs) (hrun:∀w,rB w b off cs->(execOp (eZ (lk l j)) o).run P w= .ok (.value v) w)
 (k:∀a,cX Df n (lk ((d,v)::l) j) a->eX P .any ops Q D E fuel (aR.setIfInBounds i true) a w):eX P .any ops Q D E (fuel+1) aR a w:=by
 refine vo (D:=D) (D':=λw=>rB w b off cs) (E:=E) (E':=E') (v:=v) hi Wq (Mr RM) (λh=>absurd h (by simpa using hiE)) Tp (λw w'=>H7 cs b off w w') aR (.inr hpr) fuel aR a w (Region.free_spec hi hfr) (λ_ h=>h) (λ_ h=>.inl h) (by simpa using hrd) hc ?_ ?_
 ·exact .inl ⟨hw,λw h=>by rw[hr.eval];exact hrun w h⟩
 ·rw[hd];exact k _ (hr.put d v hn)
theorem nG{D:World->Prop}{E:List Nat}{fuel:Nat}{aR:Array Bool}(r:List Nat)(hrd:Region.ready .any ops aR=r)(hne:r.isEmpty=false)
 (k:KT (λi =>∃o,ops[i]? = some o/\wpList P ops (Exit.then (λa w=>(i∈E->D w)/\eX P .any ops Q D E fuel (aR.setIfInBounds i true) a w) Q) [o] a w) r):eX P .any ops Q D E (fuel+1) aR a w:=by
 refine⟨(λh=>by rw[hrd]at h;rw[h]at hne;cases hne),λk' hk' => ?_⟩;rw[hrd]at hk';obtain⟨o,hi,k⟩:=KT.mem k k' hk';unfold wpOp;simp only[hi];unfold wpList at k;have hlo:LetsOut (Exit.then (λa w=>(k'∈E->D w)/\eX P .any ops Q D E fuel (aR.setIfInBounds k' true) a w) Q)->LetsOut Q:=λ⟨a,w,h⟩=>⟨a,w,h⟩;have hmo:∀{x:Act} {y:World} {K:Act->World->Prop},o.wp P x y K (Exit.then (λa w=>(k'∈E->D w)/\eX P .any ops Q D E fuel (aR.setIfInBounds k' true) a w) Q)->o.wp P x y K Q:=by
  intro x y K h;unfold Oper.wp at *;generalize (execOp x.eval o).run P y=r at *;cases r with
  | ok z w' =>
   cases z<;>simp only[Oper.upon]at h⊢<;> first
    | exact h
    | (refine h.mono λe w'' he => ?_
       cases e with
       | returned u=>exact he
       | panicked ch=>exact he
       | outgrown=>exact hlo he)
  | halt z w'=>cases z<;>simp only[Oper.upon]at h⊢<;> exact h
 split
 ·rename_i hw;rw[aP hw]at k;rcases k with k | k
  ·exact .inl (Oper.wp_mono (λ_ _ h=>h) (hmo k))
  ·exact .inr ⟨k.1,hlo k.2⟩
 ·rename_i hw;rw[cu hw]at k;exact k
theorem ab6{D:World->Prop}{E:List Nat}{fuel i:Nat}{aR:Array Bool}(hrd:Region.ready .any ops aR=[i])(hi:ops[i]? = some o)
 (k:wpList P ops (Exit.then (λa w=>(i∈E->D w)/\eX P .any ops Q D E fuel (aR.setIfInBounds i true) a w) Q) [o] a w):eX P .any ops Q D E (fuel+1) aR a w:=
 nG [i] hrd rfl (dc ⟨o,hi,k⟩ iU)
theorem ab7{D:World->Prop}{E:List Nat}{fuel:Nat}{aR:Array Bool}(hrd:Region.ready .any ops aR=[])(k:Q .normal a w):eX P .any ops Q D E fuel aR a w:=by
 cases fuel with
 | zero=>exact⟨hrd,k⟩
 | succ f=>exact⟨λ_=>k,λi hi=>by rw[hrd]at hi;cases hi⟩
theorem sx{c:Code}(ag3:Act->World->Prop)(h:c.wp P (Exit.then ag3 Q) a w)(k:∀a w,ag3 a w->Q .normal a w):c.wp P Q a w:=
 Code.wp_mono (λe a w q=>by
  cases e with
  | normal=>exact k a w q
  | _=>exact q) h
class PI (Q:Exit->Act->World->Prop):Prop where
 pi:yq Q
instance aeo {fn:Func} {R:Ending->World->Prop}:PI (bodyPost P fn R):=⟨MI⟩
instance aep {K:Act->World->Prop} [h:PI Q]:PI (Exit.then K Q):=⟨MJ h.pi⟩
instance ab8 {i:Nat} [h:PI Q]:PI (Exit.inBlock i Q):=⟨KS h.pi⟩
def okB(ops:Array Oper)(E:List Nat)(aR:Array Bool)(i:Nat):Bool:=Region.noSelect ops&&(Region.ready .any ops aR).contains i&&Region.free .any ops aR i && !E.contains i
theorem TV{E:List Nat}{aR:Array Bool}{i:Nat}(h:okB ops E aR i=true):Region.noSelect ops=true/\(Region.ready .any ops aR).contains i=true/\Region.free .any ops aR i=true/\E.contains i=false:=by
 unfold okB at h;simp only[mR,Bool.not_eq_true']at h;exact⟨h.1.1.1,h.1.1.2,h.1.2,h.2⟩
theorem ev{D:World->Prop}{E:List Nat}{aR:Array Bool}[hp:PI Q](fuel i:Nat)(hi:ops[i]? = some o)(hB:okB ops E aR i=true)(hw:vg o ops a)(hr:cX Df n (lk l j) a)(v:Value)
 (hrun:∀w,(execOp (eZ (lk l j)) o).run P w= .ok (.value v) w) (k:∀a,cX Df n (lk ((d,v)::l) j) a->eX P .any ops Q D E fuel (aR.setIfInBounds i true) a w) (hd:o.dst=some d:=by rfl) (hn:Nat.blt d n=true:=by rfl) :
 eX P .any ops Q D E (fuel+1) aR a w:=
 have hb:=TV hB
 e_val hp.pi hi hb.1 hb.2.1 hb.2.2.1 hb.2.2.2 hw hd hn hr hrun k
theorem eo{D:World->Prop}{E:List Nat}{aR:Array Bool}[hp:PI Q](fuel i:Nat)(hi:ops[i]? = some o)(hB:okB ops E aR i=true)(hw:Region.wanted o (yielded ops a.tmps)=false)(hr:cX Df n (lk l j) a)
 (k:∀a,cX Df n (lk ((d,undef)::l) j) a->eX P .any ops Q D E fuel (aR.setIfInBounds i true) a w) (hd:o.dst=some d:=by rfl) (hn:Nat.blt d n=true:=by rfl) :
 eX P .any ops Q D E (fuel+1) aR a w:=
 have hb:=TV hB
 e_off hp.pi hi hb.1 hb.2.1 hb.2.2.1 hb.2.2.2 hw hd hn hr k
def okP(ops:Array Oper)(E:List Nat)(aR:Array Bool)(i:Nat):Bool:=Region.noSelect ops&&(Region.ready .any ops aR).contains i&&Region.free .any ops aR i&&DC .any ops E aR i
theorem YJ{E:List Nat}{aR:Array Bool}{i:Nat}(h:okP ops E aR i=true):Region.noSelect ops=true/\(Region.ready .any ops aR).contains i=true/\Region.free .any ops aR i=true/\DC .any ops E aR i=true:=by
 unfold okP at h;simp only[mR]at h;exact⟨h.1.1.1,h.1.1.2,h.1.2,h.2⟩
theorem evD{D:World->Prop}{E:List Nat}{aR:Array Bool}[hp:PI Q](hgo:∀w w',qy w w'->D w->D w')(hDw:D w)(fuel i:Nat)(hi:ops[i]? = some o)(hB:okP ops E aR i=true)(hw:vg o ops a)(hr:cX Df n (lk l j) a)(v:Value)
 (hrun:∀w,(execOp (eZ (lk l j)) o).run P w= .ok (.value v) w) (k:∀a,cX Df n (lk ((d,v)::l) j) a->eX P .any ops Q D E fuel (aR.setIfInBounds i true) a w) (hd:o.dst=some d:=by rfl) (hn:Nat.blt d n=true:=by rfl) :
 eX P .any ops Q D E (fuel+1) aR a w:=by
 have hb:=YJ hB;refine vo (D:=D) (D':=D) (E:=E) (E':=E) (v:=v) hi hp.pi (Mr hb.1) (λ_ _ h=>h) (λk hk=>⟨hk,λ_ h=>h⟩) hgo aR (.inr hb.2.2.2) fuel aR a w (Region.free_spec hi hb.2.2.1) (λ_ h=>h) (λ_ h=>.inl h) (by simpa using hb.2.1) hDw ?_ ?_
 ·exact .inl ⟨hw,λw _=>by rw[hr.eval];exact hrun w⟩
 ·rw[hd];exact k _ (hr.put d v hn)
theorem eoD{D:World->Prop}{E:List Nat}{aR:Array Bool}[hp:PI Q](hgo:∀w w',qy w w'->D w->D w')(hDw:D w)(fuel i:Nat)(hi:ops[i]? = some o)(hB:okP ops E aR i=true)(hw:Region.wanted o (yielded ops a.tmps)=false)(hr:cX Df n (lk l j) a)
 (k:∀a,cX Df n (lk ((d,undef)::l) j) a->eX P .any ops Q D E fuel (aR.setIfInBounds i true) a w) (hd:o.dst=some d:=by rfl) (hn:Nat.blt d n=true:=by rfl) :
 eX P .any ops Q D E (fuel+1) aR a w:=by
 have hb:=YJ hB;refine vo (D:=D) (D':=D) (E:=E) (E':=E) (v:=undef) hi hp.pi (Mr hb.1) (λ_ _ h=>h) (λk hk=>⟨hk,λ_ h=>h⟩) hgo aR (.inr hb.2.2.2) fuel aR a w (Region.free_spec hi hb.2.2.1) (λ_ h=>h) (λ_ h=>.inl h) (by simpa using hb.2.1) hDw ?_ ?_
 ·exact .inr ⟨hw,rfl⟩
 ·rw[hd];exact k _ (hr.put d undef hn)
theorem el{D:World->Prop}{E:List Nat}{aR:Array Bool}(E':List Nat){b off:Nat}{cs:List Value}[hp:PI Q](Tp:∀k∈E',k∈E/\∀w,D w->rB w b off cs)(fuel i:Nat)(hi:ops[i]? = some o)(hB:(okB ops E aR i&&DC .any ops E' aR i)=true)(hw:vg o ops a)(hr:cX Df n (lk l j) a)(v:Value)
 (hc:rB w b off cs) (hrun:∀w,rB w b off cs->(execOp (eZ (lk l j)) o).run P w= .ok (.value v) w)
 (k:∀a,cX Df n (lk ((d,v)::l) j) a->eX P .any ops Q D E fuel (aR.setIfInBounds i true) a w) (hd:o.dst=some d:=by rfl) (hn:Nat.blt d n=true:=by rfl) :
 eX P .any ops Q D E (fuel+1) aR a w:=by
 rw[mR]at hB;have hb:=TV hB.1;exact ZO E' hp.pi Tp hi hb.1 hb.2.1 hb.2.2.1 hB.2 hb.2.2.2 hw hd hn hr hc hrun k
theorem ov(hr:cX Df n (lk l j) a)(v:Value)(hrun:(execOp (eZ (lk l j)) o).run P w= .ok (.value v) w)(k:∀a,cX Df n (lk ((d,v)::l) j) a->wpList P ops Q rest a w)
 (hg:o.guard=none:=by rfl) (hd:o.dst=some d:=by rfl) (hn:Nat.blt d n=true:=by rfl):wpList P ops Q (o::rest) a w:=AE (wn hg) hd hn hr hrun k
def MN(P:Program):List Oper->List Value->List (Nat×Value)->(Nat->Value)->World->List (Option Nat×Option (Nat×Bool)×Result Next)
 | o::os,v::vs,l,j,w=>(o.dst,o.guard,(execOp (eZ (lk l j)) o).run P w)::MN P os vs ((o.dst.getD 0,v)::l) j w
 | _,_,_,_,_=>[]
def MO:List Nat->List Value->World->List (Option Nat×Option (Nat×Bool)×Result Next)
 | d::ds,v::vs,w=>(some d,none,.ok (.value v) w)::MO ds vs w
 | _,_,_=>[]
def TW:List Nat->List Value->List (Nat×Value)->List (Nat×Value)
 | d::ds,v::vs,l=>TW ds vs ((d,v)::l)
 | _,_,l=>l
theorem ovs:∀(ds:List Nat) (vs:List Value) {os:List Oper} {a:Act} {l:List (Nat×Value)} (hr:cX Df n (lk l j) a) (hl:ds.length=vs.length/\ds.all (λd=>Nat.blt d n)=true) (hrun:MN P (os.take ds.length) vs l j w=MO ds vs w)
 (k:∀a,cX Df n (lk (TW ds vs l) j) a->wpList P ops Q (os.drop ds.length) a w),wpList P ops Q os a w
 | [],[],os,a,l,hr,_,_,k=>k a hr
 | d::ds,v::vs,[],a,l,hr,hl,hrun,k=>by simp[MN,MO]at hrun
 | d::ds,v::vs,o::os,a,l,hr,hl,hrun,k=>by
  simp only[BG,qb,MN,MO,List.cons.injEq,Prod.mk.injEq]at hrun;obtain⟨⟨h1,h2,h3⟩,h4⟩:=hrun;obtain⟨Gy,Fy⟩:=hl;simp only[List.all_cons,mR]at Fy;refine AE (wn h2) h1 Fy.1 hr h3 λa hr => ?_;rw[h1]at h4;exact ovs ds vs hr ⟨by simpa using Gy,Fy.2⟩ h4 k
theorem _root_.Go.Proofs.YtpikpffbcjpmcaaGreatDoor.GX.cX.ab9{e:Nat->Value}(h:cX Df n e a)(l:List (Nat×Value))(hl:l.map (λp=>e p.1)=l.map (·.2)) :∃j,cX Df n (lk l j) a:=by
 refine h.fold l ?_
 induction l with
 | nil=>trivial
 | cons p l ih=>simp only[Bs,List.cons.injEq]at hl;exact⟨hl.1,ih hl.2⟩
theorem gQ{c:Operand}{x y:Code}{e:Nat->Value}(hr:cX Df n e a){b:Bool}(hb:b=true)(h:x.wp P Q a w)(hc:eZ e c= .bool b:=by kernel_rfl):(Code.cond c x y).wp P Q a w:=HR hr hc hb h
theorem jy{c:Operand}{x y:Code}{e:Nat->Value}(hr:cX Df n e a){b:Bool}(hb:b=false)(h:y.wp P Q a w)(hc:eZ e c= .bool b:=by kernel_rfl):(Code.cond c x y).wp P Q a w:=HS hr hc hb h
end
end GX
end
section
namespace SL
open Go Go.RowKit
structure nJ(sz:Nat) where
 cs:List Value
 len:cs.length=sz
 one:∀u∈cs,u.oneCell'=true
theorem Hr{sz:Nat}(h:0<sz):tZ (nJ.cs (sz:=sz)) sz:=⟨λx=>x.len,λx=>x.one,h⟩
def tP{α:Type}(e:TypeId)(sz:Nat)(own:α->List Value->bj)(v:Value)(l:List α):bj:=
 exs λcss:List (nJ sz)=>aC (RD (css.length=l.length)::rowOf e sz nJ.cs v css::List.zipWith (λx c=>own x c.cs) l css)
def Ce{α:Type}(e:TypeId)(sz:Nat)(own:α->List Value->bj)(v:Value)(l:List α)(i:Nat)(cs:List Value):bj:=
 exs λcss:List (nJ sz)=>aC (RD (css.length=l.length/\(css[i]?).map nJ.cs=some cs)::rowOf e sz nJ.cs v css::(List.zipWith (λx c=>own x c.cs) l css).eraseIdx i)
section
variable {w0 w:World}{L:List bj}{α:Type}{e:TypeId}{sz n cc i:Nat}{own:α->List Value->bj}{v:Value}{l:List α}{ca:fP}{cs:List Value}{x y:α}
theorem Fit.CO(h:Fit w0 (aC (tP e sz own v l::L)) w) :∃css:List (nJ sz),css.length=l.length/\Fit w0 (aC (rowOf e sz nJ.cs v css::(List.zipWith (λx c=>own x c.cs) l css++L))) w:=by
 obtain⟨css,h⟩:=h.n8;have h:=h.tM;obtain⟨hl,h⟩:=h.zU;exact⟨css,hl,h⟩
theorem Fit.CP{css:List (nJ sz)}(hl:css.length=l.length)(h:Fit w0 (aC (rowOf e sz nJ.cs v css::(List.zipWith (λx c=>own x c.cs) l css++L))) w):Fit w0 (aC (tP e sz own v l::L)) w:=by
 refine Fit.jZ css ?_;refine Fit.sY (RD (css.length=l.length)::rowOf e sz nJ.cs v css::List.zipWith (λx c=>own x c.cs) l css) L ?_;exact h.ym hl
theorem Fit.CQ(h:Fit w0 (aC (Ce e sz own v l i cs::L)) w) :∃css:List (nJ sz),css.length=l.length/\(css[i]?).map nJ.cs=some cs/\Fit w0 (aC (rowOf e sz nJ.cs v css::((List.zipWith (λx c=>own x c.cs) l css).eraseIdx i++L))) w:=by
 obtain⟨css,h⟩:=h.n8;have h:=h.tM;obtain⟨hl,h⟩:=h.zU;exact⟨css,hl.1,hl.2,h⟩
theorem Fit.Qi{css:List (nJ sz)}(hl:css.length=l.length)(hi:(css[i]?).map nJ.cs=some cs)(h:Fit w0 (aC (rowOf e sz nJ.cs v css::((List.zipWith (λx c=>own x c.cs) l css).eraseIdx i++L))) w):Fit w0 (aC (Ce e sz own v l i cs::L)) w:=by
 refine Fit.jZ css ?_;refine Fit.sY (RD (css.length=l.length/\(css[i]?).map nJ.cs=some cs)::rowOf e sz nJ.cs v css::(List.zipWith (λx c=>own x c.cs) l css).eraseIdx i) L ?_;exact h.ym ⟨hl,hi⟩
theorem Fit.EA(h:Fit w0 (aC L) w):Fit w0 (aC (tP e sz own (.slice none 0 0) ([]:List α)::L)) w:=
 Fit.CP (css:=[]) rfl (Fit.fM h)
theorem Fit.OD(h:Fit w0 (aC (tP e sz own (.slice ca n cc) l::L)) w):n=l.length:=by
 obtain⟨css,hl,h⟩:=h.CO;rw[<-hl];exact h.rA
theorem Fit.ZP(h:Fit w0 (aC (Ce e sz own (.slice ca n cc) l i cs::L)) w):n=l.length:=by
 obtain⟨css,hl,_,h⟩:=h.CQ;rw[<-hl];exact h.rA
theorem Fit.nq(h:Fit w0 (aC (tP e sz own v l::L)) w)(hi:l[i]? = some x) :∃cs,Fit w0 (aC (Ce e sz own v l i cs::own x cs::L)) w:=by
 obtain⟨css,hl,h⟩:=h.CO;have GJ:i<css.length:=by rw[hl];exact(List.getElem?_eq_some_iff.1 hi).1
 have hc:css[i]? = some css[i]:=List.getElem?_eq_getElem GJ;refine⟨css[i].cs,Fit.Qi hl (by rw[hc];rfl) ?_⟩;have hz:(List.zipWith (λx c=>own x c.cs) l css)[i]? = some (own x css[i].cs):=by
  rw[List.getElem?_zipWith,hi,hc]
 have h2:Fit w0 (aC (List.zipWith (λx c=>own x c.cs) l css++(rowOf e sz nJ.cs v css::L))) w:=h.perm (by
  refine(yl (l₁:=List.zipWith (λx c=>own x c.cs) l css) (a:=rowOf e sz nJ.cs v css) (l₂:=L)).symm)
 have h3:=Fit.sY _ _ h2;have h4:Fit w0 (aC (aC (own x css[i].cs::(List.zipWith (λx c=>own x c.cs) l css).eraseIdx i)::rowOf e sz nJ.cs v css::L)) w:=by
  refine h3.head λq hq => ?_;have:=Fw i (List.zipWith (λx c=>own x c.cs) l css);unfold SL.pick at this;rw[hz]at this;show aC _ q;rw[this];exact hq
 have h5:=h4.tM;refine h5.perm ?_;simp only[uq];refine((yl (l₁:=(List.zipWith (λx c=>own x c.cs) l css).eraseIdx i) (a:=rowOf e sz nJ.cs v css) (l₂:=L)).cons _).trans ?_;refine(List.Perm.swap _ _ _).trans (List.Perm.cons _ ?_);exact(yl (l₁:=(List.zipWith (λx c=>own x c.cs) l css).eraseIdx i) (a:=own x css[i].cs) (l₂:=L)).symm
theorem Fit.TX(hi:i<l.length)(h:Fit w0 (aC (Ce e sz own v l i cs::own y cs::L)) w):Fit w0 (aC (tP e sz own v (l.set i y)::L)) w:=by
 obtain⟨css,hl,hc,h⟩:=h.CQ;have GJ:i<css.length:=by rw[hl];exact hi
 have Ki:css[i]? = some css[i]:=List.getElem?_eq_getElem GJ;rw[Ki]at hc;simp only[vR,Option.some.injEq]at hc;refine Fit.CP (css:=css) (by rw[hU];exact hl) ?_;have hz:(List.zipWith (λx c=>own x c.cs) (l.set i y) css)[i]? = some (own y cs):=by
  rw[List.getElem?_zipWith,List.getElem?_set_self hi,Ki,<-hc]
 have he:(List.zipWith (λx c=>own x c.cs) (l.set i y) css).eraseIdx i=(List.zipWith (λx c=>own x c.cs) l css).eraseIdx i:=by
  have h1:List.zipWith (λx c=>own x c.cs) (l.set i y) css=(List.zipWith (λx c=>own x c.cs) l css).set i (own y css[i].cs):=by
   apply zS
   intro k;rw[List.getElem?_zipWith];by_cases hk:i=k
   ·subst hk;rw[List.getElem?_set_self hi,Ki,List.getElem?_set_self (by rw[List.length_zipWith];omega)]
   ·rw[List.getElem?_set_ne hk,List.getElem?_set_ne hk,List.getElem?_zipWith]
  rw[h1]
  apply zS
  intro k;rw[List.getElem?_eraseIdx,List.getElem?_eraseIdx];split
  ·rw[List.getElem?_set_ne I]
  ·rw[List.getElem?_set_ne I]
 have h2:Fit w0 (aC ((own y cs::(List.zipWith (λx c=>own x c.cs) (l.set i y) css).eraseIdx i)++(rowOf e sz nJ.cs v css::L))) w:=by
  rw[he];refine h.perm ?_;simp only[uq];refine(List.Perm.cons _ (yl (l₁:=(List.zipWith (λx c=>own x c.cs) l css).eraseIdx i) (a:=own y cs) (l₂:=L))).trans ?_;refine(List.Perm.swap _ _ _).trans (List.Perm.cons _ ?_);exact(yl (l₁:=(List.zipWith (λx c=>own x c.cs) l css).eraseIdx i) (a:=rowOf e sz nJ.cs v css) (l₂:=L)).symm
 have h3:=Fit.sY _ _ h2;have h4:Fit w0 (aC (aC (List.zipWith (λx c=>own x c.cs) (l.set i y) css)::rowOf e sz nJ.cs v css::L)) w:=by
  refine h3.head λq hq => ?_;have:=Fw i (List.zipWith (λx c=>own x c.cs) (l.set i y) css);unfold SL.pick at this;rw[hz]at this;rw[<-this];exact hq
 exact h4.tM.perm (yl (l₁:=List.zipWith (λx c=>own x c.cs) (l.set i y) css) (a:=rowOf e sz nJ.cs v css) (l₂:=L))
theorem Fit.qt(h:Fit w0 (aC (Ce e sz own (.slice ca n cc) l i cs::L)) w)(hp:0<sz){f:Nat}{u:Value}(hf:cs[f]? = some u):w.cell? ⟨GX.dQ ca,i*sz+f,none⟩=some u:=by
 obtain⟨css,hl,hc,h⟩:=h.CQ;cases Ki:css[i]? with
 | none=>rw[Ki]at hc;simp at hc
 | some c =>
  rw[Ki]at hc;simp only[vR,Option.some.injEq]at hc;exact h.cG (Hr hp) Ki (by rw[hc];exact hf)
theorem Fit.Qj(h:Fit w0 (aC (Ce e sz own v l i cs::L)) w):i<l.length:=by
 obtain⟨css,hl,hc,_⟩:=h.CQ;cases Ki:css[i]? with
 | none=>rw[Ki]at hc;simp at hc
 | some c=>have:=(List.getElem?_eq_some_iff.1 Ki).1;omega
theorem Fit.z9(h:Fit w0 (aC (Ce e sz own v l i cs::own y cs::L)) w):Fit w0 (aC (tP e sz own v (l.set i y)::L)) w:=h.TX h.Qj
theorem Fit.iK[Inhabited α](h:Fit w0 (aC (Ce e sz own v l i cs::own (GX.J l i) cs::L)) w):Fit w0 (aC (tP e sz own v l::L)) w:=by
 have hi:=h.Qj;have h:=h.z9;have e1:l.set i (GX.J l i)=l:=by
  apply zS
  intro k;by_cases hk:i=k
  ·subst hk;rw[List.getElem?_set_self hi,GX.get_at hi]
  ·rw[List.getElem?_set_ne hk]
 rw[e1]at h;exact h
theorem Fit.Kj(h:Fit w0 (aC (tP e sz own (.slice ca n cc) l::L)) w)(hl:0<l.length):ca=some ⟨GX.dQ ca,0,none⟩:=by
 obtain⟨css,hl',h⟩:=h.CO;exact(h.tD I).1
theorem Fit.RN(h:Fit w0 (aC (Ce e sz own (.slice ca n cc) l i cs::L)) w):ca=some ⟨GX.dQ ca,0,none⟩:=by
 obtain⟨css,hl',hc,h⟩:=h.CQ;have:0<css.length:=by
  cases Ki:css[i]? with
  | none=>rw[Ki]at hc;simp at hc
  | some c=>have:=(List.getElem?_eq_some_iff.1 Ki).1;omega
 exact(h.tD this).1
theorem Fit.CR{enc:α->List Value}{b:Nat}{cs:Array Value}{T:TypeId}(hl:l.length=n)(hc:cs.toList=l.flatMap enc)(he:tZ enc sz)(hm:n<=maxLen)(h:Fit w0 (aC (pts b (.cells cs T)::L)) w) :
 Fit w0 (aC (rowOf T sz enc (.slice (some ⟨b,0,none⟩) n n) l::L)) w:=by
 subst hl;refine h.head λz hz=>.inr ⟨b,l.length,cs,rfl,jU _,hm,?_,?_,hz⟩
 ·rw[<-vl,hc,he.flat]
 ·rw[hc];exact Gp (by rw[he.flat];exact jU _)
end
end SL
namespace GX
open Go Go.RowKit SL
section
variable {P:Program}{ops:Array Oper}{Q:Exit->Act->World->Prop}{a:Act}{w w0 w1:World}{rest:List Oper}{o:Oper}{n d t:Nat}{v:Value}{l:List (Nat×Value)}{j e:Nat->Value}{L:List bj}{H:bj}{Df:List Deferred}
variable {α:Type}{E:TypeId}{sz n0 cc:Nat}{enc:α->List Value}{xs:List α}{ca:fP}{own:α->List Value->bj}
theorem Hs{w':World}{x y:Operand}{k:IntKind}{i:Int}(ho:o.op= .indexAddr t x y)(hx:eZ e x= .slice ca n cc)(hy:eZ e y= .int k i)
 (ht:P.underlying t=some (.slice E)) (hs:(P.info? E).map (·.size)=some sz) (hF:Fit w0 (aC (tP E sz own (.slice ca n cc) xs::L)) w) (hi:bI i xs.length):(execOp (eZ e) o).run P w'= .ok (.value (.pointer (some ⟨dQ ca,i.toNat*sz,none⟩))) w':=by
 have hn:=hF.OD;have h0:=hi.1;have h1:=hi.2;exact ZE (hF.Kj I) ho hx hy ht hs h0 I
theorem xN{w':World}{x y:Operand}{k:IntKind}{i:Int}{i0:Nat}{cs:List Value}(ho:o.op= .indexAddr t x y)(hx:eZ e x= .slice ca n cc)(hy:eZ e y= .int k i)
 (ht:P.underlying t=some (.slice E)) (hs:(P.info? E).map (·.size)=some sz) (hF:Fit w0 (aC (Ce E sz own (.slice ca n cc) xs i0 cs::L)) w) (hi:bI i xs.length):(execOp (eZ e) o).run P w'= .ok (.value (.pointer (some ⟨dQ ca,i.toNat*sz,none⟩))) w':=by
 have hn:=hF.ZP;have h0:=hi.1;have h1:=hi.2;exact ZE hF.RN ho hx hy ht hs h0 I
theorem OE{x y:Operand}{k:IntKind}{i:Int}{b N:Nat}{w':World}(ho:o.op= .indexAddr t x y)(hx:eZ e x= .pointer (some ⟨b,0,none⟩))(hy:eZ e y= .int k i)
 (ht:P.underlying t=some (.array N E)) (hs:(P.info? E).map (·.size)=some sz) (hN:xs.length=N) (hi:bI i xs.length):(execOp (eZ e) o).run P w'= .ok (.value (.pointer (some ⟨dQ (some ⟨b,0,none⟩),i.toNat*sz,none⟩))) w':=by
 unfold execOp;have h0:=hi.1;have h1:=hi.2;simp only[ho,hx,hy];subst hN;cases hq:P.info? E with
 | none=>simp[hq]at hs
 | some q =>
  simp[hq]at hs;simp[Instr.indexAt,Instr.sureAddr,run_underlying ht,asIntOf,h0,h1,sizeOf,typeInfo,hq,hs,wH,dQ]
theorem DD{x y:Operand}{i f:Nat}{cs:List Value}(hw:vg o ops a)(hd:o.dst=none)(hr:cX Df n (lk l j) a)(ho:o.op= .store t x y)
 (hx:eZ (lk l j) x= .pointer (some ⟨dQ ca,i*sz+f,none⟩)) (hy:eZ (lk l j) y=v) (hv:v.cells=#[v]) (h1:v.oneCell'=true) (hs:(P.info? t).map (·.size)=some 1) (hp:Nat.blt 0 sz=true)
 (hF:Fit w0 (aC (Ce E sz own (.slice ca n0 cc) xs i cs::L)) w) (hf:f<sz)
 (k:∀w1,Fit w0 (aC (Ce E sz own (.slice ca n0 cc) xs i (cs.set f v)::L)) w1->wpList P ops Q rest a w1):wpList P ops Q (o::rest) a w:=by
 obtain⟨css,hl,hc,h⟩:=hF.CQ;have hp':0<sz:=qa hp;cases Ki:css[i]? with
 | none=>rw[Ki]at hc;simp at hc
 | some c =>
  rw[Ki]at hc;simp only[vR,Option.some.injEq]at hc;have hlt:i<css.length:=(List.getElem?_eq_some_iff.1 Ki).1
  let q:nJ sz:=⟨c.cs.set f v,by rw[hU];exact c.len,λu hu=>by
   rcases List.mem_or_eq_of_mem_set hu with h | h
   ·exact c.one u h
   ·subst h;exact h1⟩
  refine qz hw hd hr ho hx hy hv h1 hs (Hr hp') h (p:=c) (q:=q) Ki hf rfl λw1 h=>k w1 ?_;refine Fit.Qi (css:=css.set i q) (by rw[hU];exact hl) (by rw[List.getElem?_set_self hlt,<-hc];rfl) ?_;have he:(List.zipWith (λx c=>own x c.cs) xs (css.set i q)).eraseIdx i=(List.zipWith (λx c=>own x c.cs) xs css).eraseIdx i:=by
   apply zS
   intro k;rw[List.getElem?_eraseIdx,List.getElem?_eraseIdx];split
   ·rw[List.getElem?_zipWith,List.getElem?_zipWith,List.getElem?_set_ne I]
   ·rw[List.getElem?_zipWith,List.getElem?_zipWith,List.getElem?_set_ne I]
  rw[he];exact h
theorem Cf{bytes:Nat}{s x:Operand}{ad:Addr}{c:Nat}{y:α}{cs:List Value}(hw:vg o ops a)(hd:o.dst=some d)(hn:Nat.blt d n=true)(hr:cX Df n (lk l j) a)
 (ho:o.op= .call {callee:=.builtin .append,args:=#[s,x],argTypes:=#[t,t]}) (hs:eZ (lk l j) s= .slice ca n0 cc) (hx:eZ (lk l j) x= .slice (some ad) 1 c)
 (hty:P.underlying t=some (.slice E)) (rZ:(P.info? E).map (λi=>(i.size,i.bytes,i.zero.map (·.cells.size)))=some (sz,bytes,some sz))
 (hsz:cs.length=sz) (hone:cs.all (·.oneCell')=true) (hp:Nat.blt 0 sz=true)
 (hF:Fit w0 (aC (tP E sz own (.slice ca n0 cc) xs::own y cs::L)) w) (hnews:∀j u,cs[j]? = some u->w.cell? (ad.add j)=some u)
 (hb:(xs.length+1)*bytes<=140737488355328) (Ol:Nat.blt 0 bytes=true)
 (k:∀ca cc w1 a,Fit w0 (aC (tP E sz own (.slice ca (xs++[y]).length cc) (xs++[y])::L)) w1->cX Df n (lk ((d,.slice ca (xs++[y]).length cc)::l) j) a->wpList P ops Q rest a w1):wpList P ops Q (o::rest) a w:=by
 obtain⟨css,hl,h⟩:=hF.CO;have hp':0<sz:=qa hp
 let c0:nJ sz:=⟨cs,hsz,by simpa using hone⟩
 have hlen:(css++[c0]).length=(xs++[y]).length:=by rw[j6,j6,hl];rfl
 refine j8 (m:=1) (c:=c) (bytes:=bytes) hw hd hn hr ho hs hx (Hr hp') (E:=E) (xs:=css) hty rZ h (news:=[c0]) rfl (by simpa using hnews) (by rw[hl];exact hb) Ol λca cc w1 a h GK => ?_;rw[hlen]at h GK;refine k ca cc w1 a (Fit.CP (css:=css++[c0]) hlen ?_) GK;rw[List.zipWith_append (by rw[hl])];simp only[List.zipWith_cons_cons,List.zipWith_nil_right,q9,uq,AD];exact h
theorem AJ{bytes:Nat}{s x:Operand}{va:fP}{m0 c:Nat}(hw:vg o ops a)(hd:o.dst=some d)(hn:Nat.blt d n=true)(hr:cX Df n (lk l j) a)
 (ho:o.op= .call {callee:=.builtin .append,args:=#[s,x],argTypes:=#[t,t]}) (hs:eZ (lk l j) s= .slice ca n0 cc) {news:List α} (hx:eZ (lk l j) x= .slice va news.length c)
 (he:tZ enc sz) (hty:P.underlying t=some (.slice E)) (rZ:(P.info? E).map (λi=>(i.size,i.bytes,i.zero.map (·.cells.size)))=some (sz,bytes,some sz))
 (hF:Fit w0 (aC (rowOf E sz enc (.slice ca n0 cc) xs::L)) w) (hnews:bJ L sz enc va news)
 (hb:(xs.length+news.length)*bytes<=140737488355328) (Ol:Nat.blt 0 bytes=true)
 (k:∀ca cc w1 a,Fit w0 (aC (rowOf E sz enc (.slice ca (xs++news).length cc) (xs++news)::L)) w1->cX Df n (lk ((d,.slice ca (xs++news).length cc)::l) j) a->wpList P ops Q rest a w1):wpList P ops Q (o::rest) a w:=by
 by_cases h0:news.length=0
 ·have Jj:news=[]:=Gr h0;subst Jj;have YK:=hF.rA;simp only[Bt]at k;obtain⟨q,z,hq,h1,h2,h3,h4⟩ :∃i z,P.info? E=some i/\i.size=sz/\i.bytes=bytes/\i.zero=some z/\z.cells.size=sz:=by
   cases hi:P.info? E with
   | none=>simp[hi]at rZ
   | some i =>
    simp only[hi,vR,Option.some.injEq,Prod.mk.injEq]at rZ;cases hz:i.zero with
    | none=>simp[hz]at rZ
    | some z=>exact⟨i,z,rfl,rZ.1,rZ.2.1,hz,by simpa [hz]using rZ.2.2⟩
  obtain⟨a',c',e1,_,Tq⟩:=hF.Hq;simp only[Value.slice.injEq]at e1;obtain⟨rfl,_,rfl⟩:=e1;refine sw (w1:=w) (v:=.slice ca xs.length cc) hw hd hn hr ?_ (λa hr=>k ca cc w a (YK▸ hF) hr);unfold execOp;have hle:n0<=cc:=by omega
  simp only[ho,resolve,invoke,builtin,n5,uo,n6,Gt,Bs,B3,hs,hx];subst YK;cases ca with
  | none=>cases va<;>simp[Builtin.append_,run_underlying hty,sizeOf,typeInfo,hq,Builtin.lenOf,Builtin.firstCells,loadCells,loadCellsFrom,Tq]
  | some ac=>cases va<;>simp[Builtin.append_,run_underlying hty,sizeOf,typeInfo,hq,Builtin.lenOf,Builtin.firstCells,loadCells,loadCellsFrom,Tq,storeCells]
 ·obtain⟨y,hy⟩ :∃y,news[0]? = some y:=⟨_,List.getElem?_eq_getElem I⟩;have hva:=(hnews 0 y hy).1;rw[hva]at hx;refine j8 (m:=news.length) (c:=c) (bytes:=bytes) hw hd hn hr ho hs hx he hty rZ hF (news:=news) rfl (λi u hu => ?_) hb Ol k;have hlt:=(List.getElem?_eq_some_iff.1 hu).1;rw[he.flat]at hlt;have hp:=he.pos;have hdiv:i/sz<news.length:=(Nat.div_lt_iff_lt_mul hp).2 hlt;have hm:i%sz<sz:=Du _ hp;have hyi:news[i/sz]? = some (news[i/sz]'hdiv):=List.getElem?_eq_getElem hdiv;have hg:=he.get news (i/sz) (i%sz) _ hyi hm;rw[show i/sz*sz+i%sz=i by rw[Nat.mul_comm];exact Gu i sz,hu]at hg;have:=(hnews _ _ hyi).2 (i%sz) u hg.symm w0 w hF.drop;rw[wH];rw[show jl va+i=jl va+i/sz*sz+i%sz by rw[Nat.add_assoc,Nat.mul_comm,Gu]];exact this
end
end GX
end
section
namespace Ar
open Go Go.RowKit SL GX
structure Acc where
 who:Int
 kind:Int
 addr:Int
 a:Int
 b:Int
 ok:Bool
deriving Inhabited,DecidableEq
def jm(x:Int):List Value:=[.int .i64 x]
def H8(x:Acc):List Value:=[.int .i64 x.who,.int .i64 x.kind,.int .i64 x.addr,.int .i64 x.a,.int .i64 x.b,.bool x.ok]
structure Fm where
 size:Int
 cells:List Int
 log:List Acc
 ua:Int
 on:Bool
def aet(on:Bool)(log:List Acc)(x:Acc):List Acc:=if on=true then log++[x]else log
def Fm.note(S:Fm)(k i x y:Int)(ok:Bool):Fm:={S with log:=aet S.on S.log ⟨S.ua,k,i,x,y,ok⟩}
def W0(mk ad:Int):Bool:=decide (ad>=0)&&decide (ad<mk)
def Fm.load(S:Fm)(i:Int):(Int×Int)×Fm:=
 if W0 S.cells.length i=true then((J S.cells i.toNat,0),S.note 0 i (J S.cells i.toNat) 0 true)else((0,20),S)
def Fm.store(S:Fm)(i v:Int):Int×Fm:=
 if W0 S.cells.length i=true then(0,{S with cells:=S.cells.set i.toNat v}.note 1 i v 0 true)else(20,S)
def Fm.cas(S:Fm)(i x y:Int):(Bool×Int)×Fm:=
 if W0 S.cells.length i=true then
  if J S.cells i.toNat=x then((true,0),{S with cells:=S.cells.set i.toNat y}.note 2 i x y true)
  else ((false,0),S.note 2 i x y false)
 else ((false,20),S)
def Fm.add(S:Fm)(i d:Int):(Int×Int)×Fm:=
 if W0 S.cells.length i=true then
  ((IntKind.i64.wrap (J S.cells i.toNat+d),0),{S with cells:=S.cells.set i.toNat (IntKind.i64.wrap (J S.cells i.toNat+d))}.note 3 i d (IntKind.i64.wrap (J S.cells i.toNat+d)) true)
 else ((0,20),S)
def Fm.reserve(S:Fm)(n:Int):(Int×Int)×Fm:=
 if n<1 then((0,21),S)
 else if n>S.size-S.cells.length then((0,22),S)
 else ((((S.cells.length:Nat):Int),0),{S with cells:=S.cells++List.replicate n.toNat 0}.note 4 S.cells.length n 0 true)
def Fm.done(S:Fm)(k i x y:Int):(Int×Bool×Int)×Fm:=
 if k=0 then(((S.load i).1.1,(S.load i).1.2==0,(S.load i).1.2),(S.load i).2)
 else if k=1 then((0,(S.store i x).1==0,(S.store i x).1),(S.store i x).2)
 else if k=2 then((0,(S.cas i x y).1.1,(S.cas i x y).1.2),(S.cas i x y).2)
 else if k=3 then(((S.add i x).1.1,(S.add i x).1.2==0,(S.add i x).1.2),(S.add i x).2)
 else (((S.reserve x).1.1,(S.reserve x).1.2==0,(S.reserve x).1.2),(S.reserve x).2)
def Fm.new(n:Int):Fm:={size:=n,cells:=[],log:=[],ua:=0,on:=false}
def Qk(S:Fm)(ca:fP)(cc:Nat)(la:fP)(lc:Nat):Obj:=
 .cells #[.int .i64 S.size,.int .i64 ((S.cells.length:Nat):Int),.slice ca S.cells.length cc,.slice la S.log.length lc,.int .i64 S.ua,.bool S.on] 92
def DU(A:Nat)(S:Fm):bj:=exs λca=>exs λcc=>exs λla=>exs λlc =>
 aC [pts A (Qk S ca cc la lc),rowOf 2 1 jm (.slice ca S.cells.length cc) S.cells,rowOf 159 6 H8 (.slice la S.log.length lc) S.log]
section
variable {z w:World}{L:List bj}{A:Nat}{S:Fm}
theorem DU.op(h:Fit z (aC (DU A S::L)) w) :∃ca cc la lc,Fit z (aC (pts A (Qk S ca cc la lc)::rowOf 2 1 jm (.slice ca S.cells.length cc) S.cells::rowOf 159 6 H8 (.slice la S.log.length lc) S.log::L)) w:=by
 obtain⟨ca,h⟩:=h.n8;obtain⟨cc,h⟩:=h.n8;obtain⟨la,h⟩:=h.n8;obtain⟨lc,h⟩:=h.n8;exact⟨ca,cc,la,lc,h.tM⟩
theorem DU.sh{n m:Nat}{q:Int}{ca cc la lc}(h:Fit z (aC (pts A (.cells #[.int .i64 S.size,.int .i64 q,.slice ca n cc,.slice la m lc,.int .i64 S.ua,.bool S.on] 92)::rowOf 2 1 jm (.slice ca n cc) S.cells::rowOf 159 6 H8 (.slice la m lc) S.log::L)) w)
 (hq:q=((n:Nat):Int)) (hn:n=S.cells.length) (hm:m=S.log.length):Fit z (aC (DU A S::L)) w:=by
 subst hq;subst hn;subst hm;exact Fit.jZ ca (Fit.jZ cc (Fit.jZ la (Fit.jZ lc (Fit.sY [_,_,_] L h))))
theorem DU.mk{n:Int}(h:Fit z (aC (pts A (.cells #[.int .i64 n,.int .i64 0,.slice none 0 0,.slice none 0 0,.int .i64 0,.bool false] 92)::L)) w):Fit z (aC (DU A (Fm.new n)::L)) w:=by
 have h1:Fit z (aC (rowOf 159 6 H8 (.slice none 0 0) ([]:List Acc)::pts A _::L)) w:=h.fM;have h2:Fit z (aC (rowOf 2 1 jm (.slice none 0 0) ([]:List Int)::rowOf 159 6 H8 (.slice none 0 0) ([]:List Acc)::pts A _::L)) w:=h1.fM;exact DU.sh (S:=Fm.new n) (h2.pick 2) rfl rfl rfl
end
end Ar
end
section
namespace RK
open Go Go.RowKit Go.ChangeShapes Go.WideShapes Go.Deep SL GX Ar
section
variable {H:Type}{enc:TypeId×Value->H}{P:Program}{w ag1:World}{base:Nat}{spare:Nat->Bool}{held:Bool}{r:Reach}{b0:Nat}{t e:TypeId}{v:Value}{d:DataW H}{ps:List MemPlace}
theorem DE(hl:laidOutB P=true){W':World}(hb:Below ag1.heap.size ag1 W'):∀{ts:List TypeId} {vs:List Value} {ds:List (DataW H)} {ps:List MemPlace},
 ts.all (λt=>P.readableRec t&&decide (t<P.types.size))=true->DataW.TrodAll enc P ag1 0 (λ_=>true) true ts vs ds ps->DataW.TrodAll enc P W' 0 (λb=>decide (b<ag1.heap.size)) true ts vs ds ps
 | [],[],[],_,_,h=>h
 | t::ts,v::vs,d::ds,_,hts,⟨p,q,h1,h2,e⟩=>by
  simp only[List.all_cons,mR,B5]at hts;refine⟨p,q,Below.trod hl hts.1.1 hts.1.2 h1 hb ?_,DE hl hb hts.2 h2,e⟩;obtain⟨n,hn⟩:=h1;exact DataW.trod_lt n _ _ _ hn
theorem wf_i64{x:Int}(h:(Lit.int .i64 x).wf=true):-9223372036854775808<=x/\x<=9223372036854775807:=by
 simp only[Lit.wf,mR,B5]at h;exact⟨h.1,h.2⟩
end
open Go Go.RowKit Go.ChangeShapes Go.WideShapes Go.Deep SL GX
theorem MP{H:Type}(d:DataW H):1<=Rows.uptoBulk d:=by
 cases d with
 | lit l=>cases l<;>simp[Rows.uptoBulk]
 | nil=>simp[Rows.uptoBulk]
 | ptr d=>simp[Rows.uptoBulk]
 | slice elems spare=>simp[Rows.uptoBulk]
 | agg parts=>simp[Rows.uptoBulk]
 | iface t d=>simp[Rows.uptoBulk]
 | map entries=>simp[Rows.uptoBulk]
 | held h=>simp[Rows.uptoBulk]
theorem Kk{H:Type}{d:DataW H}{l:List (DataW H)}(h:d∈l):Rows.uptoBulk d<=Rows.uptoBulkAll l:=by
 induction l with
 | nil=>cases h
 | cons x r ih =>
  simp only[Rows.uptoBulkAll];cases List.mem_cons.1 h with
  | inl e=>subst e;omega
  | inr e=>have:=ih e;omega
theorem TY{H:Type}(l:List (DataW H)):l.length<=Rows.uptoBulkAll l:=by
 induction l with
 | nil=>simp
 | cons x r ih=>have:=MP x;simp only[Rows.uptoBulkAll,BG];omega
def H9(x:Int):Prop:=-9223372036854775808<=x/\x<=9223372036854775807
end RK
end
section
namespace GX
open Go Go.RowKit SL
abbrev Z(x:Int):Value:=.int .i64 x
abbrev vB(x:Bool):Value:=.bool x
abbrev pN:Value:=.pointer none
abbrev pA(b off:Nat):Value:=.pointer (some ⟨b,off,none⟩)
section
variable {P:Program}{ops:Array Oper}{Q:Exit->Act->World->Prop}{a:Act}{w w0 w1:World}{rest:List Oper}{o:Oper}{n d t T:Nat}{v u:Value}{l:List (Nat×Value)}{j e:Nat->Value}{L:List bj}{Df:List Deferred}
theorem mB{i:Nat}{b x c r:Bool}(hr:cX Df n e a)(pf:x=c)(hg:o.guard=some (i,b):=by rfl)(hi:(ops[i]?).bind (·.dst)=some t:=by rfl)(ht:Nat.blt t n=true:=by rfl)(he:e t= .bool x:=by kernel_rfl)(hc:(c==b)=r:=by rfl) :
 Region.wanted o (yielded ops a.tmps)=r:=by
 subst pf hc;exact wg hr hg hi ht he
theorem aeu(hw:Region.wanted o (yielded ops a.tmps)=false)(hr:cX Df n (lk l j) a)(k:∀a,cX Df n (lk ((d,undef)::l) j) a->wpList P ops Q rest a w)(hd:o.dst=some d:=by rfl)(hn:Nat.blt d n=true:=by rfl):wpList P ops Q (o::rest) a w:=OA hw hd hn hr k
theorem KW(hw:vg o ops a)(hr:cX Df n (lk l j) a)(v:Value)(hrun:(execOp (eZ (lk l j)) o).run P w= .ok (.value v) w)(k:∀a,cX Df n (lk ((d,v)::l) j) a->wpList P ops Q rest a w)(hd:o.dst=some d:=by rfl)(hn:Nat.blt d n=true:=by rfl):wpList P ops Q (o::rest) a w:=AE hw hd hn hr hrun k
theorem ld{x:Operand}{ad:Addr}(hw:vg o ops a)(hr:cX Df n (lk l j) a)(v:Value)(hc:w.cell? ad=some v)(k:∀a,cX Df n (lk ((d,v)::l) j) a->wpList P ops Q rest a w)
 (hd:o.dst=some d:=by rfl) (hn:Nat.blt d n=true:=by rfl) (ho:o.op= .load T x:=by rfl) (hx:eZ (lk l j) x= .pointer (some ad):=by kernel_rfl) (hu:yn (P.underlying T)=true:=by kernel_rfl):wpList P ops Q (o::rest) a w:=AE hw hd hn hr (rl ho hx hu hc) k
theorem ldm{x:Operand}{b off:Nat}{cs:List Value}(hw:vg o ops a)(hr:cX Df n (lk l j) a)(v:Value)(hc:rB w b off cs)(k:∀a,cX Df n (lk ((d,v)::l) j) a->wpList P ops Q rest a w)(hv: .agg cs.toArray=v:=by rfl)
 (hd:o.dst=some d:=by rfl) (hn:Nat.blt d n=true:=by rfl) (ho:o.op= .load T x:=by rfl) (hx:eZ (lk l j) x= .pointer (some ⟨b,off,none⟩):=by kernel_rfl) (hu:uN (P.underlying T)=true:=by kernel_rfl) (hs:(P.info? T).map (·.size)=some cs.length:=by kernel_rfl):wpList P ops Q (o::rest) a w:=by
 subst hv;exact AE hw hd hn hr (rlm ho hx hu hs hc) k
theorem _root_.Go.Proofs.YtpikpffbcjpmcaaGreatDoor.SL.Fit.held{z:World}{b:Nat}{cs:Array Value}{t:TypeId}{q:Nat×Nat}(h:Fit z (aC (pts b (.cells cs t q)::L)) w)(off:Nat){xs:List Value}(hx:(cs.toList.drop off).take xs.length=xs):rB w b off xs:=by
 have hg:∀k u,xs[k]? = some u->w.cell? ⟨b,off+k,none⟩=some u:=by
  intro k u hk;refine h.cell (off+k) ?_;rw[<-hx,List.getElem?_take]at hk;split at hk
  ·rw[List.getElem?_drop]at hk;simpa using hk
  ·cases hk
 clear hx
 induction xs generalizing off with
 | nil=>trivial
 | cons x xs ih =>
  refine⟨hg 0 x rfl,ih (off+1) λk u hk => ?_⟩;have:=hg (k+1) u (by simpa using hk);rw[show off+1+k=off+(k+1) by omega];exact this
theorem sr{TZ:Nat}{y:Code}{os:List Oper}(h:wpList P os.toArray (Exit.then (y.wp P Q) Q) os a w):(Code.seq (.region TZ os.toArray false) y).wp P Q a w:=wp_seq (wp_region_lit h)
theorem evs{D:World->Prop}{E:List Nat}{aR:Array Bool}[hp:PI Q](fuel i:Nat)(hi:ops[i]? = some o)(hw:vg o ops a)(hr:cX Df n (lk l j) a)(v:Value)
 (k:∀a,cX Df n (lk ((d,v)::l) j) a->eX P .any ops Q D E fuel (aR.setIfInBounds i true) a w) (hB:okB ops E aR i=true:=by kernel_rfl)
 (hrun:∀w,(execOp (eZ (lk l j)) o).run P w= .ok (.value v) w:=by intro w;kernel_rfl) (hd:o.dst=some d:=by rfl) (hn:Nat.blt d n=true:=by rfl) :
 eX P .any ops Q D E (fuel+1) aR a w:=ev fuel i hi hB hw hr v hrun k hd hn
theorem YL{D:World->Prop}{E:List Nat}{aR:Array Bool}[hp:PI Q](fuel i:Nat)(hi:ops[i]? = some o)(hw:Region.wanted o (yielded ops a.tmps)=false)(hr:cX Df n (lk l j) a)
 (k:∀a,cX Df n (lk ((d,undef)::l) j) a->eX P .any ops Q D E fuel (aR.setIfInBounds i true) a w) (hB:okB ops E aR i=true:=by kernel_rfl) (hd:o.dst=some d:=by rfl) (hn:Nat.blt d n=true:=by rfl) :
 eX P .any ops Q D E (fuel+1) aR a w:=eo fuel i hi hB hw hr k hd hn
abbrev nb(b:Nat):Value:=pA b 0
theorem o1(hr:cX Df n (lk l j) a)(v:Value)(k:∀a,cX Df n (lk ((d,v)::l) j) a->wpList P ops Q rest a w)(hrun:(execOp (eZ (lk l j)) o).run P w= .ok (.value v) w:=by kernel_rfl)(hg:o.guard=none:=by rfl)(hd:o.dst=some d:=by rfl)(hn:Nat.blt d n=true:=by rfl):wpList P ops Q (o::rest) a w:=ov hr v hrun k hg hd hn
theorem oo(ds:List Nat)(vs:List Value){os:List Oper}(hr:cX Df n (lk l j) a)(k:∀a,cX Df n (lk (TW ds vs l) j) a->wpList P ops Q (os.drop ds.length) a w)(hl:ds.length=vs.length/\ds.all (λd=>Nat.blt d n)=true:=by exact⟨rfl,rfl⟩)(hrun:MN P (os.take ds.length) vs l j w=MO ds vs w:=by kernel_rfl):wpList P ops Q os a w:=ovs ds vs hr hl hrun k
theorem cl{f:FuncId}{args:Array Value}{R:Ending->World->Prop}(hw:vg o ops a)(hr:cX Df n (lk l j) a)(hc:Calls P f args w R)
 (k:∀e w1,R e w1->∃v,e= .returned v/\∀a,cX Df n (lk ((d,v)::l) j) a->wpList P ops Q rest a w1) (hrun:(execOp (eZ (lk l j)) o).run P w= .ok (.enter f args) w:=by kernel_rfl) (hd:o.dst=some d:=by rfl) (hn:Nat.blt d n=true:=by rfl):wpList P ops Q (o::rest) a w:=uF hw hd hn hr hrun hc k
theorem ZQ(hw:vg o ops a)(hr:cX Df n (lk l j) a)(hF:Fit w0 (aC L) w)(vf:Nat->Value)(cs:Array Value)(T:TypeId)
 (k:∀b w1 a,Fit w0 (aC (pts b (.cells cs T)::L)) w1->cX Df n (lk ((d,vf b)::l) j) a->wpList P ops Q rest a w1) (hrun:(execOp (eZ (lk l j)) o).run P w= .ok (.value (vf w.heap.size)) (w.alloc (.cells cs T)):=by kernel_rfl) (hd:o.dst=some d:=by rfl) (hn:Nat.blt d n=true:=by rfl):wpList P ops Q (o::rest) a w:=OB hw hd hn hr hF hrun k
theorem KX{α:Type}{E:TypeId}{sz n0 cc:Nat}{enc:α->List Value}{xs:List α}{ca:fP}{x y:Operand}(hw:vg o ops a)(hr:cX Df n (lk l j) a)(he:tZ enc sz)(hF:Fit w0 (aC (rowOf E sz enc (.slice ca n0 cc) xs::L)) w)(i f:Nat)(v:Value)(p q:α)(hp:xs[i]? = some p)
 (k:∀w1,Fit w0 (aC (rowOf E sz enc (.slice ca n0 cc) (xs.set i q)::L)) w1->wpList P ops Q rest a w1) (hd:o.dst=none:=by rfl) (ho:o.op= .store T x y:=by rfl) (hx:eZ (lk l j) x= .pointer (some ⟨dQ ca,i*sz+f,none⟩):=by kernel_rfl) (hy:eZ (lk l j) y=v:=by kernel_rfl)
 (hv:v.cells=#[v]:=by rfl) (h1:v.oneCell'=true:=by rfl) (hs:(P.info? T).map (·.size)=some 1:=by kernel_rfl) (hf:f<sz:=by decide) (hq:enc q=(enc p).set f v:=by rfl):wpList P ops Q (o::rest) a w:=qz hw hd hr ho hx hy hv h1 hs he hF hp hf hq k
theorem ln{K:Act->World->Prop}(h:K a w):wpList P ops (Exit.then K Q) [] a w:=wpList_nil (MB h)
end
end GX
end
section
namespace SL
open Go Go.RowKit
section
variable {z w:World}{L L':List bj}
theorem Fit.m1{A0 A1:bj}(h:Fit z (aC (A0::A1::L)) w):Fit z (aC (A1::A0::L)) w:=h.pick 1
theorem Fit.m2{A0 A1 A2:bj}(h:Fit z (aC (A0::A1::A2::L)) w):Fit z (aC (A2::A0::A1::L)) w:=h.pick 2
theorem Fit.m3{A0 A1 A2 A3:bj}(h:Fit z (aC (A0::A1::A2::A3::L)) w):Fit z (aC (A3::A0::A1::A2::L)) w:=h.pick 3
theorem Fit.m4{A0 A1 A2 A3 A4:bj}(h:Fit z (aC (A0::A1::A2::A3::A4::L)) w):Fit z (aC (A4::A0::A1::A2::A3::L)) w:=h.pick 4
theorem Fit.m5{A0 A1 A2 A3 A4 A5:bj}(h:Fit z (aC (A0::A1::A2::A3::A4::A5::L)) w):Fit z (aC (A5::A0::A1::A2::A3::A4::L)) w:=h.pick 5
theorem Fit.m6{A0 A1 A2 A3 A4 A5 A6:bj}(h:Fit z (aC (A0::A1::A2::A3::A4::A5::A6::L)) w):Fit z (aC (A6::A0::A1::A2::A3::A4::A5::L)) w:=h.pick 6
theorem Fit.m7{A0 A1 A2 A3 A4 A5 A6 A7:bj}(h:Fit z (aC (A0::A1::A2::A3::A4::A5::A6::A7::L)) w):Fit z (aC (A7::A0::A1::A2::A3::A4::A5::A6::L)) w:=h.pick 7
theorem Fit.m8{A0 A1 A2 A3 A4 A5 A6 A7 A8:bj}(h:Fit z (aC (A0::A1::A2::A3::A4::A5::A6::A7::A8::L)) w):Fit z (aC (A8::A0::A1::A2::A3::A4::A5::A6::A7::L)) w:=h.pick 8
theorem Fit.m9{A0 A1 A2 A3 A4 A5 A6 A7 A8 A9:bj}(h:Fit z (aC (A0::A1::A2::A3::A4::A5::A6::A7::A8::A9::L)) w):Fit z (aC (A9::A0::A1::A2::A3::A4::A5::A6::A7::A8::L)) w:=h.pick 9
theorem Fit.On{A0 A1 A2 A3 A4 A5 A6 A7 A8 A9 A10:bj}(h:Fit z (aC (A0::A1::A2::A3::A4::A5::A6::A7::A8::A9::A10::L)) w):Fit z (aC (A10::A0::A1::A2::A3::A4::A5::A6::A7::A8::A9::L)) w:=h.pick 10
theorem Fit.m11{A0 A1 A2 A3 A4 A5 A6 A7 A8 A9 A10 A11:bj}(h:Fit z (aC (A0::A1::A2::A3::A4::A5::A6::A7::A8::A9::A10::A11::L)) w):Fit z (aC (A11::A0::A1::A2::A3::A4::A5::A6::A7::A8::A9::A10::L)) w:=h.pick 11
theorem Fit.Ia{n m:Nat}(e:n=m)(F:Nat->bj)(h:Fit z (aC (F n::L)) w):Fit z (aC (F m::L)) w:=e▸ h
theorem Fit.KY{α:Type}{e sz cc n:Nat}{enc:α->List Value}{ca:fP}{l:List α}{P:bj}(h:Fit z (aC (rowOf e sz enc (.slice ca n cc) l::P::L)) w)(f:Nat->bj)(hp:P=f n:=by rfl):Fit z (aC (rowOf e sz enc (.slice ca l.length cc) l::f l.length::L)) w:=by
 have hn:=h.rA;subst hn;exact hp▸ h
theorem Fit.se(h:Fit z (aC L) w)(n:Nat)(is:List Nat)(hB:GX.ab4 n is=true:=by kernel_rfl)(e:is.map (λi=>L.getD i Ok)++L.drop n=L':=by kernel_rfl):Fit z (aC L') w:=h.sel n is hB e
end
end SL
namespace GX
open Go Go.RowKit SL
section
variable {P:Program}{ops:Array Oper}{Q:Exit->Act->World->Prop}{a:Act}{w w0 w1:World}{rest os:List Oper}{o:Oper}{n d t T:Nat}{v u:Value}{l:List (Nat×Value)}{j e:Nat->Value}{L:List bj}{Df:List Deferred}
theorem cX.fj{X:Prop}(h:cX Df n e a)(hX:X)(hl:l.map (λp=>e p.1)=l.map (·.2):=by kernel_rfl) :∃j,cX Df n (lk l j) a/\X:=let ⟨j,h⟩:=h.ab9 l hl;⟨j,h,hX⟩
theorem cX.re(h:cX Df n (lk l j) a)(t:Nat){v v':Value}(e:v=v')(hv:lk l j t=v:=by kernel_rfl):cX Df n (lk ((t,v')::l) j) a:=by
 obtain⟨h1,h2,h3⟩:=h;refine⟨h1,λq => ?_,h3⟩;rw[h2 q];show lk l j q=bif Nat.beq q t then v' else lk l j q;cases hb:Nat.beq q t with
 | false=>rfl
 | true=>have:=P9 hb;subst this;rw[hv,e];rfl
def HL:List (Nat×Nat×List Value)->World->Prop
 | [],_=>True
 | p::r,w=>rB w p.1 p.2.1 p.2.2/\HL r w
theorem T0:∀D w w',qy w w'->HL D w->HL D w'
 | [],_,_,_,_=>trivial
 | p::r,w,w',g,h=>⟨H7 _ _ _ _ _ g h.1,T0 r w w' g h.2⟩
theorem Ib:∀{D:List (Nat×Nat×List Value)} {k:Nat} {p:Nat×Nat×List Value},D[k]? = some p->HL D w->rB w p.1 p.2.1 p.2.2
 | [],k,p,e,_=>by simp at e
 | q::r,0,p,e,h=>by simp at e;subst e;exact h.1
 | q::r,k+1,p,e,h=>Ib (D:=r) (k:=k) (by simpa using e) h.2
variable {D:List (Nat×Nat×List Value)}{E:List Nat}{aR:Array Bool}{N:Nat}
theorem DV{id:Nat}{lo:List Oper}{H:bj}(D:List (Nat×Nat×List Value))(E:List Nat)(N:Nat)(hF:Fit w0 H w)(hd:∀{w},Fit w0 H w->HL D w)
 (k:∀w,Fit w0 H w->HL D w->eX P .any lo.toArray Q (HL D) E N (Array.replicate N false) a w) (hm:P.follows .mixedOrders=true:=by kernel_rfl) (hN:lo.toArray.size=N:=by rfl) :
 (Code.region id lo.toArray true).wp P Q a w:=by
 subst hN;exact ab5 (HL D) E hF hm λw h=>k w h (hd h)
def YM(ops:Array Oper)(E:List Nat)(aR:Array Bool)(i:Nat):Bool:=okB ops E aR i||okP ops E aR i
theorem e1[hp:PI Q](hd:HL D w)(fuel i:Nat)(hi:ops[i]? = some o)(hB:YM ops E aR i=true)(hw:vg o ops a)(hr:cX Df n (lk l j) a)(v:Value)
 (hrun:∀w,(execOp (eZ (lk l j)) o).run P w= .ok (.value v) w) (k:∀a,cX Df n (lk ((d,v)::l) j) a->eX P .any ops Q (HL D) E fuel (aR.setIfInBounds i true) a w) (h1:o.dst=some d) (hn:Nat.blt d n=true) :
 eX P .any ops Q (HL D) E (fuel+1) aR a w:=by
 unfold YM at hB;rw[B4]at hB;rcases hB with hB | hB
 ·exact ev fuel i hi hB hw hr v hrun k h1 hn
 ·exact evD (T0 D) hd fuel i hi hB hw hr v hrun k h1 hn
theorem e0[hp:PI Q](hd:HL D w)(fuel i:Nat)(hi:ops[i]? = some o)(hB:YM ops E aR i=true)(hw:Region.wanted o (yielded ops a.tmps)=false)(hr:cX Df n (lk l j) a)
 (k:∀a,cX Df n (lk ((d,undef)::l) j) a->eX P .any ops Q (HL D) E fuel (aR.setIfInBounds i true) a w) (h1:o.dst=some d) (hn:Nat.blt d n=true) :
 eX P .any ops Q (HL D) E (fuel+1) aR a w:=by
 unfold YM at hB;rw[B4]at hB;rcases hB with hB | hB
 ·exact eo fuel i hi hB hw hr k h1 hn
 ·exact eoD (T0 D) hd fuel i hi hB hw hr k h1 hn
theorem eof[hp:PI Q](hd:HL D w)(f i:Nat)(hi:ops[i]? = some o)(hw:Region.wanted o (yielded ops a.tmps)=false)(hr:cX Df n (lk l j) a)
 (k:∀a,cX Df n (lk ((d,undef)::l) j) a->eX P .any ops Q (HL D) E f (aR.setIfInBounds i true) a w) (hB:YM ops E aR i=true:=by kernel_rfl) (h1:o.dst=some d:=by rfl) (hn:Nat.blt d n=true:=by rfl) :
 eX P .any ops Q (HL D) E (f+1) aR a w:=e0 hd f i hi hB hw hr k h1 hn
theorem CS[hp:PI Q](hd:HL D w)(f i:Nat)(hi:ops[i]? = some o)(hw:vg o ops a)(hr:cX Df n (lk l j) a)(v:Value)
 (k:∀a,cX Df n (lk ((d,v)::l) j) a->eX P .any ops Q (HL D) E f (aR.setIfInBounds i true) a w) (hB:YM ops E aR i=true:=by kernel_rfl) (hrun:∀w,(execOp (eZ (lk l j)) o).run P w= .ok (.value v) w:=by intro w;kernel_rfl) (h1:o.dst=some d:=by rfl) (hn:Nat.blt d n=true:=by rfl) :
 eX P .any ops Q (HL D) E (f+1) aR a w:=e1 hd f i hi hB hw hr v hrun k h1 hn
def T3:List (Nat×Nat×Value)->Array Bool->Array Bool
 | [],s=>s
 | p::r,s=>T3 r (s.setIfInBounds p.1 true)
def T4:List (Nat×Nat×Value)->List (Nat×Value)->List (Nat×Value)
 | [],l=>l
 | p::r,l=>T4 r ((p.2.1,p.2.2)::l)
def KZ(P:Program)(ops:Array Oper):List (Nat×Nat×Value)->List (Nat×Value)->(Nat->Value)->World->List (Option (Option Nat×Option (Nat×Bool))×Result Next)
 | [],_,_,_=>[]
 | p::r,l,j,w=>((ops[p.1]?).map λo=>(o.dst,o.guard),(match ops[p.1]? with | some o=>(execOp (eZ (lk l j)) o).run P w | none=>.ok .skip w))::KZ P ops r ((p.2.1,p.2.2)::l) j w
def EB:List (Nat×Nat×Value)->World->List (Option (Option Nat×Option (Nat×Bool))×Result Next)
 | [],_=>[]
 | p::r,w=>(some (some p.2.1,none),.ok (.value p.2.2) w)::EB r w
def okE(ops:Array Oper)(E:List Nat)(n:Nat):List (Nat×Nat×Value)->Array Bool->Bool
 | [],_=>true
 | p::r,s=>YM ops E s p.1&&Nat.blt p.2.1 n&&okE ops E n r (s.setIfInBounds p.1 true)
theorem evl[hp:PI Q](hd:HL D w)(f:Nat):∀(is:List (Nat×Nat×Value)) {aR:Array Bool} {a:Act} {l:List (Nat×Value)} (hr:cX Df n (lk l j) a)
 (k:∀a,cX Df n (lk (T4 is l) j) a->eX P .any ops Q (HL D) E f (T3 is aR) a w) (hB:okE ops E n is aR=true:=by kernel_rfl) (hrun:∀w,KZ P ops is l j w=EB is w:=by intro w;kernel_rfl),
 eX P .any ops Q (HL D) E (f+is.length) aR a w
 | [],aR,a,l,hr,k,_,_=>k a hr
 | p::is,aR,a,l,hr,k,hB,hrun=>by
  simp only[okE,mR]at hB;obtain⟨⟨h1,h2⟩,h3⟩:=hB;have acd:∀w,KZ P ops is ((p.2.1,p.2.2)::l) j w=EB is w:=λw=>by have:=hrun w;simp only[KZ,EB,List.cons.injEq]at this;exact this.2
  cases ho:ops[p.1]? with
  | none=>have:=hrun w;simp only[KZ,EB,ho,List.cons.injEq]at this;simp at this
  | some o =>
   have h4:∀w,(o.dst=some p.2.1/\o.guard=none)/\(execOp (eZ (lk l j)) o).run P w= .ok (.value p.2.2) w:=λw=>by
    have:=hrun w;simp only[KZ,EB,ho,List.cons.injEq,vR,Prod.mk.injEq,Option.some.injEq]at this;exact this.1
   have h5:=(h4 w).1;exact e1 hd (f+is.length) p.1 ho h1 (wn h5.2) hr p.2.2 (λw=>(h4 w).2) (λa hr=>evl hd f is hr k h3 acd) h5.1 h2
theorem aev[hp:PI Q](hd:HL D w)(f:Nat)(is:List (Nat×Nat×Value))(hr:cX Df n (lk l j) a)(k:∀a,cX Df n (lk (T4 is l) j) a->eX P .any ops Q (HL D) E f (T3 is aR) a w)
 (hN:f+is.length=N:=by rfl) (hB:okE ops E n is aR=true:=by kernel_rfl) (hrun:∀w,KZ P ops is l j w=EB is w:=by intro w;kernel_rfl):eX P .any ops Q (HL D) E N aR a w:=by
 subst hN;exact evl hd f is hr k hB hrun
theorem W1[hp:PI Q](hd:HL D w)(q f i:Nat){b off:Nat}{x:Operand}(hr:cX Df n (lk l j) a)(hw:vg o ops a)(hi:ops[i]? = some o)(hq:D[q]? = some (b,off,[v]))
 (k:∀a,cX Df n (lk ((d,v)::l) j) a->eX P .any ops Q (HL D) E f (aR.setIfInBounds i true) a w) (hB:(okB ops E aR i&&DC .any ops E aR i)=true:=by kernel_rfl)
 (ho:o.op= .load T x:=by rfl) (hx:eZ (lk l j) x= .pointer (some ⟨b,off,none⟩):=by kernel_rfl) (hu:yn (P.underlying T)=true:=by kernel_rfl) (h1:o.dst=some d:=by rfl) (hn:Nat.blt d n=true:=by rfl) :
 eX P .any ops Q (HL D) E (f+1) aR a w:=
 el E (b:=b) (off:=off) (cs:=[v]) (λ_ hk=>⟨hk,λw h=>Ib hq h⟩) f i hi hB hw hr v (Ib hq hd) (λw hc=>rl ho hx hu hc.1) k h1 hn
theorem elm[hp:PI Q](hd:HL D w)(q f i:Nat){b off:Nat}{cs:List Value}{x:Operand}(hr:cX Df n (lk l j) a)(hw:vg o ops a)(hi:ops[i]? = some o)(hq:D[q]? = some (b,off,cs))
 (k:∀a,cX Df n (lk ((d,.agg cs.toArray)::l) j) a->eX P .any ops Q (HL D) E f (aR.setIfInBounds i true) a w) (hB:(okB ops E aR i&&DC .any ops E aR i)=true:=by kernel_rfl)
 (ho:o.op= .load T x:=by rfl) (hx:eZ (lk l j) x= .pointer (some ⟨b,off,none⟩):=by kernel_rfl) (hu:uN (P.underlying T)=true:=by kernel_rfl) (hs:(P.info? T).map (·.size)=some cs.length:=by kernel_rfl) (h1:o.dst=some d:=by rfl) (hn:Nat.blt d n=true:=by rfl) :
 eX P .any ops Q (HL D) E (f+1) aR a w:=
 el E (b:=b) (off:=off) (cs:=cs) (λ_ hk=>⟨hk,λw h=>Ib hq h⟩) f i hi hB hw hr _ (Ib hq hd) (λw hc=>rlm ho hx hu hs hc) k h1 hn
theorem eE{p X ag0:Prop}(hd:ag0)(k:ag0->X):(p->ag0)/\X:=⟨λ_=>hd,k hd⟩
theorem xE{i:Nat}{X ag0:Prop}(k:X)(hB:¬i∈E:=by decide):(i∈E->ag0)/\X:=⟨λh=>absurd h hB,k⟩
theorem lD(i:Nat){D:World->Prop}{fuel:Nat}(hi:ops[i]? = some o)(k:wpList P ops (Exit.then (λa w=>(i∈E->D w)/\eX P .any ops Q D E fuel (aR.setIfInBounds i true) a w) Q) [o] a w)
 (hrd:Region.ready .any ops aR=[i]:=by kernel_rfl):eX P .any ops Q D E (fuel+1) aR a w:=ab6 hrd hi k
theorem zq{D:World->Prop}{fuel:Nat}(k:Q .normal a w)(hrd:Region.ready .any ops aR=[]:=by kernel_rfl):eX P .any ops Q D E fuel aR a w:=ab7 hrd k
section
variable {β:Type}{p:Prop}[Decidable p]{X ag0 r:Option β}{c:Operand}{x y:Code}
theorem cD(hr:cX Df n e a)(H:(if p then X else ag0)=r)(k1:p->X=r->x.wp P Q a w)(k2:¬p->ag0=r->y.wp P Q a w)(hc:eZ e c= .bool (decide p):=by kernel_rfl):(Code.cond c x y).wp P Q a w:=by
 by_cases h:p
 ·rw[aP h]at H;exact HR hr hc (tY h) (k1 h H)
 ·rw[cu h]at H;exact HS hr hc (HI h) (k2 h H)
theorem cN(hr:cX Df n e a)(H:(if p then X else ag0)=r)(k1:p->X=r->y.wp P Q a w)(k2:¬p->ag0=r->x.wp P Q a w)(hc:eZ e c= .bool (!decide p):=by kernel_rfl):(Code.cond c x y).wp P Q a w:=by
 by_cases h:p
 ·rw[aP h]at H;exact HS hr hc (by simp[h]) (k1 h H)
 ·rw[cu h]at H;exact HR hr hc (by simp[h]) (k2 h H)
theorem cV{b:Bool}(hr:cX Df n e a)(H:(if b=true then X else ag0)=r)(k1:b=true->X=r->x.wp P Q a w)(k2:¬b=true->ag0=r->y.wp P Q a w)(hc:eZ e c= .bool b:=by kernel_rfl):(Code.cond c x y).wp P Q a w:=by
 by_cases h:b=true
 ·rw[aP h]at H;exact HR hr hc h (k1 h H)
 ·rw[cu h]at H;exact HS hr hc (by simpa using h) (k2 h H)
theorem cM{b:Bool}(hr:cX Df n e a)(H:(if b=true then X else ag0)=r)(k1:b=true->X=r->y.wp P Q a w)(k2:¬b=true->ag0=r->x.wp P Q a w)(hc:eZ e c= .bool (!b):=by kernel_rfl):(Code.cond c x y).wp P Q a w:=by
 by_cases h:b=true
 ·rw[aP h]at H;exact HS hr hc (by simp[h]) (k1 h H)
 ·rw[cu h]at H;exact HR hr hc (by simpa using h) (k2 h H)
end
def T5(P:Program)(ops:Array Oper)(n:Nat):List Oper->List Value->List (Nat×Value)->(Nat->Value)->World->List (Option Nat×Option (Bool×Option (Bool×Value))×Result Next)
 | o::os,v::vs,l,j,w=>(o.dst,o.guard.map (λg=>(g.2,((ops[g.1]?).bind (·.dst)).map λt=>(Nat.blt t n,lk l j t))),(execOp (eZ (lk l j)) o).run P w)::T5 P ops n os vs ((o.dst.getD 0,v)::l) j w
 | _,_,_,_,_=>[]
def MQ(x c:Bool):List Nat->List Value->World->List (Option Nat×Option (Bool×Option (Bool×Value))×Result Next)
 | d::ds,v::vs,w=>(some d,some (c,some (true,.bool x)),.ok (.value v) w)::MQ x c ds vs w
 | _,_,_=>[]
theorem wgx{i:Nat}{b x c:Bool}(hr:cX Df n e a)(pf:x=c)(h:o.guard.map (λg=>(g.2,((ops[g.1]?).bind (·.dst)).map λt=>(Nat.blt t n,e t)))=some (b,some (true,.bool x))):Region.wanted o (yielded ops a.tmps)=(c==b):=by
 subst pf;cases hg:o.guard with
 | none=>rw[hg]at h;cases h
 | some g =>
  obtain⟨i,b'⟩:=g;simp only[hg,vR,Option.some.injEq,Prod.mk.injEq]at h;obtain⟨rfl,h⟩:=h;cases ht:(ops[i]?).bind (·.dst)with
  | none=>rw[ht]at h;cases h
  | some t =>
   simp only[ht,vR,Option.some.injEq,Prod.mk.injEq]at h;exact wg hr hg ht h.1 h.2
theorem onl{x c:Bool}(pf:x=c):∀(ds:List Nat) (vs:List Value) {os:List Oper} {a:Act} {l:List (Nat×Value)} (hr:cX Df n (lk l j) a) (k:∀a,cX Df n (lk (TW ds vs l) j) a->wpList P ops Q (os.drop ds.length) a w)
 (hl:ds.length=vs.length/\ds.all (λd=>Nat.blt d n)=true:=by exact⟨rfl,rfl⟩) (hrun:T5 P ops n (os.take ds.length) vs l j w=MQ x c ds vs w:=by kernel_rfl),wpList P ops Q os a w
 | [],[],os,a,l,hr,k,_,_=>k a hr
 | [],v::vs,os,a,l,hr,k,hl,_=>by simp at hl
 | d::ds,[],os,a,l,hr,k,hl,_=>by simp at hl
 | d::ds,v::vs,[],a,l,hr,k,hl,hrun=>by simp[T5,MQ]at hrun
 | d::ds,v::vs,o::os,a,l,hr,k,hl,hrun=>by
  simp only[BG,qb,T5,MQ,List.cons.injEq,Prod.mk.injEq]at hrun;obtain⟨⟨h1,h2,h3⟩,h4⟩:=hrun;obtain⟨Gy,Fy⟩:=hl;simp only[List.all_cons,mR]at Fy;refine AE (by unfold vg;rw[wgx (i:=0) hr pf h2];simp) h1 Fy.1 hr h3 λa hr => ?_;rw[h1]at h4;exact onl pf ds vs hr k ⟨by simpa using Gy,Fy.2⟩ h4
def K0(ops:Array Oper)(n:Nat):List Oper->List (Nat×Value)->(Nat->Value)->List (Option Nat×Option (Bool×Option (Bool×Value)))
 | o::os,l,j=>(o.dst,o.guard.map (λg=>(g.2,((ops[g.1]?).bind (·.dst)).map λt=>(Nat.blt t n,lk l j t))))::K0 ops n os ((o.dst.getD 0,undef)::l) j
 | _,_,_=>[]
def EC(b:Bool)(gv:Value):List Nat->List (Option Nat×Option (Bool×Option (Bool×Value)))
 | d::ds=>(some d,some (b,some (true,gv)))::EC b gv ds
 | _=>[]
def T6:List Nat->List (Nat×Value)->List (Nat×Value)
 | d::ds,l=>T6 ds ((d,undef)::l)
 | _,l=>l
theorem ace{x c:Bool}(pf:x=c):∀(ds:List Nat) {os:List Oper} {a:Act} {l:List (Nat×Value)} (hr:cX Df n (lk l j) a) (k:∀a,cX Df n (lk (T6 ds l) j) a->wpList P ops Q (os.drop ds.length) a w)
 (hl:ds.all (λd=>Nat.blt d n)=true:=by rfl) (hrun:K0 ops n (os.take ds.length) l j=EC (!c) (.bool x) ds:=by kernel_rfl),wpList P ops Q os a w
 | [],os,a,l,hr,k,_,_=>k a hr
 | d::ds,[],a,l,hr,k,hl,hrun=>by simp[K0,EC]at hrun
 | d::ds,o::os,a,l,hr,k,hl,hrun=>by
  simp only[BG,qb,K0,EC,List.cons.injEq,Prod.mk.injEq]at hrun;obtain⟨⟨h1,h2⟩,h4⟩:=hrun;simp only[List.all_cons,mR]at hl;refine OA (by rw[wgx (i:=0) hr pf h2];cases c<;>rfl) h1 hl.1 hr λa hr => ?_;rw[h1]at h4;exact ace pf ds hr k hl.2 h4
theorem wux{b:Bool}(hr:cX Df n e a)(h:o.guard.map (λg=>(g.2,((ops[g.1]?).bind (·.dst)).map λt=>(Nat.blt t n,e t)))=some (b,some (true,undef))):Region.wanted o (yielded ops a.tmps)=false:=by
 cases hg:o.guard with
 | none=>rw[hg]at h;cases h
 | some g =>
  obtain⟨i,b'⟩:=g;simp only[hg,vR,Option.some.injEq,Prod.mk.injEq]at h;obtain⟨rfl,h⟩:=h;cases ht:(ops[i]?).bind (·.dst)with
  | none=>rw[ht]at h;cases h
  | some t =>
   simp only[ht,vR,Option.some.injEq,Prod.mk.injEq]at h;exact TT hr hg ht h.1 h.2
theorem acf(b:Bool):∀(ds:List Nat) {os:List Oper} {a:Act} {l:List (Nat×Value)} (hr:cX Df n (lk l j) a) (k:∀a,cX Df n (lk (T6 ds l) j) a->wpList P ops Q (os.drop ds.length) a w)
 (hl:ds.all (λd=>Nat.blt d n)=true:=by rfl) (hrun:K0 ops n (os.take ds.length) l j=EC b undef ds:=by kernel_rfl),wpList P ops Q os a w
 | [],os,a,l,hr,k,_,_=>k a hr
 | d::ds,[],a,l,hr,k,hl,hrun=>by simp[K0,EC]at hrun
 | d::ds,o::os,a,l,hr,k,hl,hrun=>by
  simp only[BG,qb,K0,EC,List.cons.injEq,Prod.mk.injEq]at hrun;obtain⟨⟨h1,h2⟩,h4⟩:=hrun;simp only[List.all_cons,mR]at hl;refine OA (wux hr h2) h1 hl.1 hr λa hr => ?_;rw[h1]at h4;exact acf b ds hr k hl.2 h4
theorem st1{x y:Operand}{b:Nat}{cs:Array Value}{T':TypeId}(hw:vg o ops a)(hr:cX Df n (lk l j) a)(hF:Fit w0 (aC (pts b (.cells cs T')::L)) w)(i:Nat)(v:Value)(A:bj)
 (k:∀w1,Fit w0 (aC (A::L)) w1->wpList P ops Q rest a w1) (hd:o.dst=none:=by rfl) (ho:o.op= .store T x y:=by rfl) (hx:eZ (lk l j) x= .pointer (some ⟨b,i,none⟩):=by kernel_rfl) (hy:eZ (lk l j) y=v:=by kernel_rfl)
 (hv:v.cells=#[v]:=by rfl) (h1:v.oneCell'=true:=by rfl) (hs:(P.info? T).map (·.size)=some 1:=by kernel_rfl) (hc:(cs[i]?).isSome=true:=by kernel_rfl) (hA:pts b (.cells (cs.setIfInBounds i v) T')=A:=by kernel_rfl):wpList P ops Q (o::rest) a w:=by
 subst hA;cases hu:cs[i]? with
 | none=>rw[hu]at hc;cases hc
 | some u=>exact MD hw hd hr ho hx hy hv h1 hs hF hu k
theorem W2{x y:Operand}{b:Nat}{cs:Array Value}{T':TypeId}(hw:vg o ops a)(hr:cX Df n (lk l j) a)(hF:Fit w0 (aC (pts b (.cells cs T')::L)) w)(i:Nat)(vs:List Value)(A:bj)
 (k:∀w1,Fit w0 (aC (A::L)) w1->wpList P ops Q rest a w1) (hd:o.dst=none:=by rfl) (ho:o.op= .store T x y:=by rfl) (hx:eZ (lk l j) x= .pointer (some ⟨b,i,none⟩):=by kernel_rfl) (hy:eZ (lk l j) y= .agg vs.toArray:=by kernel_rfl)
 (h1:vs.all (·.oneCell')=true:=by rfl) (hfit:Nat.ble (i+vs.length) cs.size=true:=by rfl) (hs:(P.info? T).map (·.size)=some vs.length:=by kernel_rfl) (hA:pts b (.cells (cs.toList.take i++vs++cs.toList.drop (i+vs.length)).toArray T')=A:=by kernel_rfl):wpList P ops Q (o::rest) a w:=by
 subst hA;exact Kh hw hd hr ho hx hy h1 hfit hs hF rfl k
end
end GX
end
section
namespace GX
open Go Go.RowKit SL
section
variable {P:Program}{w w0 w1 z:World}{ops:Array Oper}{a:Act}{rest:List Oper}{e:Nat->Value}{o:Oper}{t E:TypeId}{n d cc sz tB:Nat}{α β:Type}{l:List (Nat×Value)}{j:Nat->Value}{Df:List Deferred}{L:List bj}
def xO(L:List bj)(sz tB:Nat)(enc:fP->Nat->α->List Value)(jm:β->List Value)(vL:α->List β)(va:fP)(hs:Nat->Option Addr×Nat)(l:List α):Prop:=
 ∀i x,l[i]? = some x->va=some ⟨dQ va,jl va,none⟩/\(∀f u,(enc (hs i).1 (hs i).2 x)[f]? = some u->∀z w,Fit z (aC L) w->w.cell? ⟨dQ va,jl va+i*sz+f,none⟩=some u)/\bJ L tB jm (hs i).1 (vL x)
section
variable {enc:fP->Nat->α->List Value}{jm:β->List Value}{vL:α->List β}{va:fP}{hs:Nat->Option Addr×Nat}{l:List α}
theorem xO.nil{L:List bj}:xO L sz tB enc jm vL va hs ([]:List α):=λi x h=>by simp at h
theorem xO.up(k:Nat){L':List bj}(h:xO (L'.drop k) sz tB enc jm vL va hs l):xO L' sz tB enc jm vL va hs l:=
 λi x hx=>⟨(h i x hx).1,λf u hu z w hw=>(h i x hx).2.1 f u hu z w (hw.dn k),(h i x hx).2.2.up k⟩
theorem xO.take{L:List bj}(h:xO L sz tB enc jm vL va hs l)(k:Nat):xO L sz tB enc jm vL va hs (l.take k):=by
 intro i x hx;refine h i x ?_;rw[List.getElem?_take]at hx;split at hx
 ·exact hx
 ·cases hx
theorem xO.cell{z:World}{L:List bj}[Inhabited α]{i:Int}(hF:xO L sz tB enc jm vL va hs l)(hi:bI i l.length)(h:Fit z (aC L) w)(f:Nat){u:Value}(hu:(enc (hs i.toNat).1 (hs i.toNat).2 (J l i.toNat))[f]? = some u):w.cell? ⟨dQ va,jl va+i.toNat*sz+f,none⟩=some u:=
 (hF _ _ (bl hi)).2.1 f u hu z w h
theorem xO.vp{L:List bj}[Inhabited α]{i:Int}(hF:xO L sz tB enc jm vL va hs l)(hi:bI i l.length):bJ L tB jm (hs i.toNat).1 (vL (J l i.toNat)):=(hF _ _ (bl hi)).2.2
theorem xO.cast{L:List bj}{l2:List α}(h:xO L sz tB enc jm vL va hs l)(e:l=l2):xO L sz tB enc jm vL va hs l2:=e▸ h
theorem xO.ne{L:List bj}(hF:xO L sz tB enc jm vL va hs l)(h:0<l.length):va=some ⟨dQ va,jl va,none⟩:=(hF 0 _ (List.getElem?_eq_getElem h)).1
end
theorem bJ.ne{L:List bj}{enc:α->List Value}{va:fP}{l:List α}(hF:bJ L sz enc va l)(h:0<l.length):va=some ⟨dQ va,jl va,none⟩:=(hF 0 _ (List.getElem?_eq_getElem h)).1
theorem bJ.Ic{z:World}{L:List bj}{enc:α->List Value}{b:Nat}[Inhabited α]{l:List α}{i:Int}(hF:bJ L sz enc (some ⟨b,0,none⟩) l)(hi:bI i l.length)(h:Fit z (aC L) w)(f:Nat){u:Value}(hu:(enc (J l i.toNat))[f]? = some u):w.cell? ⟨dQ (some ⟨b,0,none⟩),i.toNat*sz+f,none⟩=some u:=by
 have e:=(hF _ _ (bl hi)).2 f u hu z w h;have o:jl (some ⟨b,0,none⟩:fP)=0:=rfl;rw[o,BX]at e;exact e
theorem acg{x y:Operand}{k:IntKind}{i:Int}{n0:Nat}{L:List bj}{enc:fP->Nat->α->List Value}{jm:β->List Value}{vL:α->List β}{va:fP}{hs:Nat->Option Addr×Nat}[Inhabited α]{l:List α}(ho:o.op= .indexAddr t x y)(hx:eZ e x= .slice va n0 cc)(hy:eZ e y= .int k i)(Jj:n0=l.length)
 (ht:P.underlying t=some (.slice E)) (hs':(P.info? E).map (·.size)=some sz) (hF:xO L sz tB enc jm vL va hs l) (hi:bI i l.length):(execOp (eZ e) o).run P w= .ok (.value (.pointer (some ⟨dQ va,jl va+i.toNat*sz,none⟩))) w:=by
 have h0:=hi.1;have h1:=hi.2;exact rie (hF _ _ (bl hi)).1 ho hx hy ht hs' h0 I
theorem Kl(d:Nat){T:TypeId}(b:Addr)(m c n' c':Nat)(h:P.underlying T=some (.slice E)):(Op.equalIn (d+1) T (.slice (some b) m c) (.slice none n' c')).run P w= .ok false w:=by
 simp[Op.equalIn,run_underlying h]
theorem W3{x y:Operand}{T T':TypeId}{n0:Nat}{va:fP}(ho:o.op= .binOp .eql T x y T')(hx:eZ e x= .slice va n0 cc)(hy:eZ e y= .slice none 0 0)(ht:P.underlying T=some (.slice E))(hv:va=some ⟨dQ va,jl va,none⟩):(execOp (eZ e) o).run P w= .ok (.value (.bool false)) w:=by
 rw[hv]at hx;have h:=Kl (P:=P) (w:=w) 9999 ⟨dQ va,jl va,none⟩ n0 cc 0 0 ht;unfold execOp;simp only[ho,hx,hy,eqGuard,binOp,Op.equal,Op.maxDepth];simp[h]
theorem T7{x y:Operand}{T T':TypeId}{n0:Nat}{va:fP}(ho:o.op= .binOp .neq T x y T')(hx:eZ e x= .slice va n0 cc)(hy:eZ e y= .slice none 0 0)(ht:P.underlying T=some (.slice E))(hv:va=some ⟨dQ va,jl va,none⟩):(execOp (eZ e) o).run P w= .ok (.value (.bool true)) w:=by
 rw[hv]at hx;have h:=Kl (P:=P) (w:=w) 9999 ⟨dQ va,jl va,none⟩ n0 cc 0 0 ht;unfold execOp;simp only[ho,hx,hy,eqGuard,binOp,Op.equal,Op.maxDepth];simp[h]
def iB(x y:Int):Int:=IntKind.i64.wrap ((BitVec.ofInt 64 x &&& BitVec.ofInt 64 y).toNat)
def OG(x y:Int):Int:=IntKind.i64.wrap ((BitVec.ofInt 64 x ||| BitVec.ofInt 64 y).toNat)
theorem rand{x y:Operand}{p q:Int}{T T':TypeId}(ho:o.op= .binOp .and T x y T')(hx:eZ e x= .int .i64 p)(hy:eZ e y= .int .i64 q):(execOp (eZ e) o).run P w= .ok (.value (.int .i64 (iB p q))) w:=by
 unfold execOp;simp[ho,hx,hy,eqGuard,binOp,Op.intBits];rfl
theorem ror{x y:Operand}{p q:Int}{T T':TypeId}(ho:o.op= .binOp .or T x y T')(hx:eZ e x= .int .i64 p)(hy:eZ e y= .int .i64 q):(execOp (eZ e) o).run P w= .ok (.value (.int .i64 (OG p q))) w:=by
 unfold execOp;simp[ho,hx,hy,eqGuard,binOp,Op.intBits];rfl
theorem Fit.YN{Q:bj}(hz:∀{z w:World} {L:List bj},Fit z (aC L) w->Fit z (aC (Q::L)) w){L:List bj}(h:Fit w0 (aC L) w):∀n,Fit w0 (aC (List.replicate n Q++L)) w
 | 0=>h
 | n+1=>by rw[List.replicate_succ];exact hz (Fit.YN hz h n)
theorem _root_.Go.Proofs.YtpikpffbcjpmcaaGreatDoor.SL.Fit.RP{own:α->List Value->bj}{v:Value}{z0:α}{c:nJ sz}{L:List bj}(hz:∀{z w:World} {L:List bj},Fit z (aC L) w->Fit z (aC (own z0 c.cs::L)) w)(n:Nat)(h:Fit w0 (aC (rowOf E sz nJ.cs v (List.replicate n c)::L)) w):Fit w0 (aC (tP E sz own v (List.replicate n z0)::L)) w:=by
 refine Fit.CP (css:=List.replicate n c) (by simp) ?_;have e:List.zipWith (λx c=>own x c.cs) (List.replicate n z0) (List.replicate n c)=List.replicate n (own z0 c.cs):=by simp[List.zipWith_replicate']
 rw[e];exact(Fit.YN hz h n).perm yl
variable {Q:Exit->Act->World->Prop}
theorem ED{x y:Operand}{i:Int}{bytes:Nat}{zc:Array Value}{own:α->List Value->bj}(z0:α)(hw:vg o ops a)(hd:o.dst=some d)(hn:Nat.blt d n=true)(hr:cX Df n (lk l j) a)
 (ho:o.op= .makeSlice t x y) (hx:eZ (lk l j) x= .int .i64 i) (hy:eZ (lk l j) y= .int .i64 i) (hi:0<=i/\i*bytes<=140737488355328) (hlen:zc.toList.length=sz) (hone:∀u∈zc.toList,u.oneCell'=true) (hsz:0<sz) (hty:P.underlying t=some (.slice E))
 (rZ:(P.info? E).map (λi=>(i.size,i.bytes,i.zero.map (·.cells)))=some (sz,bytes,some zc)) (Ol:Nat.blt 0 bytes=true) (hz:∀{z w:World} {L:List bj},Fit z (aC L) w->Fit z (aC (own z0 zc.toList::L)) w) (hF:Fit w0 (aC L) w)
 (k:∀ca w1 a,Fit w0 (aC (tP E sz own (.slice ca (List.replicate i.toNat z0).length i.toNat) (List.replicate i.toNat z0)::L)) w1->cX Df n (lk ((d,.slice ca (List.replicate i.toNat z0).length i.toNat)::l) j) a->wpList P ops Q rest a w1):wpList P ops Q (o::rest) a w:=
 tE (⟨zc.toList,hlen,hone⟩:nJ sz) hw hd hn hr ho hx hy hi (Hr hsz) hty rZ rfl Ol hF λca w1 a h GK=>by
  have e:(List.replicate i.toNat (⟨zc.toList,hlen,hone⟩:nJ sz)).length=(List.replicate i.toNat z0).length:=by simp
  rw[e]at h GK;exact k ca w1 a (h.RP hz) GK
theorem DW{β:Type}(F vs:List β)(a s f:Nat)(hf:f+vs.length<=s)(hs:a+s<=F.length) :
 F.take a++(((F.drop a).take s).take f++vs++((F.drop a).take s).drop (f+vs.length))++F.drop (a+s)=F.take (a+f)++vs++F.drop (a+f+vs.length):=by
 have e1:F.take a++((F.drop a).take s).take f=F.take (a+f):=by
  rw[List.take_take,yW I,List.take_add]
 have e2:((F.drop a).take s).drop (f+vs.length)++F.drop (a+s)=F.drop (a+f+vs.length):=by
  have h:=HJ s (F.drop a);rw[List.drop_drop]at h;have h2:=nV (List.drop (f+vs.length)) h;rw[J7 (by rw[vk,BZ];omega),List.drop_drop]at h2;rw[h2];congr 1;omega
 rw[<-e1,<-e2];simp only[q9]
theorem gY{x y:Operand}{vs:List Value}{f:Nat}{α:Type}{sz n0 cc:Nat}{enc:α->List Value}{xs:List α}{ca:fP}(hw:vg o ops a)(hd:o.dst=none)(hr:cX Df n (lk l j) a)(ho:o.op= .store t x y)
 {i:Nat} (hx:eZ (lk l j) x= .pointer (some ⟨dQ ca,i*sz+f,none⟩)) (hy:eZ (lk l j) y= .agg vs.toArray) (h1:vs.all (·.oneCell')=true) (hs:(P.info? t).map (·.size)=some vs.length)
 (he:tZ enc sz) (hF:Fit w0 (aC (rowOf E sz enc (.slice ca n0 cc) xs::L)) w) {p q:α} (hp:xs[i]? = some p) (hfit:f+vs.length<=sz) (hq:enc q=(enc p).take f++vs++(enc p).drop (f+vs.length))
 (k:∀w1,Fit w0 (aC (rowOf E sz enc (.slice ca n0 cc) (xs.set i q)::L)) w1->wpList P ops Q rest a w1):wpList P ops Q (o::rest) a w:=by
 have hi:i<xs.length:=(List.getElem?_eq_some_iff.1 hp).1;have hn:=hF.rA;obtain⟨hca,Dz⟩:=hF.tD I;obtain⟨Gy,Fy⟩:=Dz.yZ;obtain⟨cur,WT,ME,hP⟩:=Dz.ql;have hle:i*sz+sz<=xs.length*sz:=by
  have:(i+1)*sz<=xs.length*sz:=sH _ hi;rw[vj]at this;omega
 have ZF:xs.length*sz<=cc*sz:=sH _ Gy;have hst:=run_storeCells_at P (dQ ca) (i*sz+f) E vs 0 cur w hP.block I (by simpa using h1);simp only[Gs]at hst;refine Eu (w1:=w.setRow (dQ ca) (cur.toList.take (i*sz+f)++vs++cur.toList.drop (i*sz+f+vs.length)).toArray) hw hd hr ?_ (k _ (Fit.z7 ?_ hca (by rw[hU];exact hn)))
 ·unfold execOp;cases yo:P.info? t with
  | none=>simp[yo]at hs
  | some q =>
   simp[yo]at hs;simp only[ho,hx,hy,Instr.storeAt,Instr.sureAddr,storeVar,n5,uo,n6,sizeOf,typeInfo,run_program,yo,Value.cells];simp[hs,hst]
 ·refine(hP.turn (w':=w.setRow (dQ ca) (cur.toList.take (i*sz+f)++vs++cur.toList.drop (i*sz+f+vs.length)).toArray) (setRow_heap w (dQ ca) cur _ E (0,0) hP.block) (λk hk _=>setRow_other w (dQ ca) k _ hk) rfl rfl rfl (by simp)).head λz hz=>⟨by simpa using Gy,Fy,_,?_,?_,hz⟩
  ·simp only[Dt,j6,vk,BZ,vl];omega
  ·have YO:((xs.flatMap enc).drop (i*sz)).take sz=enc p:=by
    apply zS
    intro k;rw[List.getElem?_take];by_cases hk:k<sz
    ·rw[aP hk,List.getElem?_drop];exact he.get xs i k p hp hk
    ·rw[cu hk,List.getElem?_eq_none (by rw[he.len];omega)]
   rw[hU,he.set xs i q hi,hq,<-YO,DW _ _ _ _ _ hfit (by rw[he.flat];exact hle),<-ME];have hA:(cur.toList.take (i*sz+f)).length=i*sz+f:=by rw[vk,vl];omega
   have e1:(cur.toList.take (i*sz+f)++vs++cur.toList.drop (i*sz+f+vs.length)).take (xs.length*sz)=cur.toList.take (i*sz+f)++vs++(cur.toList.drop (i*sz+f+vs.length)).take (xs.length*sz-(i*sz+f+vs.length)):=by
    rw[J8,Gp (by rw[j6,hA];omega),j6,hA]
   rw[J9,e1,List.take_take,yW I,Ka]
structure Aa(l:List Value)(n:Nat):Prop where
 len:l.length=n
 one:∀u∈l,u.oneCell'=true
theorem Aa.lit{l:List Value}(n:Nat)(h:(Nat.beq l.length n&&l.all (·.oneCell'))=true):Aa l n:=by
 simp only[mR,List.all_eq_true]at h;exact⟨P9 h.1,h.2⟩
theorem Aa.app{a b:List Value}{m n:Nat}(h:Aa a m)(k:Aa b n):Aa (a++b) (m+n):=
 ⟨by rw[j6,h.len,k.len],λu hu=>(List.mem_append.1 hu).elim (h.one u) (k.one u)⟩
theorem _root_.Go.Proofs.YtpikpffbcjpmcaaGreatDoor.SL.tZ.p{enc:α->List Value}(he:tZ enc sz)(x:α):Aa (enc x) sz:=⟨he.len x,he.one x⟩
theorem Aa.enc{enc:α->List Value}{N:Nat}(h:∀x,Aa (enc x) N)(hp:0<N)(e:N=sz):tZ enc sz:=by
 subst e;exact⟨λx=>(h x).len,λx=>(h x).one,hp⟩
def eH[Inhabited α](N:Nat)(enc:α->List Value)(l:List α):List Value:=(List.range N).flatMap (λi=>enc (J l i))
theorem Ht[Inhabited α](N:Nat){enc:α->List Value}(he:tZ enc sz)(l:List α):Aa (eH N enc l) (N*sz):=by
 unfold eH;refine⟨?_,λu hu => ?_⟩
 ·have e:(List.range N).flatMap (λi=>enc (J l i))=((List.range N).map (λi=>J l i)).flatMap enc:=by rw[List.flatMap_map]
  rw[e,he.flat];simp
 ·obtain⟨i,_,hi⟩:=List.mem_flatMap.1 hu;exact he.one _ u hi
theorem Ie{b:Nat}:∀(xs:List Value) (off:Nat),(∀k u,xs[k]? = some u->w.cell? ⟨b,off+k,none⟩=some u)->rB w b off xs
 | [],_,_=>trivial
 | x::xs,off,h=>⟨by simpa using h 0 x rfl,Ie xs (off+1) λk u hu=>by have:=h (k+1) u (by simpa using hu);rw[show off+1+k=off+(k+1) by omega];exact this⟩
theorem _root_.Go.Proofs.YtpikpffbcjpmcaaGreatDoor.SL.Fit.Ig{L:List bj}{enc:α->List Value}{ca:fP}{n i f:Nat}{l:List α}{x:α}{xs:List Value}(h:Fit w0 (aC (rowOf E sz enc (.slice ca n cc) l::L)) w)(he:tZ enc sz)(hx:l[i]? = some x)(hxs:((enc x).drop f).take xs.length=xs):rB w (dQ ca) (i*sz+f) xs:=by
 refine Ie xs _ λk u hu => ?_;rw[<-hxs,List.getElem?_take]at hu;split at hu
 ·rw[List.getElem?_drop]at hu;rw[show i*sz+f+k=i*sz+(f+k) by omega];exact h.cG he hx hu
 ·cases hu
def EE[Inhabited α](N:Nat)(ys l:List α):List α:=(List.range N).map (λi=>if i<ys.length then J ys i else J l i)
def mN[Inhabited α](N:Nat)(l:List α)(k:Nat)(y:α):List α:=(List.range N).map (λi=>if i=k then y else J l i)
theorem T8[Inhabited α]{l:List α}{i:Nat}(h:i<l.length):J l i=l[i]:=by
 have:=get_at h;rw[List.getElem?_eq_getElem h]at this;exact(Option.some.inj this).symm
theorem YP[Inhabited α]{N i:Nat}(f:Nat->α)(h:i<N):J ((List.range N).map f) i=f i:=by
 rw[T8 (by simpa using h)];simp
theorem CT[Inhabited α](N:Nat)(enc:α->List Value)(l:List α):eH N enc l=((List.range N).map (λi=>J l i)).flatMap enc:=by unfold eH;rw[List.flatMap_map]
theorem K1[Inhabited α]{N:Nat}{enc:α->List Value}(he:tZ enc sz){ys l:List α}(h:ys.length<=N):eH N enc (EE N ys l)=ys.flatMap enc++(eH N enc l).drop (ys.length*sz):=by
 have e1:(List.range N).map (λi=>J (EE N ys l) i)=ys++((List.range N).map (λi=>J l i)).drop ys.length:=by
  apply Ms
  ·simp;omega
  ·intro i h1 h2;have hi:i<N:=by simpa using h1
   simp only[List.getElem_map,List.getElem_range];unfold EE;rw[YP _ hi,List.getElem_append];by_cases c:i<ys.length
   ·rw[aP c,dif_pos c,T8 c]
   ·rw[cu c,dif_neg c];simp only[List.getElem_drop,List.getElem_map,List.getElem_range]
    congr 1;omega
 have e2:∀(m:List α) (k:Nat),(m.drop k).flatMap enc=(m.flatMap enc).drop (k*sz):=by
  intro m k;by_cases hk:k<=m.length
  ·have e:(m.take k).flatMap enc++(m.drop k).flatMap enc=m.flatMap enc:=by rw[<-Es,HJ]
   have hl:((m.take k).flatMap enc).length=k*sz:=by rw[he.flat,vk,yW hk]
   rw[<-e,<-hl,List.drop_left]
  ·rw[Qa I,Qa (by rw[he.flat];exact sH _ I)];rfl
 rw[CT,e1,Es,e2,<-CT]
theorem T9[Inhabited α]{N k:Nat}{enc:α->List Value}(he:tZ enc sz){l:List α}{y:α}(h:k<N):eH N enc (mN N l k y)=(eH N enc l).take (k*sz)++enc y++(eH N enc l).drop (k*sz+sz):=by
 have e1:(List.range N).map (λi=>J (mN N l k y) i)=((List.range N).map (λi=>J l i)).set k y:=by
  apply Ms
  ·simp
  ·intro i h1 h2;have hi:i<N:=by simpa using h1
   simp only[List.getElem_map,List.getElem_range];unfold mN;rw[YP _ hi,List.getElem_set];by_cases c:i=k
   ·rw[aP c,aP c.symm]
   ·rw[cu c,cu (λe=>c e.symm)];simp
 rw[CT,e1,he.set _ _ _ (by simpa using h),<-CT]
theorem Ua{A E ys:List Value}{f k:Nat}(hA:A.length=f):A++(ys++E.drop k)=(A++E).take f++ys++(A++E).drop (f+k):=by
 subst hA;rw[Gq,q9,List.drop_append];simp
theorem Ih{s x:Operand}{α β:Type}{sz tB n0 cc i f N cv:Nat}{enc:α->List Value}{jm:β->List Value}{xs:List α}{ca va:fP}{ys:List β}{E ag3:TypeId}{p q:α}(hw:vg o ops a)(hd:o.dst=some d)(hn:Nat.blt d n=true)(hr:cX Df n (lk l j) a)
 (ho:o.op= .call {callee:=.builtin .copy,args:=#[s,x],argTypes:=#[t,t]}) (hs:eZ (lk l j) s= .slice (some ⟨dQ ca,i*sz+f,none⟩) N N) (hx:eZ (lk l j) x= .slice va ys.length cv)
 (he:tZ enc sz) (hi:tZ jm tB) (hty:P.underlying t=some (.slice ag3)) (hsz:(P.info? ag3).map (·.size)=some tB) (hlen:ys.length<=N)
 (hF:Fit w0 (aC (rowOf E sz enc (.slice ca n0 cc) xs::L)) w) (hv:bJ L tB jm va ys) (hp:xs[i]? = some p) (hfit:f+ys.length*tB<=sz) (hq:enc q=(enc p).take f++ys.flatMap jm++(enc p).drop (f+ys.length*tB))
 (k:∀w1 a,Fit w0 (aC (rowOf E sz enc (.slice ca n0 cc) (xs.set i q)::L)) w1->cX Df n (lk ((d,.int .i64 ((ys.length:Nat):Int))::l) j) a->wpList P ops Q rest a w1):wpList P ops Q (o::rest) a w:=by
 have GJ:i<xs.length:=(List.getElem?_eq_some_iff.1 hp).1;have hn':=hF.rA;obtain⟨hca,Dz⟩:=hF.tD I;obtain⟨Gy,Fy⟩:=Dz.yZ;obtain⟨cur,WT,ME,hP⟩:=Dz.ql;have hle:i*sz+sz<=xs.length*sz:=by
  have:(i+1)*sz<=xs.length*sz:=sH _ GJ;rw[vj]at this;omega
 have ZF:xs.length*sz<=cc*sz:=sH _ Gy;have hfl:(ys.flatMap jm).length=ys.length*tB:=hi.flat ys;have hmin:Nat.min ys.length N=ys.length:=yW hlen;have hcells:(Builtin.firstCells tB ys.length (.slice va ys.length cv)).run P w= .ok (ys.flatMap jm).toArray w:=by
  rcases Nat.eq_zero_or_pos ys.length with h0 | h0
  ·have e:ys=[]:=Gr h0;subst e;cases va with
   | none=>exact run_firstCells_none (P:=P) w tB _ _ _
   | some ad=>exact run_firstCells_some (P:=P) w tB 0 _ _ _ [] (by simp) (by simp)
  ·have hva:=hv.ne h0;rw[hva];refine run_firstCells_some (P:=P) w tB ys.length _ _ _ (ys.flatMap jm) hfl ?_;intro jj u hu;have hj:jj<ys.length*tB:=by rw[<-hfl];exact(List.getElem?_eq_some_iff.1 hu).1
   have hpos:0<tB:=hi.pos;have h1:jj/tB<ys.length:=Nat.div_lt_of_lt_mul (by rw[Nat.mul_comm];exact hj);have h2:jj%tB<tB:=Du _ hpos;have h3:jj/tB*tB+jj%tB=jj:=by rw[Nat.mul_comm];exact Gu jj tB
   have h4:=hi.get ys (jj/tB) (jj%tB) ys[jj/tB] (List.getElem?_eq_getElem h1) h2;rw[h3,hu]at h4;have h5:=(hv _ _ (List.getElem?_eq_getElem h1)).2 _ _ h4.symm _ _ hF.drop;rw[wH,show jl va+jj=jl va+jj/tB*tB+jj%tB by omega];exact h5
 have hst:=run_storeCells_at P (dQ ca) (i*sz+f) E (ys.flatMap jm) 0 cur w hP.block (by rw[hfl];omega) (hi.zV ys);simp only[Gs]at hst;refine sw (w1:=w.setRow (dQ ca) (cur.toList.take (i*sz+f)++ys.flatMap jm++cur.toList.drop (i*sz+f+(ys.flatMap jm).length)).toArray) (v:=.int .i64 ((ys.length:Nat):Int)) hw hd hn hr ?_ (λa hr=>k _ a (Fit.z7 ?_ hca (by rw[hU];exact hn')) hr)
 ·unfold execOp;cases yo:P.info? ag3 with
  | none=>simp[yo]at hsz
  | some q =>
   simp[yo]at hsz;simp only[ho,resolve,invoke,builtin,n5,uo,n6,Gt,Bs,B3,hs,hx];simp[Builtin.copy_,run_underlying hty,Builtin.lenOf,sizeOf,typeInfo,yo,hsz,hmin,hcells,hst,goInt]
 ·refine(hP.turn (w':=w.setRow (dQ ca) (cur.toList.take (i*sz+f)++ys.flatMap jm++cur.toList.drop (i*sz+f+(ys.flatMap jm).length)).toArray) (setRow_heap w (dQ ca) cur _ E (0,0) hP.block) (λk hk _=>setRow_other w (dQ ca) k _ hk) rfl rfl rfl (by simp)).head λz hz=>⟨by simpa using Gy,Fy,_,?_,?_,hz⟩
  ·simp only[Dt,j6,vk,BZ,vl];omega
  ·have YO:((xs.flatMap enc).drop (i*sz)).take sz=enc p:=by
    apply zS
    intro k;rw[List.getElem?_take];by_cases hk:k<sz
    ·rw[aP hk,List.getElem?_drop];exact he.get xs i k p hp hk
    ·rw[cu hk,List.getElem?_eq_none (by rw[he.len];omega)]
   rw[<-hfl]at hq hfit;generalize ys.flatMap jm=vs at hq hfit hst⊢;rw[hU,he.set xs i q GJ,hq,<-YO,DW _ _ _ _ _ hfit (by rw[he.flat];exact hle),<-ME];have hA:(cur.toList.take (i*sz+f)).length=i*sz+f:=by rw[vk,vl];omega
   have e1:(cur.toList.take (i*sz+f)++vs++cur.toList.drop (i*sz+f+vs.length)).take (xs.length*sz)=cur.toList.take (i*sz+f)++vs++(cur.toList.drop (i*sz+f+vs.length)).take (xs.length*sz-(i*sz+f+vs.length)):=by
    rw[J8,Gp (by rw[j6,hA];omega),j6,hA]
   rw[J9,e1,List.take_take,yW I,Ka]
def Ii(cn:fP->Nat->α->List Value)(ag3:TypeId)(tB:Nat)(jm:β->List Value)(vL:α->List β)(p:α×(Option Addr×Nat))(cs:List Value):bj:=
 aC [RD (cs=cn p.2.1 p.2.2 p.1),rowOf ag3 tB jm (.slice p.2.1 (vL p.1).length p.2.2) (vL p.1)]
section
variable {cn:fP->Nat->α->List Value}{ag3:TypeId}{jm:β->List Value}{vL:α->List β}{own:α->List Value->bj}{v:Value}
theorem Hu{p:α×(Option Addr×Nat)}{cs:List Value}{L:List bj}(h:Fit z (aC (Ii cn ag3 tB jm vL p cs::L)) w):cs=cn p.2.1 p.2.2 p.1/\Fit z (aC (rowOf ag3 tB jm (.slice p.2.1 (vL p.1).length p.2.2) (vL p.1)::L)) w:=by
 have h:=h.tM;obtain⟨e,h⟩:=h.zU;exact⟨e,h⟩
theorem W4{p:α×(Option Addr×Nat)}{L:List bj}(h:Fit z (aC (rowOf ag3 tB jm (.slice p.2.1 (vL p.1).length p.2.2) (vL p.1)::L)) w):Fit z (aC (Ii cn ag3 tB jm vL p (cn p.2.1 p.2.2 p.1)::L)) w:=by
 refine Fit.sY (RD (cn p.2.1 p.2.2 p.1=cn p.2.1 p.2.2 p.1)::[rowOf ag3 tB jm (.slice p.2.1 (vL p.1).length p.2.2) (vL p.1)]) L ?_;exact h.ym rfl
theorem Ql(hown:∀{z w:World} {L:List bj} {x:α} {cs:List Value},Fit z (aC (own x cs::L)) w->∃(ca:fP) (cc:Nat),cs=cn ca cc x/\Fit z (aC (rowOf ag3 tB jm (.slice ca (vL x).length cc) (vL x)::L)) w) :
 ∀(l:List α) (css:List (nJ sz)) (M:List bj),css.length=l.length->Fit z (aC (List.zipWith (λx c=>own x c.cs) l css++M)) w->∃l':List (α×(Option Addr×Nat)),l'.map Prod.fst=l/\l'.length=css.length/\Fit z (aC (List.zipWith (λx c=>Ii cn ag3 tB jm vL x c.cs) l' css++M)) w
 | [],css,M,hl,h=>⟨[],rfl,by simpa using hl.symm,by simpa using h⟩
 | x::l,[],M,hl,h=>by simp at hl
 | x::l,c::css,M,hl,h=>by
  obtain⟨ca,cc,e,h⟩:=hown h;have h:=W4 (cn:=cn) (p:=(x,(ca,cc))) h;rw[<-e]at h;have h2:=h.perm (yl (l₁:=List.zipWith (λx c=>own x c.cs) l css) (a:=Ii cn ag3 tB jm vL (x,(ca,cc)) c.cs) (l₂:=M)).symm;obtain⟨l',e1,e2,h3⟩:=Ql (λh=>hown h) l css _ (by simpa using hl) h2;exact⟨(x,(ca,cc))::l',by simp[e1],by simp[e2],h3.perm yl⟩
theorem Km(hsh:∀{z w:World} {L:List bj} {x:α} {ca:fP} {cc:Nat},Fit z (aC (rowOf ag3 tB jm (.slice ca (vL x).length cc) (vL x)::L)) w->Fit z (aC (own x (cn ca cc x)::L)) w) :
 ∀(l':List (α×(Option Addr×Nat))) (css:List (nJ sz)) (M:List bj),css.length=l'.length->Fit z (aC (List.zipWith (λx c=>Ii cn ag3 tB jm vL x c.cs) l' css++M)) w->Fit z (aC (List.zipWith (λx c=>own x c.cs) (l'.map Prod.fst) css++M)) w
 | [],css,M,hl,h=>by simpa using h
 | p::l,[],M,hl,h=>by simp at hl
 | p::l,c::css,M,hl,h=>by
  obtain⟨e,h⟩:=Hu h;have h:=hsh h;rw[<-e]at h;have h2:=h.perm (yl (l₁:=List.zipWith (λx c=>Ii cn ag3 tB jm vL x c.cs) l css) (a:=own p.1 c.cs) (l₂:=M)).symm;have h3:=Km (λh=>hsh h) l css _ (by simpa using hl) h2;exact h3.perm yl
theorem Ub(hown:∀{z w:World} {L:List bj} {x:α} {cs:List Value},Fit z (aC (own x cs::L)) w->∃(ca:fP) (cc:Nat),cs=cn ca cc x/\Fit z (aC (rowOf ag3 tB jm (.slice ca (vL x).length cc) (vL x)::L)) w){l:List α}{L:List bj}
 (h:Fit z (aC (tP E sz own v l::L)) w) :∃l':List (α×(Option Addr×Nat)),l'.map Prod.fst=l/\Fit z (aC (tP E sz (Ii cn ag3 tB jm vL) v l'::L)) w:=by
 obtain⟨css,hl,h⟩:=h.CO;have h:=h.perm (yl (l₁:=List.zipWith (λx c=>own x c.cs) l css) (a:=rowOf E sz nJ.cs v css) (l₂:=L)).symm;obtain⟨l',e1,e2,h⟩:=Ql (own:=own) (cn:=cn) (λh=>hown h) l css _ hl h;exact⟨l',e1,Fit.CP (css:=css) e2.symm (h.perm yl)⟩
theorem OH(hsh:∀{z w:World} {L:List bj} {x:α} {ca:fP} {cc:Nat},Fit z (aC (rowOf ag3 tB jm (.slice ca (vL x).length cc) (vL x)::L)) w->Fit z (aC (own x (cn ca cc x)::L)) w){l':List (α×(Option Addr×Nat))}{L:List bj}
 (h:Fit z (aC (tP E sz (Ii cn ag3 tB jm vL) v l'::L)) w) {l:List α} (e:l'.map Prod.fst=l):Fit z (aC (tP E sz own v l::L)) w:=by
 subst e;obtain⟨css,hl,h⟩:=h.CO;have h:=h.perm (yl (l₁:=List.zipWith (λx c=>Ii cn ag3 tB jm vL x c.cs) l' css) (a:=rowOf E sz nJ.cs v css) (l₂:=L)).symm;have h:=Km (own:=own) (λh=>hsh h) l' css _ hl h;exact Fit.CP (css:=css) (by simpa using hl) (h.perm yl)
theorem xO.W5[Inhabited α]{l':List (α×(Option Addr×Nat))}{L' L'' L3:List bj}{ca:fP}{n cc:Nat}(heI:tZ jm tB)(hsz:0<sz)(h0:Fit z (aC (tP E sz (Ii cn ag3 tB jm vL) (.slice ca n cc) l'::L'')) w)
 (f:∀{z w:World},Fit z (aC L') w->Fit z (aC (tP E sz (Ii cn ag3 tB jm vL) (.slice ca n cc) l'::L3)) w):xO L' sz tB cn jm vL ca (λi=>(J l' i).2) (l'.map Prod.fst):=by
 intro i x hx;rw[List.getElem?_map]at hx;cases hp:l'[i]? with
 | none=>simp[hp]at hx
 | some p =>
  simp[hp]at hx;subst hx;have GJ:i<l'.length:=(List.getElem?_eq_some_iff.1 hp).1;have hat:J l' i=p:=by
   have:=get_at GJ;rw[hp]at this;exact(Option.some.inj this).symm
  have hca:=h0.Kj I;have ho:jl ca=0:=by rw[hca];rfl
  simp only[hat];refine⟨by rw[ho];exact hca,λg u hu z w hw => ?_,?_⟩
  ·rw[ho,BX];obtain⟨cs,h⟩:=(f hw).nq hp;obtain⟨e,_⟩:=Hu (h.pick 1);subst e;exact h.qt hsz hu
  ·intro k y hy;have main:∀{z w:World},Fit z (aC L') w->∃M,Fit z (aC (rowOf ag3 tB jm (.slice p.2.1 (vL p.1).length p.2.2) (vL p.1)::M)) w:=λhw=>by
    obtain⟨cs,h⟩:=(f hw).nq hp;obtain⟨_,h⟩:=Hu (h.pick 1);exact⟨_,h⟩
   have hkl:k<(vL p.1).length:=(List.getElem?_eq_some_iff.1 hy).1;have h1 :∃M,Fit z (aC (rowOf ag3 tB jm (.slice p.2.1 (vL p.1).length p.2.2) (vL p.1)::M)) w:=by
    obtain⟨cs,h⟩:=h0.nq hp;obtain⟨_,h⟩:=Hu (h.pick 1);exact⟨_,h⟩
   obtain⟨M,h1⟩:=h1;have hc:=(h1.tD I).1;have ho2:jl p.2.1=0:=by rw[hc];rfl
   refine⟨by rw[ho2];exact hc,λg u hu z w hw => ?_⟩;obtain⟨M,h2⟩:=main hw;rw[ho2,BX];exact h2.cG heI hy hu
end
end
end GX
end
section
namespace RK
open Go Go.RowKit Go.ChangeShapes Go.WideShapes Go.Deep SL GX
section
variable {H:Type}{FB:TypeId×Value->H}{P:Program}{ag1:World}{base:Nat}{spare:Nat->Bool}{held:Bool}{t e:TypeId}{n:Nat}{cs:List Value}{y:DataW H×List MemPlace}
theorem Qm{l:List (DataW H)}{d:DataW H}(h:d∈l):Rows.uptoBulk d<=Rows.uptoBulkAll l:=Kk h
theorem rC{fs:Array Field}(hs:P.underlying t=some (.struct fs))(h:DataW.trod FB P ag1 base spare held n t cs=some y)(i:Nat){f:Field}(hf:fs[i]? = some f) :
 ∃m z,DataW.trod FB P ag1 base spare held m f.type ((cs.drop f.offset).take (P.cellsOf f.type))=some z/\Rows.uptoBulk z.1<=Rows.uptoBulk y.1:=by
 obtain⟨xs,m,_,hx,_,hl,hg⟩:=DataW.trod_struct hs h;have hi:i<fs.size:=(Array.getElem?_eq_some_iff.1 hf).1;have hg:=hg i f hf;rw[List.getElem?_eq_getElem I]at hg;refine⟨m,_,hg,?_⟩;rw[hx];simp only[Rows.uptoBulk];have:=Qm (l:=xs.map (·.1)) (List.mem_map.2 ⟨_,List.getElem_mem (show i<xs.length by omega),rfl⟩);omega
theorem ZR{fs:Array Field}(hs:P.underlying t=some (.struct fs))(h:DataW.trod FB P ag1 base spare held n t cs=some y):cs.length=P.cellsOf t:=by
 obtain⟨xs,m,_,hx,hl,_⟩:=DataW.trod_struct hs h;exact hl
theorem v7(ht:P.underlying t=some (.int .i64))(h:DataW.trod FB P ag1 base spare held n t cs=some y) :∃x:Int,cs=[.int .i64 x]/\H9 x:=by
 obtain⟨x,hx,_,hw⟩:=DataW.trod_int ht h;exact⟨x,hx,wf_i64 hw⟩
theorem OJ{α:Type}{Q:α->DataW H->Prop}{enc:α->List Value}{sz:Nat}(he:tZ enc sz)(ht:P.underlying t=some (.slice e))(hC:P.cellsOf e=sz)
 (Uc:∀n cs y,DataW.trod FB P ag1 base spare held n e cs=some y->cs.length=sz->∃x:α,cs=enc x/\Q x y.1) (h:DataW.trod FB P ag1 base spare held n t cs=some y) :
 ∃(va:fP) (l:List α) (cap:Nat),cs=[.slice va l.length cap]/\bJ [old ag1] sz enc va l/\(∀x∈l,∃d,Q x d/\Rows.uptoBulk d<=Rows.uptoBulk y.1)/\l.length+1<=Rows.uptoBulk y.1/\l.length<=cap:=by
 rcases open_slice ht h with ⟨h0,_⟩ | ⟨a',len,cap,m,n,D,Pl,hcs,_,hl,hm,TQ,hx,hi⟩
 ·exact⟨none,[],0,h0,bJ.nil,λx h=>by simp at h,by simpa using MP y.1,by simp⟩
 ·have hlm:len<=m:=by rw[TQ];split<;>omega
  rw[hC]at hi;have hex:∀i,i<m->∃x:α,ag1.cells? base (a'.add (i*sz)) sz=some (enc x)/\Q x (D i):=λi him=>by
   obtain⟨cs',h1,h2⟩:=hi i him;obtain⟨_,h3,_⟩:=World.cells?_some h1;obtain⟨x,hx,hq⟩:=Uc n cs' _ h2 h3;exact⟨x,by rw[h1,hx],hq⟩
  have hlen:∀k,k<=m->∃l:List α,l.length=k/\∀i x,l[i]? = some x->ag1.cells? base (a'.add (i*sz)) sz=some (enc x)/\Q x (D i):=by
   intro k
   induction k with
   | zero=>intro _;exact⟨[],rfl,λi x h=>by simp at h⟩
   | succ k ih =>
    intro hk;obtain⟨l,h1,h2⟩:=ih I;obtain⟨x,hx⟩:=hex k I;refine⟨l++[x],by simp[h1],λi y hy => ?_⟩;by_cases hik:i<l.length
    ·rw[List.getElem?_append_left hik]at hy;exact h2 i y hy
    ·rw[List.getElem?_append_right I]at hy;have ia:i=k:=by
      have:=(List.getElem?_eq_some_iff.1 hy).1;simp at this;omega
     subst ia;rw[h1,Nat.sub_self]at hy;simp at hy;subst hy;exact hx
  obtain⟨l,Gy,Fy⟩:=hlen len hlm;have hd:y.1= .slice ((List.range len).map D) ((List.range (m-len)).map λj=>D (len+j)):=nV Prod.fst hx;refine⟨some a',l,cap,by rw[Gy];exact hcs,λi x hx => ?_,λx hx => ?_,?_,I⟩
  ·have hc:=(Fy i x hx).1;obtain⟨_,_,hat⟩:=World.cells?_some hc;have hcell:∀f u,(enc x)[f]? = some u->ag1.cell? ((a'.add (i*sz)).add f)=some u:=λf u hu=>by
    have hf:f<sz:=by rw[<-he.len x];exact(List.getElem?_eq_some_iff.1 hu).1
    rw[hat f hf,hu]
   have hsp:a'.spot=none:=by
    have hp:=he.pos;have GJ:i<l.length:=(List.getElem?_eq_some_iff.1 hx).1;have hx0:l[0]? = some (l[0]' I):=List.getElem?_eq_getElem I;obtain⟨_,_,aew⟩:=World.cells?_some (Fy 0 _ hx0).1;have h0:0<(enc (l[0]' I)).length:=by rw[he.len];exact hp
    have h1:ag1.cell? ((a'.add (0*sz)).add 0)=some _:=(aew 0 hp).trans (List.getElem?_eq_getElem h0);have h2:=World.cell?_spot h1;rw[Nat.zero_mul,Addr.add,aP rfl,Addr.add,aP rfl]at h2;exact h2
   obtain⟨ab,ao,asp⟩:=a';simp only at hsp;subst hsp;refine⟨rfl,λf u hu z w hw => ?_⟩;refine hw.Mz ?_;have:=hcell f u hu;rw[wH,wH]at this;exact this
  ·obtain⟨i,hi,rfl⟩:=List.getElem_of_mem hx;obtain⟨_,hq⟩:=Fy i _ (List.getElem?_eq_getElem hi);refine⟨D i,hq,?_⟩;rw[hd];simp only[Rows.uptoBulk];have:=Qm (l:=(List.range len).map D) (List.mem_map.2 ⟨i,List.mem_range.2 I,rfl⟩);omega
  ·rw[hd,Gy];simp only[Rows.uptoBulk];have:=TY ((List.range len).map D);simp only[Dw,List.length_range]at this;omega
theorem K2(ht:P.underlying t=some (.slice e))(he:P.underlying e=some (.int .i64))(hC:P.cellsOf e=1)(h:DataW.trod FB P ag1 base spare held n t cs=some y) :
 ∃(va:fP) (l:List Int) (cap:Nat),cs=[.slice va l.length cap]/\bJ [old ag1] 1 aH va l/\(∀x∈l,H9 x)/\l.length+1<=Rows.uptoBulk y.1/\l.length<=cap:=by
 obtain⟨va,l,cap,h1,h2,h3,h4,h5⟩:=OJ (Q:=λx _=>H9 x) aG ht hC (λn cs y h hl=>by
  obtain⟨x,hx,hi⟩:=v7 he h;exact⟨x,by rw[hx];rfl,hi⟩) h
 exact⟨va,l,cap,h1,h2,λx hx=>by obtain⟨_,h,_⟩:=h3 x hx;exact h,h4,h5⟩
theorem W6{α β:Type}{Q:α->DataW H->Prop}{enc:fP->Nat->α->List Value}{jm:β->List Value}{vL:α->List β}{sz tB:Nat}(he:∀a c,tZ (enc a c) sz)(ht:P.underlying t=some (.slice e))(hC:P.cellsOf e=sz)
 (Uc:∀n cs y,DataW.trod FB P ag1 base spare held n e cs=some y->cs.length=sz->∃(a:fP) (c:Nat) (x:α),cs=enc a c x/\bJ [old ag1] tB jm a (vL x)/\Q x y.1) (h:DataW.trod FB P ag1 base spare held n t cs=some y) :
 ∃(va:fP) (hs:Nat->Option Addr×Nat) (l:List α) (cap:Nat),cs=[.slice va l.length cap]/\xO [old ag1] sz tB enc jm vL va hs l/\(∀x∈l,∃d,Q x d/\Rows.uptoBulk d<=Rows.uptoBulk y.1)/\l.length+1<=Rows.uptoBulk y.1/\l.length<=cap:=by
 obtain⟨va,l,cap,h1,h2,h3,h4,h5⟩:=OJ (α:=(Option Addr×Nat)×α) (Q:=λp d=>bJ [old ag1] tB jm p.1.1 (vL p.2)/\Q p.2 d) (enc:=λp=>enc p.1.1 p.1.2 p.2)
  ⟨λp=>(he _ _).len _,λp u h=>(he _ _).one _ u h,(he none 0).pos⟩ ht hC (λn cs y h hl=>by
   obtain⟨a,c,x,e1,e2,e3⟩:=Uc n cs y h hl;exact⟨((a,c),x),e1,e2,e3⟩) h
 refine⟨va,λi=>(l[i]?.map (·.1)).getD (none,0),l.map (·.2),cap,by rw[Dw];exact h1,λi x hx => ?_,λx hx => ?_,by rw[Dw];exact h4,by rw[Dw];exact h5⟩
 ·rw[List.getElem?_map]at hx;cases hq:l[i]? with
  | none=>rw[hq]at hx;cases hx
  | some p =>
   rw[hq]at hx;simp only[vR,Option.some.injEq]at hx;subst hx;obtain⟨a1,a2⟩:=h2 i p hq;obtain⟨_,a3,_⟩:=h3 p (List.mem_of_getElem? hq);simp only[hq,vR,pK];exact⟨a1,a2,a3.1⟩
 ·obtain⟨p,hp,rfl⟩:=List.mem_map.1 hx;obtain⟨d,a,b⟩:=h3 p hp;exact⟨d,a.2,b⟩
end
theorem MR{P:Program}{ag1:World}{α:Type}{enc:α->List Value}{dE:α->DataW Unit}{sz:Nat}{name:String}{g:Nat}{t e:TypeId}{N:Nat}{l:List α}{rest:List (String×DataW Unit)}{ps:List MemPlace}(hsz:0<sz)
 (hg:P.globalNamed name=some g) (hty:(P.globals[g]?).map (·.type)=some t) (ht:P.underlying t=some (.array N e)) (hC:P.cellsOf e=sz) (hCt:P.cellsOf t=N*sz) (hN:N=l.length)
 (hlen:∀x,(enc x).length=sz) (Uc:∀m cs y x,DataW.trod (λ_=>()) P ag1 0 (λ_=>true) false m e cs=some y->cs.length=sz->y.1=dE x->cs=enc x)
 (h:DataW.LaidVars P ag1 ((name,.agg (l.map dE))::rest) ps):bJ [old ag1] sz enc (some ⟨g,0,none⟩) l/\∃qs,DataW.LaidVars P ag1 rest qs:=by
 obtain⟨g',t',cs,fuel,p,q,Kg,ht',aex,hd,hr,_⟩:=h;obtain rfl:=Option.some.inj (hg.symm.trans Kg);obtain rfl:=Option.some.inj (hty.symm.trans ht');refine⟨λi x hx => ?_,_,hr⟩;have hi:i<l.length:=(List.getElem?_eq_some_iff.1 hx).1;refine⟨rfl,λf u hu z w hw=>hw.Mz ?_⟩;obtain⟨xs,m,_,ex,hlc,hl,hel⟩:=DataW.trod_array ht hd;have hf:f<sz:=by rw[<-hlen x];exact(List.getElem?_eq_some_iff.1 hu).1
 have h1:=hel i I;rw[hC,List.getElem?_eq_getElem I]at h1;have h2:(xs[i]' I).1=dE x:=by
  simp only[Prod.mk.injEq,DataW.agg.injEq]at ex;have:=nV (·[i]?) ex.1;simp only[List.getElem?_map,hx,vR,List.getElem?_eq_getElem (show i<xs.length by omega),Option.some.injEq]at this;exact this.symm
 have hlt:cs.toList.length=N*sz:=by rw[hlc,hCt]
 have h4:i*sz+sz<=N*sz:=by
  have:=sH sz (show i+1<=N by omega);rw[Gw]at this;exact this
 have h3:=Uc m _ _ x h1 (by rw[vk,BZ,hlt];omega) h2;have:=World.var?_cell hg aex (i*sz+f);rw[show(jl (some ⟨g,0,none⟩:fP))=0 from rfl,BX];show ag1.cell? ⟨g,i*sz+f,none⟩=some u;rw[this,<-Array.getElem?_toList];rw[<-h3,List.getElem?_take,aP hf,List.getElem?_drop]at hu;exact hu
end RK
end
section
namespace GX
open Go Go.RowKit SL
def OL(x y:Int):Int:=IntKind.i64.wrap ((BitVec.ofInt 64 x ^^^ BitVec.ofInt 64 y).toNat)
def RQ(x y:Int):Int:=IntKind.i64.wrap (x*2 ^ (min y.toNat 64))
def MS(x y:Int):Int:=x.fdiv (2 ^ (min y.toNat 64))
section
variable {P:Program}{ops:Array Oper}{Q:Exit->Act->World->Prop}{a:Act}{w w0 w1:World}{rest:List Oper}{o:Oper}{n d t:Nat}{v v1:Value}{l:List (Nat×Value)}{j e:Nat->Value}{L:List bj}{Df:List Deferred}{E:TypeId}
theorem aey{x y:Operand}{p q:Int}{T T':TypeId}(ho:o.op= .binOp .xor T x y T')(hx:eZ e x= .int .i64 p)(hy:eZ e y= .int .i64 q):(execOp (eZ e) o).run P w= .ok (.value (.int .i64 (OL p q))) w:=by
 unfold execOp;simp[ho,hx,hy,eqGuard,binOp,Op.intBits];rfl
theorem Ud(x:Int):0<=IntKind.u64.wrap x:=by
 simp only[IntKind.wrap,IntKind.min,IntKind.max,IntKind.signed,IntKind.bits];simp;omega
theorem aez{x y:Operand}{p q:Int}{T T':TypeId}(ho:o.op= .binOp .shl T x y T')(hx:eZ e x= .int .i64 p)(hy:eZ e y= .int .u64 q)(hq:0<=q):(execOp (eZ e) o).run P w= .ok (.value (.int .i64 (RQ p q))) w:=by
 have h:¬q<0:=by omega
 unfold execOp;simp[ho,hx,hy,eqGuard,binOp,Op.shift,h];rfl
theorem aeA{x y:Operand}{p q:Int}{T T':TypeId}(ho:o.op= .binOp .shr T x y T')(hx:eZ e x= .int .i64 p)(hy:eZ e y= .int .u64 q)(hq:0<=q):(execOp (eZ e) o).run P w= .ok (.value (.int .i64 (MS p q))) w:=by
 have h:¬q<0:=by omega
 unfold execOp;simp[ho,hx,hy,eqGuard,binOp,Op.shift,h];rfl
theorem uY{x y:Operand}{k:IntKind}{i:Int}{b N off sz:Nat}{w':World}(ho:o.op= .indexAddr t x y)(hx:eZ e x= .pointer (some ⟨b,off,none⟩))(hy:eZ e y= .int k i)
 (ht:P.underlying t=some (.array N E)) (hs:(P.info? E).map (·.size)=some sz) (hi:bI i N):(execOp (eZ e) o).run P w'= .ok (.value (.pointer (some ⟨b,off+i.toNat*sz,none⟩))) w':=by
 unfold execOp;have h0:=hi.1;have h1:=hi.2;simp only[ho,hx,hy];cases hq:P.info? E with
 | none=>simp[hq]at hs
 | some q =>
  simp[hq]at hs;simp[Instr.indexAt,Instr.sureAddr,run_underlying ht,asIntOf,h0,h1,sizeOf,typeInfo,hq,hs,wH]
theorem aeB{x y:Operand}{kd:IntKind}{i j:Int}{v:Value}{w:World}(ho:o.op= .index t x y)(hy:eZ e y= .int kd i)(hi:i=j)(hrun:(Instr.index t (eZ e x) (.int kd j)).run P w= .ok v w):(execOp (eZ e) o).run P w= .ok (.value v) w:=by
 subst hi;unfold execOp;simp[ho,hy,hrun]
theorem ZS{x y:Operand}{k:IntKind}{i:Int}{b N R off sz:Nat}{w':World}(ho:o.op= .indexAddr t x y)(hx:eZ e x= .pointer (some ⟨b,R+off,none⟩))(hy:eZ e y= .int k i)
 (ht:P.underlying t=some (.array N E)) (hs:(P.info? E).map (·.size)=some sz) (hi:bI i N):(execOp (eZ e) o).run P w'= .ok (.value (.pointer (some ⟨b,R+(off+i.toNat*sz),none⟩))) w':=by
 rw[<-Nat.add_assoc];exact uY ho hx hy ht hs hi
end
section
variable {α:Type}[Inhabited α]{enc:α->List Value}{sz N:Nat}{C pre post:List Value}{l:List α}{o:Nat}
theorem lz{i:Int}(h:bI i N):i.toNat<N:=by have h0:=h.1;have h1:=h.2;omega
theorem Ue(he:tZ enc sz){i f:Nat}(hi:i<N){u:Value}(hu:(enc (J l i))[f]? = some u):(eH N enc l)[i*sz+f]? = some u:=by
 have hf:f<sz:=by rw[<-he.len (J l i)];exact(List.getElem?_eq_some_iff.1 hu).1
 rw[CT,he.get _ i f (J l i) (by simp[hi]) hf];exact hu
theorem oP(hC:C=pre++(eH N enc l++post))(he:tZ enc sz)(ho:pre.length=o){i f:Nat}(hi:i<N){u:Value}(hu:(enc (J l i))[f]? = some u):C[o+i*sz+f]? = some u:=by
 have h1:=Ue (N:=N) he hi hu;have h2:i*sz+f<(eH N enc l).length:=(List.getElem?_eq_some_iff.1 h1).1;rw[hC,List.getElem?_append_right I,ho,show o+i*sz+f-o=i*sz+f by omega,List.getElem?_append_left h2];exact h1
theorem W7(hC:C=pre++(eH N enc l++post))(he:tZ enc sz)(ho:pre.length=o){i:Nat}(hi:i<N){xs:List Value}(hx:enc (J l i)=xs):(C.drop (o+i*sz)).take xs.length=xs:=by
 subst hx
 apply zS
 intro k;rw[List.getElem?_take];by_cases hk:k<(enc (J l i)).length
 ·rw[aP hk,List.getElem?_drop,oP hC he ho hi (List.getElem?_eq_getElem hk),List.getElem?_eq_getElem hk]
 ·rw[cu hk,List.getElem?_eq_none I]
theorem OM{C':List Value}(hC:C=pre++(eH N enc l++post))(he:tZ enc sz)(ho:pre.length=o){i:Nat}(hi:i<N){y:α}{vs:List Value}(hy:enc y=vs)(hC':C'=pre++(eH N enc (mN N l i y)++post)):C'=C.take (o+i*sz)++vs++C.drop (o+i*sz+vs.length):=by
 have hl:=(Ht N he l).len;have hvs:vs.length=sz:=by rw[<-hy];exact he.len y
 have hm:i*sz+sz<=N*sz:=by
  have:=sH sz (show i+1<=N by omega);rw[Gw]at this;exact this
 have e1:(pre++(eH N enc l++post)).take (o+i*sz)=pre++(eH N enc l).take (i*sz):=by
  rw[J8,Gp I,ho,show o+i*sz-o=i*sz by omega,List.take_append_of_le_length I]
 have e2:(pre++(eH N enc l++post)).drop (o+i*sz+sz)=(eH N enc l).drop (i*sz+sz)++post:=by
  rw[List.drop_append,zR I,ho,show o+i*sz+sz-o=i*sz+sz by omega,AD,J7 I]
 rw[hC',hC,T9 he hi,<-hy,he.len y,e1,e2];simp only[q9]
theorem W8{C:List Value}{k:Nat}{u:Value}(h:C[k]? = some u):C.toArray[k]? = some u:=by simpa using h
theorem Uf(hC:C=pre++(eH N enc l++post))(he:tZ enc sz)(ho:pre.length=o){i m:Nat}(hi:i<N)(hm:m<=sz):o+i*sz+m<=C.length:=by
 have hl:=(Ht N he l).len;have:i*sz+sz<=N*sz:=by
  have:=sH sz (show i+1<=N by omega);rw[Gw]at this;exact this
 rw[hC,j6,j6,hl];omega
theorem uG{C':List Value}{v:Value}(hC:C=pre++(eH N enc l++post))(he:tZ enc 1)(ho:pre.length=o){i:Nat}(hi:i<N){y:α}(hy:enc y=[v])(hC':C'=pre++(eH N enc (mN N l i y)++post)):C'=C.set (o+i*1) v:=by
 have h:=OM hC he ho hi hy hC';have hl:=Uf (m:=1) hC he ho hi (jU _);rw[h,List.set_eq_take_append_cons_drop,p7];simp
end
section
variable {P:Program}{ops:Array Oper}{Q:Exit->Act->World->Prop}{a:Act}{w w0 w1:World}{rest:List Oper}{o:Oper}{n d t:Nat}{v v1:Value}{l:List (Nat×Value)}{j e:Nat->Value}{L:List bj}{Df:List Deferred}{E:TypeId}
theorem _root_.Go.Proofs.YtpikpffbcjpmcaaGreatDoor.SL.Fit.Ug{b k:Nat}{C xs:List Value}{T:TypeId}(h:Fit w0 (aC (pts b (.cells C.toArray T)::L)) w)(hx:(C.drop k).take xs.length=xs):rB w b k xs:=by
 refine Ie xs _ λq u hu => ?_;rw[<-hx,List.getElem?_take]at hu;split at hu
 ·rw[List.getElem?_drop]at hu;exact h.cell (k+q) (by simpa using hu)
 ·cases hu
theorem tF{x y:Operand}{b k:Nat}{C C':List Value}{T:TypeId}{u:Value}(hw:vg o ops a)(hd:o.dst=none)(hr:cX Df n (lk l j) a)(ho:o.op= .store t x y)
 (hx:eZ (lk l j) x= .pointer (some ⟨b,k,none⟩)) (hy:eZ (lk l j) y=v) (hv:v.cells=#[v]) (h1:v.oneCell'=true) (hs:(P.info? t).map (·.size)=some 1)
 (hF:Fit w0 (aC (pts b (.cells C.toArray T)::L)) w) (hk:C[k]? = some u) (hC:C'=C.set k v)
 (K:∀w1,Fit w0 (aC (pts b (.cells C'.toArray T)::L)) w1->wpList P ops Q rest a w1):wpList P ops Q (o::rest) a w:=
 MD hw hd hr ho hx hy hv h1 hs hF (by simpa using hk) λw1 h=>K w1 (by
  have e:C.toArray.setIfInBounds k v=C'.toArray:=by rw[hC];simp
  exact e▸ h)
theorem EF{x y:Operand}{b k:Nat}{C C' vs:List Value}{T:TypeId}(hw:vg o ops a)(hd:o.dst=none)(hr:cX Df n (lk l j) a)(ho:o.op= .store t x y)
 (hx:eZ (lk l j) x= .pointer (some ⟨b,k,none⟩)) (hy:eZ (lk l j) y= .agg vs.toArray) (h1:vs.all (·.oneCell')=true) (hs:(P.info? t).map (·.size)=some vs.length)
 (hF:Fit w0 (aC (pts b (.cells C.toArray T)::L)) w) (hk:k+vs.length<=C.length) (hC:C'=C.take k++vs++C.drop (k+vs.length))
 (K:∀w1,Fit w0 (aC (pts b (.cells C'.toArray T)::L)) w1->wpList P ops Q rest a w1):wpList P ops Q (o::rest) a w:=
 Kh hw hd hr ho hx hy h1 (Nat.ble_eq_true_of_le (by simpa using hk)) hs hF (cs':=C'.toArray) (by rw[hC]) K
end
section
variable {P:Program}{w w0 w1 z:World}{ops:Array Oper}{Q:Exit->Act->World->Prop}{a:Act}{rest:List Oper}{e:Nat->Value}{o:Oper}{n d:Nat}{l:List (Nat×Value)}{j:Nat->Value}{Df:List Deferred}{L:List bj}{u:Value}
theorem FC{x:Operand}{T:TypeId}(hw:vg o ops a)(hr:cX Df n (lk l j) a)(ho:o.op= .panic x)(hx:eZ (lk l j) x= .iface T u)
 (k:Q (.panic [{v:=.iface T u,recovered:=false}]) a w):wpList P ops Q (o::rest) a w:=by
 refine xM hw ?_;unfold Oper.wp;have h:(execOp (eZ (lk l j)) o).run P w= .halt (.panic (.iface T u)) w:=by
  unfold execOp;simp[ho,hx,Instr.panic,goPanic]
 rw[hr.eval,h,Oper.upon_panic];exact k
theorem MT{f:FuncId}{args:Array Value}{R:Ending->World->Prop}(hw:vg o ops a)(hr:cX Df n (lk l j) a)
 (hrun:(execOp (eZ (lk l j)) o).run P w= .ok (.enter f args) w) (hc:Calls P f args w R)
 (k:∀e w1,R e w1->∃ch,e= .panicked ch/\Q (.panic ch) a w1):wpList P ops Q (o::rest) a w:=by
 refine xM hw ?_;unfold Oper.wp;rw[hr.eval,hrun,Oper.upon_enter];refine hc.mono λe w1 h => ?_;obtain⟨ch,rfl,h2⟩:=k e w1 h;exact h2
theorem oE{K:Act->World->Prop}{ch:List PanicEntry}(h:Q (.panic ch) a w):Exit.then K Q (.panic ch) a w:=h
theorem uH{i:Nat}{ch:List PanicEntry}(h:Q (.panic ch) a w):Exit.inBlock i Q (.panic ch) a w:=h
theorem CU{fn:Func}{R:Ending->World->Prop}{ch:List PanicEntry}(hr:kX n e a)(h:R (.panicked ch) w):bodyPost P fn R (.panic ch) a w:=⟨hr.defers,h⟩
theorem ejR{γ δ:Type}{x y:δ}(h:some (Sum.inr x:γ⊕δ)=some (Sum.inr y)):x=y:=by cases h;rfl
theorem Uh(h:Q .ret a w):Exit.noGoto Q .ret a w:=h
instance agr [h:PI Q]:PI (Exit.noGoto Q):=⟨λch a w dst v k=>h.pi ch a w dst v k⟩
end
section
variable {P:Program}{w:World}
theorem K3(em:Bool)(d:Nat)(xs:Array Value):∀(fs:List Field) (i:Nat) (us:List Value),DB P i fs us us=true->(∀j,us[j]? = xs[i+j]?∨us.length<=j)->
 Sem.run P (forIn fs PUnit.unit λf _=>if f.name≠ "_" then do let v<-part f.type xs f.offset;Instr.checkKey em (d+1) f.type v;pure (ForInStep.yield PUnit.unit)else pure (ForInStep.yield PUnit.unit)) w= .ok PUnit.unit w
 | [],_,[],_,_=>by simp
 | f::fs,i,.int k a::us,h,hx=>by
  simp only[DB,mR,bne_iff_ne,ne_eq,zT]at h;obtain⟨⟨⟨⟨hn,ho⟩,ht⟩,_⟩,hr⟩:=h;have hx0:xs[i]? = some (.int k a):=by rcases hx 0 with h | h;simpa using h.symm;simp at h
  have hty :∃kk,P.underlying f.type=some (.int kk):=by
   revert ht
   cases hq:P.underlying f.type with
   | none=>simp
   | some d=>cases d<;>simp
  obtain⟨kk,hty⟩:=hty;have ih:=K3 em d xs fs (i+1) us hr (λj=>by rcases hx (j+1)with h | h;left;simpa [Oz,Kb]using h;right;simpa using h);have pa:=sZ (P:=P) (w:=w) (t:=f.type) (cs:=xs) (i:=f.offset) (v:=.int k a) (by rw[hty]) (by rw[ho];exact hx0);have hc:(Instr.checkKey em (d+1) f.type (.int k a)).run P w= .ok () w:=by simp[Instr.checkKey,run_underlying hty]
  rw[List.forIn_cons];simp only[ne_eq,aP hn,n5,pa,hc,n6,uo]
  simpa using ih
 | f::fs,i,.bool a::us,h,hx=>by
  simp only[DB,mR,bne_iff_ne,ne_eq,zT]at h;obtain⟨⟨⟨hn,ho⟩,ht⟩,hr⟩:=h;have hx0:xs[i]? = some (.bool a):=by rcases hx 0 with h | h;simpa using h.symm;simp at h
  have hty:P.underlying f.type=some .bool:=by
   revert ht
   cases hq:P.underlying f.type with
   | none=>simp
   | some d=>cases d<;>simp
  have ih:=K3 em d xs fs (i+1) us hr (λj=>by rcases hx (j+1)with h | h;left;simpa [Oz,Kb]using h;right;simpa using h);have pa:=sZ (P:=P) (w:=w) (t:=f.type) (cs:=xs) (i:=f.offset) (v:=.bool a) (by rw[hty]) (by rw[ho];exact hx0);have hc:(Instr.checkKey em (d+1) f.type (.bool a)).run P w= .ok () w:=by simp[Instr.checkKey,run_underlying hty]
  rw[List.forIn_cons];simp only[ne_eq,aP hn,n5,pa,hc,n6,uo]
  simpa using ih
theorem Ui{em:Bool}{T:TypeId}{us:List Value}(d:Nat)(hu:P.underlying T=some (.struct (P.fieldsOf T)))(hf:DB P 0 (P.fieldsOf T).toList us us=true):(Instr.checkKey em (d+2) T (.agg us.toArray)).run P w= .ok () w:=by
 unfold Instr.checkKey;simp only[run_underlying hu,n5,n6,<-Array.forIn_toList];rw[K3 em d us.toArray _ 0 us hf (λj=>by left;simp)];simp
structure MU{α:Type}[DecidableEq α](P:Program)(kt:TypeId)(ek:α->List Value):Prop where
 hp:P.stoodInHeld kt=false
 hu:P.underlying kt=some (.struct (P.fieldsOf kt))
 hf:∀x y,DB P 0 (P.fieldsOf kt).toList (ek x) (ek y)=true
 eq:∀x y,vm (ek x) (ek y)=decide (x=y)
end
section
variable {α β:Type}[DecidableEq α]
def sN(ek:α->List Value)(ev:β->List Value)(l:List (α×β))(k:Nat):List MapEntry:=(l.zipIdx k).map λp=>{key:=.agg (ek p.1.1).toArray,val:=.agg (ev p.1.2).toArray,born:=p.2}
def mapOf(ek:α->List Value)(ev:β->List Value)(b:Nat)(l:List (α×β)):bj:=pts b (.map (sN ek ev l 0).toArray l.length)
def yO:List (α×β)->α->Option β
 | [],_=>none
 | p::l,x=>if x=p.1 then some p.2 else yO l x
variable {P:Program}{w w0 w1 z:World}{ops:Array Oper}{Q:Exit->Act->World->Prop}{a:Act}{rest:List Oper}{e:Nat->Value}{o:Oper}{n d:Nat}{l:List (Nat×Value)}{j:Nat->Value}{Df:List Deferred}{L:List bj}{u:Value}
variable {ek:α->List Value}{ev:β->List Value}{b:Nat}{m:List (α×β)}{t kt et:TypeId}
theorem MV(hk:MU P kt ek)(x:α):∀(m:List (α×β)) (k i:Nat),((yO m x=none/\(Instr.findAsking kt (.agg (ek x).toArray) (sN ek ev m k) i).run P w= .ok none w)∨∃v q,yO m x=some v/\(Instr.findAsking kt (.agg (ek x).toArray) (sN ek ev m k) i).run P w= .ok (some (q,.agg (ev v).toArray)) w)
 | [],k,i=>by left;exact⟨rfl,by simp[sN,Instr.findAsking]⟩
 | p::m,k,i=>by
  have h1:=run_equalIn_struct (P:=P) w 9999 kt (ek x).toArray (ek p.1).toArray hk.hu hk.hp;rw[KU (P:=P) (w:=w) 9998 (ek x).toArray (ek p.1).toArray (P.fieldsOf kt).toList 0 (ek x) (ek p.1) (hk.hf x p.1) (λj=>by left;simp) (λj=>by left;simp)]at h1;have h2:(Op.equal kt (.agg (ek x).toArray) (.agg (ek p.1).toArray)).run P w= .ok (decide (x=p.1)) w:=by rw[<-hk.eq];exact h1
  have e:sN ek ev (p::m) k={key:=.agg (ek p.1).toArray,val:=.agg (ev p.2).toArray,born:=k}::sN ek ev m (k+1):=rfl;rw[e];by_cases c:x=p.1
  ·right
   refine⟨p.2,i,by simp[yO,c],?_⟩;rw[Instr.findAsking];simp only[n5,h2,n6];simp[c]
  ·have ih:=MV hk x m (k+1) (i+1);have e2:(Instr.findAsking kt (.agg (ek x).toArray) ({key:=.agg (ek p.1).toArray,val:=.agg (ev p.2).toArray,born:=k}::sN ek ev m (k+1)) i).run P w=(Instr.findAsking kt (.agg (ek x).toArray) (sN ek ev m (k+1)) (i+1)).run P w:=by
    rw[Instr.findAsking];simp[h2,c]
   rw[e2]
   simpa [yO,c]using ih
theorem Kn(hk:MU P kt ek)(x:α)(m:List (α×β)):((yO m x=none/\(Instr.findKey kt (.agg (ek x).toArray) (sN ek ev m 0)).run P w= .ok none w)∨∃v q,yO m x=some v/\(Instr.findKey kt (.agg (ek x).toArray) (sN ek ev m 0)).run P w= .ok (some (q,.agg (ev v).toArray)) w):=by
 have h:=MV (P:=P) (w:=w) (ev:=ev) hk x m 0 0;unfold Instr.findKey;simp only[n5,run_underlying hk.hu,n6];cases m with
 | nil=>left;exact⟨rfl,by simp[sN,Instr.findNow]⟩
 | cons p m =>
  have e:Instr.findNow (.struct (P.fieldsOf kt)) (.agg (ek x).toArray) (sN ek ev (p::m) 0) 0=none:=rfl;rw[e];exact h
theorem Uj(hw:vg o ops a)(hd:o.dst=some d)(hn:Nat.blt d n=true)(hr:cX Df n (lk l j) a)(ho:o.op= .makeMap t none)(ek:α->List Value)(ev:β->List Value)(hF:Fit z (aC L) w)
 (k:∀b w a,Fit z (aC (mapOf ek ev b []::L)) w->cX Df n (lk ((d,.map (some b))::l) j) a->wpList P ops Q rest a w):wpList P ops Q (o::rest) a w:=by
 refine sw hw hd hn hr (w1:=w.alloc (.map #[] 0)) (v:=.map (some w.heap.size)) ?_ λa GK=>k _ _ a (hF.alloc _) GK;unfold execOp;simp[ho,Instr.makeMap,newObj]
 rfl
theorem W9{zc:Array Value}(h:(P.info? et).bind (·.zero)=some (.agg zc)):(zeroValue et).run P w= .ok (.agg zc) w:=by
 cases hi:P.info? et with
 | none=>simp[hi]at h
 | some i =>
  simp[hi]at h;simp[zeroValue,typeInfo,hi,h]
theorem Xa{x y:Operand}{v0:β}(hw:vg o ops a)(hd:o.dst=some d)(hn:Nat.blt d n=true)(hr:cX Df n (lk l j) a)(ho:o.op= .lookup t x y true)(hx:eZ (lk l j) x= .map (some b))(q:α)(hy:eZ (lk l j) y= .agg (ek q).toArray)
 (ht:P.underlying t=some (.map kt et)) (hk:MU P kt ek) (hz:(P.info? et).bind (·.zero)=some (.agg (ev v0).toArray)) (hF:Fit z (aC (mapOf ek ev b m::L)) w)
 (k:∀a,cX Df n (lk ((d,.tuple #[.agg (ev ((yO m q).getD v0)).toArray,.bool (yO m q).isSome])::l) j) a->wpList P ops Q rest a w):wpList P ops Q (o::rest) a w:=by
 refine sw hw hd hn hr (w1:=w) ?_ k;unfold execOp;have hb:(getObj b).run P w= .ok (.map (sN ek ev m 0).toArray m.length) w:=Qb hF.block;have hc:∀em,(Instr.checkKey em 10000 kt (.agg (ek q).toArray)).run P w= .ok () w:=λem=>Ui 9998 hk.hu (hk.hf q q);have hzv:=W9 (P:=P) (w:=w) hz;rcases Kn (P:=P) (w:=w) (ev:=ev) hk q m with ⟨e,h⟩ | ⟨v,i,e,h⟩
 ·simp[ho,hx,hy,Instr.lookup,run_underlying ht,hb,hc,h,e,hzv]
 ·simp[ho,hx,hy,Instr.lookup,run_underlying ht,hb,hc,h,e]
theorem Ko(p:α×β):∀(m:List (α×β)) (k:Nat),sN ek ev (m++[p]) k=sN ek ev m k++[{key:=.agg (ek p.1).toArray,val:=.agg (ev p.2).toArray,born:=k+m.length}]
 | [],k=>rfl
 | q::m,k=>by
  have ih:=Ko p m (k+1);show _::sN ek ev (m++[p]) (k+1)=_::(sN ek ev m (k+1)++_);rw[ih]
  congr 3
  simp;omega
theorem Qn{o o':Obj}(h:Fit w0 (aC (pts b o::L)) w):Fit w0 (aC (pts b o'::L)) {w with heap:=w.heap.setIfInBounds b o' }:=by
 refine h.turn ?_ (λk hk hlt => ?_) rfl rfl rfl (by simp)
 ·simp[h.lt]
 ·show(w.heap.setIfInBounds b o')[k]? = _;rw[Array.getElem?_setIfInBounds_ne I]
theorem Uk{x y v:Operand}(hw:vg o ops a)(hd:o.dst=none)(hr:cX Df n (lk l j) a)(ho:o.op= .mapUpdate t x y v∨o.op= .insert t x y v)(hx:eZ (lk l j) x= .map (some b))(q:α)(r:β)(hy:eZ (lk l j) y= .agg (ek q).toArray)(hv:eZ (lk l j) v= .agg (ev r).toArray)
 (ht:P.underlying t=some (.map kt et)) (hk:MU P kt ek) (hq:yO m q=none) (hF:Fit z (aC (mapOf ek ev b m::L)) w)
 (k:∀w,Fit z (aC (mapOf ek ev b (m++[(q,r)])::L)) w->wpList P ops Q rest a w):wpList P ops Q (o::rest) a w:=by
 have hb:(getObj b).run P w= .ok (.map (sN ek ev m 0).toArray m.length) w:=Qb hF.block;have hc:∀em,(Instr.checkKey em 10000 kt (.agg (ek q).toArray)).run P w= .ok () w:=λem=>Ui 9998 hk.hu (hk.hf q q);have hrun:(Instr.mapUpdate t (.map (some b)) (.agg (ek q).toArray) (.agg (ev r).toArray)).run P w= .ok () {w with heap:=w.heap.setIfInBounds b (.map (sN ek ev (m++[(q,r)]) 0).toArray (m++[(q,r)]).length)}:=by
  rcases Kn (P:=P) (w:=w) (ev:=ev) hk q m with ⟨e,h⟩ | ⟨v,i,e,h⟩
  ·rw[Ko];have hs:∀o',(setObj b o').run P w= .ok () {w with heap:=w.heap.setIfInBounds b o' }:=λo'=>by simp[setObj,Sem.run,hF.block]
   simp[Instr.mapUpdate,run_underlying ht,hb,hc,h,hs]
  ·rw[e]at hq;cases hq
 refine xM hw ?_;unfold Oper.wp;have h2:(execOp (eZ (lk l j)) o).run P w= .ok .skip {w with heap:=w.heap.setIfInBounds b (.map (sN ek ev (m++[(q,r)]) 0).toArray (m++[(q,r)]).length)}:=by
  unfold execOp;rcases ho with ho | ho<;>simp[ho,hx,hy,hv,hrun]
 rw[hr.eval,h2,Oper.upon_skip,hd];exact k _ (Qn hF)
section
variable {ξ γ:Type}
noncomputable def wK(aJ:ξ->γ->Option γ)(s0:γ)(l:List ξ):Option γ:=
 open Classical in if h :∃r,∀l':List ξ,l'.Perm l->l'.foldlM (λs x=>aJ x s) s0=some r then some h.choose else none
theorem DF{aJ:ξ->γ->Option γ}{s0 r:γ}{l l':List ξ}(h:wK aJ s0 l=some r)(p:l'.Perm l):l'.foldlM (λs x=>aJ x s) s0=some r:=by
 unfold wK at h;split at h
 ·rename_i hx;rw[<-Option.some.inj h];exact hx.choose_spec l' p
 ·cases h
theorem MW{aJ:ξ->γ->Option γ}{s0 r:γ}{l:List ξ}(h:∀l':List ξ,l'.Perm l->l'.foldlM (λs x=>aJ x s) s0=some r):wK aJ s0 l=some r:=by
 unfold wK;have hx :∃r,∀l':List ξ,l'.Perm l->l'.foldlM (λs x=>aJ x s) s0=some r:=⟨r,h⟩;rw[dif_pos hx];have e:=hx.choose_spec l (List.Perm.refl l);rw[h l (List.Perm.refl l)]at e;rw[<-Option.some.inj e]
structure Seen(l:List ξ)(aJ:ξ->γ->Option γ)(s0:γ)(seen:Array Nat)(s:γ):Prop where
 nd:seen.toList.Nodup
 lt:∀i∈seen.toList,i<l.length
 fold:(seen.toList.filterMap (λi=>l[i]?)).foldlM (λs x=>aJ x s) s0=some s
theorem Seen.nil{l:List ξ}{aJ:ξ->γ->Option γ}{s0:γ}:Seen l aJ s0 #[] s0:=⟨by simp,by simp,rfl⟩
theorem Kp(l:List ξ):(List.range l.length).filterMap (λi=>l[i]?)=l:=by
 apply zS
 intro i;have h:∀(l:List ξ),(List.range l.length).filterMap (λi=>l[i]?)=l:=by
  intro l
  induction l with
  | nil=>rfl
  | cons x l ih =>
   rw[BG,List.range_succ_eq_map,List.filterMap_cons];simp only[List.getElem?_cons_zero,List.filterMap_map]
   congr 1
 rw[h]
theorem v8{n:Nat}{l:List Nat}(h:l.Nodup)(hlt:∀i∈l,i<n)(z8:∀i,i<n->i∈l):l.Perm (List.range n):=
 (List.perm_ext_iff_of_nodup h List.nodup_range).2 λi=>⟨λhi=>List.mem_range.2 (hlt i hi),λhi=>z8 i (List.mem_range.1 hi)⟩
theorem Seen.done{l:List ξ}{aJ:ξ->γ->Option γ}{s0 s r:γ}{seen:Array Nat}(h:Seen l aJ s0 seen s)(H:wK aJ s0 l=some r)(z8:∀i,i<l.length->i∈seen.toList):s=r:=by
 have p:=(v8 h.nd h.lt z8).filterMap (λi=>l[i]?);rw[Kp]at p;have e:=DF H p;rw[h.fold]at e;exact Option.some.inj e
theorem Seen.push{l:List ξ}{aJ:ξ->γ->Option γ}{s0 s r:γ}{seen:Array Nat}(h:Seen l aJ s0 seen s)(H:wK aJ s0 l=some r){i:Nat}{x:ξ}(hx:l[i]? = some x)(hi:i∉seen.toList) :∃s',aJ x s=some s'/\Seen l aJ s0 (seen.push i) s':=by
 have GJ:i<l.length:=(List.getElem?_eq_some_iff.1 hx).1;have hnd:(seen.toList++[i]).Nodup:=by
  rw[List.nodup_append];exact⟨h.nd,by simp,λa ha b hb=>by simp at hb;subst hb;intro e;subst e;exact hi ha⟩
 have hlt:∀k∈seen.toList++[i],k<l.length:=λk hk=>by
  rcases List.mem_append.1 hk with hk | hk
  ·exact h.lt k hk
  ·simp at hk;omega
 let rest:=(List.range l.length).filter (λk => !(seen.toList++[i]).contains k)
 have p:((seen.toList++[i])++rest).Perm (List.range l.length):=by
  refine v8 ?_ ?_ ?_
  ·rw[List.nodup_append];refine⟨hnd,List.nodup_range.filter _,λa ha b hb => ?_⟩;intro e;subst e;have:=(List.mem_filter.1 hb).2;simp at this ha;rcases ha with ha | ha
   ·exact this.1 ha
   ·exact this.2 ha
  ·intro k hk;rcases List.mem_append.1 hk with hk | hk
   ·exact hlt k hk
   ·exact List.mem_range.1 (List.mem_filter.1 hk).1
  ·intro k hk;by_cases c:k∈seen.toList++[i]
   ·exact List.mem_append.2 (.inl c)
   ·refine List.mem_append.2 (.inr (List.mem_filter.2 ⟨List.mem_range.2 hk,?_⟩))
    simpa using c
 have p2:=p.filterMap (λi=>l[i]?);rw[Kp]at p2;have e:=DF H p2;rw[List.filterMap_append,List.filterMap_append,List.foldlM_append,List.foldlM_append,h.fold]at e;have e1:List.filterMap (λi=>l[i]?) [i]=[x]:=by simp[hx]
 rw[e1]at e;cases hs:aJ x s with
 | none=>simp[hs]at e
 | some s' =>
  refine⟨s',rfl,⟨by simpa using hnd,λk hk=>hlt k (by simpa using hk),?_⟩⟩;rw[Array.toList_push,List.filterMap_append,List.foldlM_append,h.fold,e1];simp[hs]
theorem Seen.size{l:List ξ}{aJ:ξ->γ->Option γ}{s0 s:γ}{seen:Array Nat}(h:Seen l aJ s0 seen s):seen.size<=l.length:=by
 have p:(seen.toList++(List.range l.length).filter (λk => !seen.toList.contains k)).Perm (List.range l.length):=by
  refine v8 ?_ ?_ ?_
  ·rw[List.nodup_append];refine⟨h.nd,List.nodup_range.filter _,λa ha b hb => ?_⟩;intro e;subst e;have:=(List.mem_filter.1 hb).2;simp at this ha;exact this ha
  ·intro k hk;rcases List.mem_append.1 hk with hk | hk
   ·exact h.lt k hk
   ·exact List.mem_range.1 (List.mem_filter.1 hk).1
  ·intro k hk;by_cases c:k∈seen.toList
   ·exact List.mem_append.2 (.inl c)
   ·refine List.mem_append.2 (.inr (List.mem_filter.2 ⟨List.mem_range.2 hk,?_⟩))
    simpa using c
 have h1:=p.length_eq;simp at h1;omega
end
theorem ON{ξ γ:Type}{c:Code}(m:List ξ)(aJ:ξ->γ->Option γ)(s0:γ)(ag3:Array Nat->γ->Act->World->Prop)(h0:ag3 #[] s0 a w)
 (round:∀seen s a w,Seen m aJ s0 seen s->ag3 seen s a w->c.wp P (Exit.then (λa w =>∃i s',Seen m aJ s0 (seen.push i) s'/\ag3 (seen.push i) s' a w) Q) a w):(Code.loop c).wp P Q a w:=by
 refine dz (λx:Array Nat×γ=>m.length-x.1.size) (λx a w=>Seen m aJ s0 x.1 x.2/\ag3 x.1 x.2 a w) (#[],s0) ⟨Seen.nil,h0⟩ ?_
 rintro ⟨seen,s⟩ a w ⟨hs,hI⟩
 refine Code.wp_mono (λe a w q => ?_) (round seen s a w hs hI);cases e with
 | normal =>
  obtain⟨i,s',h1,h2⟩:=q;refine⟨(seen.push i,s'),⟨h1,h2⟩,?_⟩;have:=h1.size;simp at this⊢;omega
 | _=>exact q
def Ij(it b n:Nat)(seen:Array Nat):bj:=pts it (.mapIter (some b) n seen n)
theorem Ul{x:Operand}(hw:vg o ops a)(hd:o.dst=some d)(hn:Nat.blt d n=true)(hr:cX Df n (lk l j) a)(ho:o.op= .range t x)(hx:eZ (lk l j) x= .map (some b))(ht:P.underlying t=some (.map kt et))
 (hF:Fit z (aC (mapOf ek ev b m::L)) w)
 (k:∀it w a,Fit z (aC (Ij it b m.length #[]::mapOf ek ev b m::L)) w->cX Df n (lk ((d,.pointer (some ⟨it,0,none⟩))::l) j) a->wpList P ops Q rest a w):wpList P ops Q (o::rest) a w:=by
 refine sw hw hd hn hr (w1:=w.alloc (.mapIter (some b) m.length #[] m.length)) (v:=.pointer (some ⟨w.heap.size,0,none⟩)) ?_ λa GK=>k _ _ a (hF.alloc _) GK;have h:=run_range_map (P:=P) w t kt et b (sN ek ev m 0).toArray m.length ht hF.block;unfold execOp;simp[ho,hx,h]
theorem EG(m:List (α×β))(k i:Nat):(sN ek ev m k)[i]? = (m[i]?).map λp=>{key:=.agg (ek p.1).toArray,val:=.agg (ev p.2).toArray,born:=k+i}:=by
 unfold sN;rw[List.getElem?_map,List.getElem?_zipIdx];cases m[i]? <;> rfl
theorem MX{m:List (α×β)}{x:MapEntry}(h:x∈sN ek ev m 0) :∃p,m[x.born]? = some p/\x={key:=.agg (ek p.1).toArray,val:=.agg (ev p.2).toArray,born:=x.born}:=by
 obtain⟨i,hi⟩:=List.getElem?_of_mem h;rw[EG]at hi;cases hm:m[i]? with
 | none=>simp[hm]at hi
 | some p =>
  simp[hm]at hi;subst hi;exact⟨p,hm,rfl⟩
theorem Xb{x:Operand}{it n0:Nat}{seen:Array Nat}(hw:vg o ops a)(hd:o.dst=some d)(hn:Nat.blt d n=true)(hr:cX Df n (lk l j) a)(ho:o.op= .next x false)(hx:eZ (lk l j) x= .pointer (some ⟨it,0,none⟩))(Jj:n0=m.length)
 (hF:Fit z (aC (Ij it b n0 seen::mapOf ek ev b m::L)) w)
 (k0:(∀i,i<m.length->i∈seen.toList)->∀a,cX Df n (lk ((d,.tuple #[.bool false])::l) j) a->wpList P ops Q rest a w)
 (k1:∀i x w a,m[i]? = some x->i∉seen.toList->Fit z (aC (Ij it b n0 (seen.push i)::mapOf ek ev b m::L)) w->cX Df n (lk ((d,.tuple #[.bool true,.agg (ek x.1).toArray,.agg (ev x.2).toArray])::l) j) a->wpList P ops Q rest a w):wpList P ops Q (o::rest) a w:=by
 subst Jj;have hb1:(getObj it).run P w= .ok (.mapIter (some b) m.length seen m.length) w:=by simp[getObj,Sem.run,hF.block]
 have hb2:(getObj b).run P w= .ok (.map (sN ek ev m 0).toArray m.length) w:=Qb (hF.pick 1).block;have hold:∀x∈(sN ek ev m 0).toArray.toList,x.born<m.length:=λx hx=>by
  obtain⟨p,hp,_⟩:=MX (by simpa using hx);exact(List.getElem?_eq_some_iff.1 hp).1
 have ach:=next_test_false seen (sN ek ev m 0).toArray m.length m.length hold (jU _);have aeC:∀(w:World) o',w.heap[it]? = some (.mapIter (some b) m.length seen m.length)->(setObj it o').run P w= .ok () {w with heap:=w.heap.setIfInBounds it o' }:=λw o' h=>by simp[setObj,Sem.run,h]
 have hmem:∀x∈(Array.filter (λe => !seen.contains e.born) (sN ek ev m 0).toArray).toList,x.born<m.length:=λx hx=>hold x (by simp at hx⊢;exact hx.1);have hsrc:∀x∈(Array.filter (λe => !seen.contains e.born) (sN ek ev m 0).toArray).toList,∃p,m[x.born]? = some p/\x.born∉seen.toList/\x={key:=.agg (ek p.1).toArray,val:=.agg (ev p.2).toArray,born:=x.born}:=λx hx=>by
  simp at hx;obtain⟨p,h1,h2⟩:=MX hx.1;exact⟨p,h1,by simpa using hx.2,h2⟩
 have z8:(Array.filter (λe => !seen.contains e.born) (sN ek ev m 0).toArray).size=0->∀i,i<m.length->i∈seen.toList:=by
  intro h0 i hi;have h1:Array.filter (λe => !seen.contains e.born) (sN ek ev m 0).toArray=#[]:=Array.eq_empty_of_size_eq_zero h0;rw[Array.filter_eq_empty_iff]at h1;have h2:=h1 {key:=.agg (ek m[i].1).toArray,val:=.agg (ev m[i].2).toArray,born:=i} (by
   have:(sN ek ev m 0)[i]? = some {key:=.agg (ek m[i].1).toArray,val:=.agg (ev m[i].2).toArray,born:=i}:=by rw[EG,List.getElem?_eq_getElem hi];simp
   simpa using List.mem_of_getElem? this)
  simpa using h2
 have hrun:∀ty,(∃i x w1,m[i]? = some x/\i∉seen.toList/\Fit z (aC (Ij it b m.length (seen.push i)::mapOf ek ev b m::L)) w1/\(Instr.next (.pointer (some ⟨it,0,none⟩)) false ty).run P w= .ok (.tuple #[.bool true,.agg (ek x.1).toArray,.agg (ev x.2).toArray]) w1)∨
  ((∀i,i<m.length->i∈seen.toList)/\(Instr.next (.pointer (some ⟨it,0,none⟩)) false ty).run P w= .ok (.tuple #[.bool false]) w):=by
  intro ty;simp only[Instr.next,n5,hb1,hb2,n6,ach,Kc,if_false];generalize Array.filter (λe => !seen.contains e.born) (sN ek ev m 0).toArray=K at hmem hsrc z8⊢;have e1:K.filter (λx=>decide (x.born<m.length))=K:=Array.filter_eq_self.2 (λx hx=>by simpa using hmem x (by simpa using hx));have e2:K.filter (λx=>decide (x.born>=m.length))=#[]:=by
   rw[Array.filter_eq_empty_iff];intro x hx;have:=hmem x (by simpa using hx);simp;omega
  simp only[e1,e2,Array.append_empty];by_cases h0:K.size=0
  ·right
   have h1:K=#[]:=Array.eq_empty_of_size_eq_zero h0;refine⟨z8 h0,?_⟩;subst h1;simp[choose,Sem.run,Question.forced]
  ·left
   have hne:K.isEmpty=false:=by simp[Array.isEmpty,h0]
   simp only[hne,Kc,if_false,Array.empty_append,Array.size_map];have hch :∃(q:Nat) (w1:World),q<K.size/\(w1=w∨w1=w.drew)/\(choose (Question.mapNext K.size)).run P w= .ok q w1:=by
    by_cases hf:K.size<=1
    ·exact⟨0,w,I,.inl rfl,by simp[choose,Sem.run,Question.forced,hf]⟩
    ·exact⟨_,w.drew,Du _ I,.inr rfl,by
      simp only[choose,Sem.run,Question.forced,B5,hf,if_false,Question.cut]
      rfl⟩
   obtain⟨q,w1,hq,hw1,hrun⟩:=hch;obtain⟨p,hp1,hp2,hp3⟩:=hsrc K[q] (by simp);have hF1:Fit z (aC (Ij it b m.length seen::mapOf ek ev b m::L)) w1:=by
    rcases hw1 with rfl | rfl
    ·exact hF
    ·exact hF.drew
   refine⟨K[q].born,p,_,hp1,hp2,Qn (o':=.mapIter (some b) m.length (seen.push K[q].born) m.length) hF1,?_⟩;have hkey:K[q].key= .agg (ek p.1).toArray:=by rw[hp3]
   have hval:K[q].val= .agg (ev p.2).toArray:=by rw[hp3]
   simp only[hrun,Array.getElem?_map,Array.getElem?_eq_getElem hq,vR,n5,aeC w1 _ hF1.block,n6,hkey,hval]
   rfl
 refine xM hw ?_;unfold Oper.wp;rcases hrun o.type with ⟨i,y,w1,h1,h2,h3,h4⟩ | ⟨h1,h4⟩
 ·have h5:(execOp (eZ (lk l j)) o).run P w= .ok (.value (.tuple #[.bool true,.agg (ek y.1).toArray,.agg (ev y.2).toArray])) w1:=by
   unfold execOp;simp[ho,hx,h4]
  rw[hr.eval,h5,Oper.upon_value,hd];exact k1 i y w1 _ h1 h2 h3 (hr.put d _ hn)
 ·have h5:(execOp (eZ (lk l j)) o).run P w= .ok (.value (.tuple #[.bool false])) w:=by
   unfold execOp;simp[ho,hx,h4]
  rw[hr.eval,h5,Oper.upon_value,hd];exact k0 h1 _ (hr.put d _ hn)
theorem Um{x:Operand}{it n0 i:Nat}{seen:Array Nat}{p:α×β}(hw:vg o ops a)(hd:o.dst=some d)(hn:Nat.blt d n=true)(hr:cX Df n (lk l j) a)(ho:o.op= .entry x)(hx:eZ (lk l j) x= .pointer (some ⟨it,0,none⟩))(Jj:n0=m.length)
 (hF:Fit z (aC (Ij it b n0 (seen.push i)::mapOf ek ev b m::L)) w) (hp:m[i]? = some p)
 (k:∀a,cX Df n (lk ((d,.tuple #[.agg (ek p.1).toArray,.agg (ev p.2).toArray])::l) j) a->wpList P ops Q rest a w):wpList P ops Q (o::rest) a w:=by
 subst Jj;have hb1:(getObj it).run P w= .ok (.mapIter (some b) m.length (seen.push i) m.length) w:=by simp[getObj,Sem.run,hF.block]
 have hb2:(getObj b).run P w= .ok (.map (sN ek ev m 0).toArray m.length) w:=Qb (hF.pick 1).block;have hf:(sN ek ev m 0).toArray.find? (·.born==i)=some {key:=.agg (ek p.1).toArray,val:=.agg (ev p.2).toArray,born:=i}:=by
  rw[<-Array.find?_toList,J9];have hmem:{key:=.agg (ek p.1).toArray,val:=.agg (ev p.2).toArray,born:=i}∈sN ek ev m 0:=List.mem_of_getElem? (i:=i) (by rw[EG,hp];simp);have hnd:((sN ek ev m 0).map (·.born)).Nodup:=by
   have e:(sN ek ev m 0).map (·.born)=List.range m.length:=by
    apply zS
    intro k;rw[List.getElem?_map,EG];by_cases c:k<m.length
    ·simp[List.getElem?_eq_getElem c,List.getElem?_range c]
    ·rw[List.getElem?_eq_none I,List.getElem?_eq_none (by simpa using c)];rfl
   rw[e];exact List.nodup_range
  exact find_born _ _ hnd hmem
 refine sw hw hd hn hr (w1:=w) ?_ k;unfold execOp;have h:(Instr.entry (.pointer (some ⟨it,0,none⟩))).run P w= .ok (.tuple #[.agg (ek p.1).toArray,.agg (ev p.2).toArray]) w:=by
  simp only[Instr.entry,n5,hb1,hb2,n6,Array.back?_push,bne_self_eq_false,Kc,if_false,hf]
  rfl
 simp[ho,hx,h]
end
open Go Go.RowKit SL Go.MuLone Go.Conc.Locks
section
variable {P:Program}{ops:Array Oper}{Q:Exit->Act->World->Prop}{a:Act}{w w0 w1 z:World}{rest:List Oper}{o:Oper}{n d t:Nat}{v r u:Value}{l:List (Nat×Value)}{j e:Nat->Value}{L:List bj}{Df:List Deferred}{f:FuncId}{args:Array Value}
theorem Un{q:Deferred}(hw:vg o ops a)(hd:o.dst=none)(hr:cX Df n (lk l j) a)(hrun:(execOp (eZ (lk l j)) o).run P w= .ok (.defer q) w)
 (k:∀a,cX (q::Df) n (lk l j) a->wpList P ops Q rest a w):wpList P ops Q (o::rest) a w:=by
 refine xM hw ?_;unfold Oper.wp;rw[hr.eval,hrun,Oper.upon_defer,hd];exact k _ ⟨hr.size,hr.get,by show _::a.defers=_;rw[hr.defers]⟩
theorem ZT{fn:Func}{c:Code}{R:Ending->World->Prop}(hf:P.funcs[f]? = some fn)(hb:fn.body=some c)(n:Nat)(hn:fn.ntmps=n)(hs:Nat.ble args.size n=true)
 (l:List (Nat×Value)) (hl:allEq (λt=>args.getD t undef) l) (k:∀j a,kX n (lk l j) a->c.wp P (bodyPostD P fn R) a w):Calls P f args w R:=by
 refine calls_of_wp_defers hf hb (k (λt=>args.getD t undef) _ ?_);rw[wJ hl];refine⟨?_,λt=>HU args _ t,rfl⟩;have:=qa hs;simp[hn];omega
end
open Go Go.RowKit SL
section
variable {P:Program}{w w0 w1 z:World}{a:Act}{o:Oper}{n d:Nat}{l:List (Nat×Value)}{j:Nat->Value}{L:List bj}{f:FuncId}{args:Array Value}{Q:Exit->Act->List Frame->World->Prop}{cs cs':List Frame}{Df:List Deferred}
theorem Uo{fn:Func}{c:Code}{u:FrameMode}{R:Ending->FrameMode->World->Prop}(hf:P.funcs[f]? = some fn)(hb:fn.body=some c)(n:Nat)(hn:fn.ntmps=n)(hs:Nat.ble args.size n=true)
 (l:List (Nat×Value)) (hl:allEq (λt=>args.getD t undef) l) (k:∀(c0:Frame) (cs:List Frame) j a,c0.mode=u->kX n (lk l j) a->c.wpS P (bodyPostS P fn c0 cs R) a (c0::cs) w):CallsD P f args u w R:=by
 refine callsD_of_wpS hf hb λc0 cs hu=>k c0 cs (λt=>args.getD t undef) _ hu ?_;rw[wJ hl];refine⟨?_,λt=>HU args _ t,rfl⟩;have:=qa hs;simp[hn];omega
theorem MY(hg:o.guard=none)(y:Nat->Option Bool):Region.wanted o y=true:=by simp[Region.wanted,hg]
theorem YQ{TZ:Nat}{y:Code}{v:Value}(hr:cX Df n (lk l j) a)(hv:recoverD cs=some (v,cs')∨recoverD cs=none/\v= .nilIface/\cs'=cs)(k:∀a,cX Df n (lk ((d,v)::l) j) a->y.wpS P Q a cs' w)
 (hg:o.guard=none) (hd:o.dst=some d) (hn:Nat.blt d n=true) (hrun:(execOp (eZ (lk l j)) o).run P w= .ok .recover w):(Code.seq (.region TZ #[o] false) y).wpS P Q a cs w:=by
 refine wpS_seq (wpS_region ?_);have e:(List.range (#[o]:Array Oper).size)=[0]:=rfl;rw[e];simp only[wpOpsS,List.getElem?_toArray,List.getElem?_cons_zero];rw[MY hg,aP rfl,hr.eval,hrun];simp only;rcases hv with h | ⟨h,rfl,rfl⟩
 ·rw[h];simp only;rw[hd];exact k _ (hr.put d v hn)
 ·rw[h];simp only;rw[hd];exact k _ (hr.put d _ hn)
end
theorem Xc{z w:World}{L:List bj}{b:Nat}{x y k x0 y0 k0:Int}(h:Fit z (aC (pts b (.cells #[Z x0,Z y0,Z k0] 95)::L)) w) :
 CallsD Tryz.prog 113 #[.pointer (some ⟨b,0,none⟩)] (.panicking [{v:=.iface 194 (.agg #[Z x,Z y,Z k]),recovered:=false}]) w λe u' w'=>e= .returned (.tuple #[])/\u'= .panicking [{v:=.iface 194 (.agg #[Z x,Z y,Z k]),recovered:=true}]/\Fit z (aC (pts b (.cells #[Z x,Z y,Z k] 95)::L)) w':=by
 refine Uo func113 rfl 12 rfl rfl [(0,pA b 0)] ⟨rfl,bP⟩ ?_;intro c0 cs j a hm hr;refine YQ (v:=.iface 194 (.agg #[Z x,Z y,Z k])) (cs':={c0 with mode:=.panicking [{v:=.iface 194 (.agg #[Z x,Z y,Z k]),recovered:=true}]}::cs) hr (.inl (by simp[recoverD,hm])) ?_ rfl rfl rfl aZ;clear hr a;intro a hr;refine wpS_of_wp ?_;refine wp_block ?_;refine sr ?_;refine o1 hr (vB false) λa hr => ?_;refine ln ?_;refine jy hr (b:=false) rfl ?_;refine sr ?_;refine oo [7,8,9] [.tuple #[.agg #[Z x,Z y,Z k],vB true],vB true,.agg #[Z x,Z y,Z k]] hr λa hr => ?_;refine ln ?_;refine gQ hr (b:=true) rfl ?_;refine sr ?_;refine ZQ (wn rfl) hr h nb (#[Z 0,Z 0,Z 0]) 194 λb2 w a h hr => ?_;refine W2 (wn rfl) hr h 0 ([Z x,Z y,Z k]) (pts b2 (.cells #[Z x,Z y,Z k] 194)) λw h => ?_;refine ln ?_;refine wp_region_lit ?_;refine o1 hr (pA b2 0) λa hr => ?_;refine ldm (wn rfl) hr (.agg #[Z x,Z y,Z k]) (cs:=[Z x,Z y,Z k]) (h.held 0 rfl) λa hr => ?_;replace h:=h.m1;refine W2 (wn rfl) hr h 0 ([Z x,Z y,Z k]) (pts b (.cells #[Z x,Z y,Z k] 95)) λw h => ?_;refine wpList_nil ?_;refine HQ ?_;exact⟨hr.defers,_,rfl,_,results_none rfl _ _ _,rfl,rfl,h.se 2 [0]⟩
theorem Xd{w:World}{b:Nat} :
 CallsD Tryz.prog 113 #[.pointer (some ⟨b,0,none⟩)] .returning w λe u' w'=>e= .returned (.tuple #[])/\u'= .returning/\w'=w:=by
 refine Uo func113 rfl 12 rfl rfl [(0,pA b 0)] ⟨rfl,bP⟩ ?_;intro c0 cs j a hm hr;refine YQ (v:=.nilIface) (cs':=c0::cs) hr (.inr ⟨by simp[recoverD,hm],rfl,rfl⟩) ?_ rfl rfl rfl aZ;clear hr a;intro a hr;refine wpS_of_wp ?_;refine wp_block ?_;refine sr ?_;refine o1 hr (vB true) λa hr => ?_;refine ln ?_;refine gQ hr (b:=true) rfl ?_;refine wp_region_lit ?_;refine o1 hr (.nilIface) λa hr => ?_;refine wpList_nil ?_;refine HQ ?_;refine⟨hr.defers,c0.mode,rfl,_,results_none rfl _ _ _,rfl,hm,rfl⟩
section
variable {P:Program}{w z:World}{a:Act}{n:Nat}{e:Nat->Value}{Df:List Deferred}{L:List bj}
theorem aci{fn:Func}{t T b off:Nat}{cs:List Value}(hres:fn.results=#[.cell t T])(hr:cX Df n e a)(hv:e t= .pointer (some ⟨b,off,none⟩))(hu:uN (P.underlying T)=true)
 (hs:(P.info? T).map (·.size)=some cs.length) (hc:rB w b off cs):(results fn a.tmps).run P w= .ok (.agg cs.toArray) w:=by
 have hl:=run_loadCells_list (P:=P) w ⟨b,off,none⟩ cs (v5 hc);cases hi:P.info? T with
 | none=>simp[hi]at hs
 | some q =>
  simp[hi]at hs;have hg:=hr.get t;rw[hv,wI]at hg;simp[results,hres,hg,asAddr,loadVar,ur hu,sizeOf,typeInfo,hi,hs,hl]
abbrev MZ(b:Nat):Deferred:={target:=.fn (.func 113) #[.pointer (some ⟨b,0,none⟩)],args:=#[]}
theorem Qo{b:Nat}{w:World}:(invoke (.fn (.func 113) #[.pointer (some ⟨b,0,none⟩)]) #[]).run Tryz.prog w= .ok (.enter 113 #[.pointer (some ⟨b,0,none⟩)]) w:=by kernel_rfl
theorem AK{fn:Func}{R:Ending->World->Prop}{b t:Nat}{x y k:Int}(hr:cX [MZ b] n e a)(hres:fn.results=#[.cell t 95])(hv:e t= .pointer (some ⟨b,0,none⟩))(h:Fit z (aC (pts b (.cells #[Z x,Z y,Z k] 95)::L)) w)
 (K:R (.returned (.agg #[Z x,Z y,Z k])) w):bodyPostD Tryz.prog fn R .ret a w:=by
 show Leaves Tryz.prog fn a.tmps R a.defers .returning w;rw[hr.defers];refine leaves_cons (by simp) Qo ?_;refine Xd.mono ?_
 rintro e u' w' ⟨rfl,rfl,rfl⟩
 exact⟨_,aci hres hr hv aZ aZ (h.held 0 (xs:=[Z x,Z y,Z k]) rfl),K⟩
theorem Ik{fn:Func}{R:Ending->World->Prop}{b t:Nat}{x y k x0 y0 k0:Int}(hr:cX [MZ b] n e a)(hres:fn.results=#[.cell t 95])(hv:e t= .pointer (some ⟨b,0,none⟩))(h:Fit z (aC (pts b (.cells #[Z x0,Z y0,Z k0] 95)::L)) w)
 (K:∀w,Fit z (aC (pts b (.cells #[Z x,Z y,Z k] 95)::L)) w->R (.returned (.agg #[Z x,Z y,Z k])) w):bodyPostD Tryz.prog fn R (.panic [{v:=.iface 194 (.agg #[Z x,Z y,Z k]),recovered:=false}]) a w:=by
 show Leaves Tryz.prog fn a.tmps R a.defers (.panicking [{v:=.iface 194 (.agg #[Z x,Z y,Z k]),recovered:=false}]) w;rw[hr.defers];refine leaves_cons (by simp) Qo ?_;refine(Xc h).mono ?_
 rintro e u' w' ⟨rfl,rfl,h⟩
 exact⟨_,aci hres hr hv aZ aZ (h.held 0 (xs:=[Z x,Z y,Z k]) rfl),K _ h⟩
end
def dn(o:Oper):Nat:=o.dst.getD 0
def DX(o:Oper)(n:Nat):Bool:=match o.dst with | some d=>o.guard.isNone&&Nat.blt d n | none=>false
def okg(o:Oper)(n:Nat):Bool:=match o.dst with | some d=>Nat.blt d n | none=>false
theorem Qp{o:Oper}{n:Nat}(h:okg o n=true):o.dst=some (dn o)/\Nat.blt (dn o) n=true:=by
 unfold okg at h;unfold dn;cases hd:o.dst with
 | none=>rw[hd]at h;cases h
 | some d=>rw[hd]at h;exact⟨rfl,h⟩
theorem jz{o:Oper}{n:Nat}(h:DX o n=true):(o.dst=some (dn o)/\Nat.blt (dn o) n=true)/\o.guard=none:=by
 unfold DX at h;unfold dn;cases hd:o.dst with
 | none=>rw[hd]at h;cases h
 | some d =>
  rw[hd]at h;simp only[mR]at h;refine⟨⟨rfl,h.2⟩,?_⟩;cases hg:o.guard with
  | none=>rfl
  | some g=>rw[hg]at h;simp at h
def Xe:Nat->List Value->List (Nat×Value)
 | _,[]=>[]
 | k,v::vs=>(k,v)::Xe (k+1) vs
theorem Qq(f:Nat->Value):∀(vs:List Value) (k:Nat),(∀i,i<vs.length->f (k+i)=vs.getD i undef)->allEq f (Xe k vs)
 | [],_,_=>trivial
 | v::vs,k,h=>⟨by have:=h 0 (by simp);simpa using this,Qq f vs (k+1) λi hi=>by
  have:=h (i+1) (by simpa using hi);rw[show k+(i+1)=k+1+i by omega]at this
  simpa using this⟩
section
variable {P:Program}{ops:Array Oper}{Q:Exit->Act->World->Prop}{a:Act}{w w0 w1:World}{rest:List Oper}{o:Oper}{n d t T:Nat}{v u:Value}{l:List (Nat×Value)}{j e:Nat->Value}{L:List bj}{Df:List Deferred}
theorem qe{f:FuncId}{fn:Func}{c:Code}{args:Array Value}{R:Ending->World->Prop}(hf:P.funcs[f]? = some fn)(n:Nat)(hb:fn.body=some c)
 (k:∀j a,kX n (lk (Xe 0 args.toList) j) a->c.wp P (bodyPost P fn R) a w) (hn:fn.ntmps=n:=by rfl) (hs:Nat.ble args.size n=true:=by rfl):Calls P f args w R:=
 enter hf hb n hn hs _ (Qq _ _ 0 λi hi=>by simp[wI,List.getD_eq_getElem?_getD]) k
theorem qo(hr:cX Df n (lk l j) a)(v:Value)(k:∀a,cX Df n (lk ((dn o,v)::l) j) a->wpList P ops Q rest a w)(ho:DX o n=true:=by rfl)(hrun:(execOp (eZ (lk l j)) o).run P w= .ok (.value v) w:=by kernel_rfl):wpList P ops Q (o::rest) a w:=
 AE (wn (jz ho).2) (jz ho).1.1 (jz ho).1.2 hr hrun k
theorem qp(hr:cX Df n (lk l j) a)(v:Value)(hrun:(execOp (eZ (lk l j)) o).run P w= .ok (.value v) w)(k:∀a,cX Df n (lk ((dn o,v)::l) j) a->wpList P ops Q rest a w)(ho:DX o n=true:=by rfl):wpList P ops Q (o::rest) a w:=
 AE (wn (jz ho).2) (jz ho).1.1 (jz ho).1.2 hr hrun k
theorem qpg(hw:vg o ops a)(hr:cX Df n (lk l j) a)(v:Value)(hrun:(execOp (eZ (lk l j)) o).run P w= .ok (.value v) w)(k:∀a,cX Df n (lk ((dn o,v)::l) j) a->wpList P ops Q rest a w)(ho:okg o n=true:=by rfl):wpList P ops Q (o::rest) a w:=
 AE hw (Qp ho).1 (Qp ho).2 hr hrun k
theorem qT{b:Bool}{c x y:Operand}(hb:b=true)(hr:cX Df n (lk l j) a)(v:Value)(k:∀a,cX Df n (lk ((dn o,v)::l) j) a->wpList P ops Q rest a w)(ho:DX o n=true:=by rfl)(h1:o.op= .pick c x y:=by rfl)(h2:eZ (lk l j) c= .bool b:=by kernel_rfl)(h3:eZ (lk l j) x=v:=by kernel_rfl):wpList P ops Q (o::rest) a w:=
 qp hr v (Fx h1 h2 hb h3) k ho
theorem qF{b:Bool}{c x y:Operand}(hb:b=false)(hr:cX Df n (lk l j) a)(v:Value)(k:∀a,cX Df n (lk ((dn o,v)::l) j) a->wpList P ops Q rest a w)(ho:DX o n=true:=by rfl)(h1:o.op= .pick c x y:=by rfl)(h2:eZ (lk l j) c= .bool b:=by kernel_rfl)(h3:eZ (lk l j) y=v:=by kernel_rfl):wpList P ops Q (o::rest) a w:=
 qp hr v (GL h1 h2 hb h3) k ho
theorem getD_some{cs:Array Value}{i:Nat}(h:Nat.blt i cs.size=true):cs[i]? = some (cs.getD i undef):=by
 have h':i<cs.size:=qa h;simp[wI,h']
theorem qL{b:Nat}{cs:Array Value}{T':TypeId}{q:Nat×Nat}{x:Operand}(hr:cX Df n (lk l j) a)(hF:Fit w0 (aC (pts b (.cells cs T' q)::L)) w)(i:Nat)(k:∀a,cX Df n (lk ((dn o,cs.getD i undef)::l) j) a->wpList P ops Q rest a w)
 (h1:DX o n=true:=by rfl) (hi:Nat.blt i cs.size=true:=by rfl) (ho:o.op= .load T x:=by rfl) (hx:eZ (lk l j) x= .pointer (some ⟨b,i,none⟩):=by kernel_rfl) (hu:yn (P.underlying T)=true:=by kernel_rfl):wpList P ops Q (o::rest) a w:=
 qp hr _ (rl ho hx hu (hF.cell i (getD_some hi))) k h1
theorem qLg{b:Nat}{cs:Array Value}{T':TypeId}{q:Nat×Nat}{x:Operand}(hw:vg o ops a)(hr:cX Df n (lk l j) a)(hF:Fit w0 (aC (pts b (.cells cs T' q)::L)) w)(i:Nat)(k:∀a,cX Df n (lk ((dn o,cs.getD i undef)::l) j) a->wpList P ops Q rest a w)
 (h1:okg o n=true:=by rfl) (hi:Nat.blt i cs.size=true:=by rfl) (ho:o.op= .load T x:=by rfl) (hx:eZ (lk l j) x= .pointer (some ⟨b,i,none⟩):=by kernel_rfl) (hu:yn (P.underlying T)=true:=by kernel_rfl):wpList P ops Q (o::rest) a w:=
 qpg hw hr _ (rl ho hx hu (hF.cell i (getD_some hi))) k h1
theorem M0{cs:Array Value}:(cs.toList.drop 0).take cs.toList.length=cs.toList:=by rw[og];exact List.take_length
theorem qM{b:Nat}{cs:Array Value}{T':TypeId}{q:Nat×Nat}{x:Operand}(hr:cX Df n (lk l j) a)(hF:Fit w0 (aC (pts b (.cells cs T' q)::L)) w)(k:∀a,cX Df n (lk ((dn o,.agg cs)::l) j) a->wpList P ops Q rest a w)
 (h1:DX o n=true:=by rfl) (ho:o.op= .load T x:=by rfl) (hx:eZ (lk l j) x= .pointer (some ⟨b,0,none⟩):=by kernel_rfl) (hu:uN (P.underlying T)=true:=by kernel_rfl) (hs:(P.info? T).map (·.size)=some cs.size:=by kernel_rfl):wpList P ops Q (o::rest) a w:=
 qp hr _ (by have:=rlm (P:=P) (o:=o) (e:=lk l j) ho hx hu (by rw[vl];exact hs) (hF.held 0 M0);simpa using this) k h1
theorem qN(hr:cX Df n (lk l j) a)(hF:Fit w0 (aC L) w)(cs:Array Value)(T:TypeId)
 (k:∀b w1 a,Fit w0 (aC (pts b (.cells cs T)::L)) w1->cX Df n (lk ((dn o,pA b 0)::l) j) a->wpList P ops Q rest a w1) (h1:DX o n=true:=by rfl) (hrun:(execOp (eZ (lk l j)) o).run P w= .ok (.value (pA w.heap.size 0)) (w.alloc (.cells cs T)):=by kernel_rfl):wpList P ops Q (o::rest) a w:=
 OB (vf:=λb=>pA b 0) (wn (jz h1).2) (jz h1).1.1 (jz h1).1.2 hr hF hrun k
theorem qV(hr:cX Df n (lk l j) a)(hF:Fit w0 (aC L) w)(cs:Array Value)(T:TypeId)
 (k:∀b w1 a,Fit w0 (aC (pts b (.cells cs T)::L)) w1->cX Df n (lk ((dn o,.slice (some ⟨b,0,none⟩) 1 1)::l) j) a->wpList P ops Q rest a w1) (h1:DX o n=true:=by rfl) (hrun:(execOp (eZ (lk l j)) o).run P w= .ok (.value (.slice (some ⟨w.heap.size,0,none⟩) 1 1)) (w.alloc (.cells cs T)):=by kernel_rfl):wpList P ops Q (o::rest) a w:=
 OB (vf:=λb=>.slice (some ⟨b,0,none⟩) 1 1) (wn (jz h1).2) (jz h1).1.1 (jz h1).1.2 hr hF hrun k
theorem qS{x y:Operand}{b:Nat}{cs:Array Value}{T':TypeId}(hr:cX Df n (lk l j) a)(hF:Fit w0 (aC (pts b (.cells cs T')::L)) w)(i:Nat)(A:bj)
 (k:∀w1,Fit w0 (aC (A::L)) w1->wpList P ops Q rest a w1) (hg:o.guard=none:=by rfl) (hd:o.dst=none:=by rfl) (ho:o.op= .store T x y:=by rfl) (hx:eZ (lk l j) x= .pointer (some ⟨b,i,none⟩):=by kernel_rfl)
 (hv:(eZ (lk l j) y).cells=#[eZ (lk l j) y]:=by kernel_rfl) (h1:(eZ (lk l j) y).oneCell'=true:=by kernel_rfl) (hs:(P.info? T).map (·.size)=some 1:=by kernel_rfl) (hc:(cs[i]?).isSome=true:=by kernel_rfl) (hA:pts b (.cells (cs.setIfInBounds i (eZ (lk l j) y)) T')=A:=by kernel_rfl):wpList P ops Q (o::rest) a w:=
 st1 (wn hg) hr hF i _ A k hd ho hx rfl hv h1 hs hc hA
theorem qA{x y:Operand}{b:Nat}{cs cs':Array Value}{T':TypeId}(hr:cX Df n (lk l j) a)(hF:Fit w0 (aC (pts b (.cells cs T')::L)) w)(A:bj)
 (k:∀w1,Fit w0 (aC (A::L)) w1->wpList P ops Q rest a w1) (hA:pts b (.cells cs' T')=A:=by rfl) (hg:o.guard=none:=by rfl) (hd:o.dst=none:=by rfl) (ho:o.op= .store T x y:=by rfl) (hx:eZ (lk l j) x= .pointer (some ⟨b,0,none⟩):=by kernel_rfl) (hy:eZ (lk l j) y= .agg cs':=by kernel_rfl)
 (h1:cs'.toList.all (·.oneCell')=true:=by rfl) (h2:cs'.size=cs.size:=by rfl) (hs:(P.info? T).map (·.size)=some cs'.size:=by kernel_rfl):wpList P ops Q (o::rest) a w:=by
 refine W2 (wn hg) hr hF 0 cs'.toList A k hd ho hx (by simpa using hy) h1 (by simp[h2]) (by simpa using hs) ?_;subst hA;have:cs.toList.drop (0+cs'.toList.length)=[]:=by simp[h2]
 rw[this];simp
theorem qi{x y:Operand}{i:Int}{α:Type}{E:TypeId}{sz m cc:Nat}{enc:α->List Value}{xs:List α}{ca:fP}(hr:cX Df n (lk l j) a)(hF:Fit w0 (aC (rowOf E sz enc (.slice ca m cc) xs::L)) w)(hi:bI i xs.length)
 (k:∀a,cX Df n (lk ((dn o,pA (dQ ca) (i.toNat*sz))::l) j) a->wpList P ops Q rest a w) (h1:DX o n=true:=by rfl) (ho:o.op= .indexAddr t x y:=by rfl) (hx:eZ (lk l j) x= .slice ca m cc:=by kernel_rfl) (hy:eZ (lk l j) y= .int .i64 i:=by kernel_rfl)
 (ht:P.underlying t=some (.slice E):=by kernel_rfl) (hs:(P.info? E).map (·.size)=some sz:=by kernel_rfl):wpList P ops Q (o::rest) a w:=qp hr _ (AH ho hx hy ht hs hF hi) k h1
theorem qj{x y:Operand}{i:Int}{α:Type}[Inhabited α]{sz:Nat}{enc:α->List Value}{xs:List α}{va:fP}{L:List bj}(E:TypeId)(cc:Nat)(hr:cX Df n (lk l j) a)(hF:bJ L sz enc va xs)(hi:bI i xs.length)
 (k:∀a,cX Df n (lk ((dn o,pA (dQ va) (jl va+i.toNat*sz))::l) j) a->wpList P ops Q rest a w) (h1:DX o n=true:=by rfl) (ho:o.op= .indexAddr t x y:=by rfl) (hx:eZ (lk l j) x= .slice va xs.length cc:=by kernel_rfl) (hy:eZ (lk l j) y= .int .i64 i:=by kernel_rfl)
 (ht:P.underlying t=some (.slice E):=by kernel_rfl) (hs:(P.info? E).map (·.size)=some sz:=by kernel_rfl):wpList P ops Q (o::rest) a w:=qp hr _ (YI ho hx hy rfl ht hs hF hi) k h1
section
variable {fn:Func}{R:Ending->World->Prop}
theorem qC{t T b:Nat}{cs:Array Value}{T':TypeId}{q:Nat×Nat}(hr:kX n e a)(hF:Fit w0 (aC (pts b (.cells cs T' q)::L)) w)(h:R (.returned (.agg cs)) w)(hres:fn.results=#[.cell t T]:=by rfl)(hv:e t= .pointer (some ⟨b,0,none⟩):=by kernel_rfl)(hu:uN (P.underlying T)=true:=by kernel_rfl)
 (hs:(P.info? T).map (·.size)=some cs.size:=by kernel_rfl):bodyPost P fn R .ret a w:=
 TP (cs:=cs.toList) hres hr hv hu (by simpa using hs) (hF.held 0 M0) (by simpa using h)
theorem qn(hr:kX n e a)(h:R (.returned (.tuple #[])) w)(hres:fn.results=#[]:=by rfl):bodyPost P fn R .normal a w:=qm hres hr h
end
end
theorem nT{b:Bool}(h:b=true):(!b)=false:=by rw[h];rfl
theorem nF{b:Bool}(h:¬b=true):(!b)=true:=by cases b<;>first | rfl | exact absurd rfl h
theorem dT{p:Prop}[Decidable p](h:p):decide p=true:=tY h
theorem dF{p:Prop}[Decidable p](h:¬p):decide p=false:=HI h
theorem bN{α:Type}[DecidableEq α]{a b:α}(h:¬a=b):(a==b)=false:=beq_eq_false_iff_ne.mpr h
section
variable {ag2:Prop}
theorem qh{A:Prop}(x:A)(k:A->ag2):ag2:=k x
theorem qg{γ:Type}{p:Prop}[Decidable p]{x:Option γ}{r:γ}(h:(if p then x else none)=some r)(k:p->x=some r->ag2):ag2:=k (gd h).1 (gd h).2
theorem qI{γ:Type}{p:Prop}[Decidable p]{x y:Option γ}{r:γ}(h:(if p then x else y)=some r)(k1:p->x=some r->ag2)(k2:¬p->y=some r->ag2):ag2:=by
 by_cases c:p
 ·exact k1 c (ifT c h)
 ·exact k2 c (ifF c h)
theorem ZU{γ:Type}{o:Option (Unit)}{f:Option γ}{r:γ}(h:OC o f=some r)(k:o=some ()->f=some r->ag2):ag2:=by
 obtain⟨e,h⟩:=bd0 h;exact k e h
theorem qd0{γ:Type}{o:Option (Unit)}{f:Option γ}{r:γ}(h:OC o f=some r)(k:∀o',o=some o'->kc0 o' f r->ag2):ag2:=by
 obtain⟨_,e,h⟩:=kd0 h;exact k _ e h
theorem gf{dN:Type}{γ:Type}{o:Option (dN)}{f:dN->Option γ}{r:γ}(h:ei o f=some r)(k:∀x0,o=some x0->f x0=some r->ag2):ag2:=by
 obtain⟨x0,e,h⟩:=bd1 h;exact k _ e h
theorem El{dN:Type}{γ:Type}{o:Option (dN)}{f:dN->Option γ}{r:γ}(h:ei o f=some r)(k:∀o',o=some o'->kc1 o' f r->ag2):ag2:=by
 obtain⟨_,e,h⟩:=kd1 h;exact k _ e h
theorem xB{dN eW:Type}{γ:Type}{o:Option (dN×eW)}{f:dN->eW->Option γ}{r:γ}(h:tN o f=some r)(k:∀x0 x1,o=some (x0,x1)->f x0 x1=some r->ag2):ag2:=by
 obtain⟨x0,x1,e,h⟩:=bd2 h;exact k _ _ e h
theorem qd2{dN eW:Type}{γ:Type}{o:Option (dN×eW)}{f:dN->eW->Option γ}{r:γ}(h:tN o f=some r)(k:∀o',o=some o'->kc2 o' f r->ag2):ag2:=by
 obtain⟨_,e,h⟩:=kd2 h;exact k _ e h
theorem uI{dN eW gb:Type}{γ:Type}{o:Option (dN×eW×gb)}{f:dN->eW->gb->Option γ}{r:γ}(h:qd o f=some r)(k:∀x0 x1 x2,o=some (x0,x1,x2)->f x0 x1 x2=some r->ag2):ag2:=by
 obtain⟨x0,x1,x2,e,h⟩:=bd3 h;exact k _ _ _ e h
theorem qd3{dN eW gb:Type}{γ:Type}{o:Option (dN×eW×gb)}{f:dN->eW->gb->Option γ}{r:γ}(h:qd o f=some r)(k:∀o',o=some o'->kc3 o' f r->ag2):ag2:=by
 obtain⟨_,e,h⟩:=kd3 h;exact k _ e h
theorem OO{dN eW gb hM:Type}{γ:Type}{o:Option (dN×eW×gb×hM)}{f:dN->eW->gb->hM->Option γ}{r:γ}(h:Jk o f=some r)(k:∀x0 x1 x2 x3,o=some (x0,x1,x2,x3)->f x0 x1 x2 x3=some r->ag2):ag2:=by
 obtain⟨x0,x1,x2,x3,e,h⟩:=bd4 h;exact k _ _ _ _ e h
theorem qb5{dN eW gb hM iW:Type}{γ:Type}{o:Option (dN×eW×gb×hM×iW)}{f:dN->eW->gb->hM->iW->Option γ}{r:γ}(h:ob5 o f=some r)(k:∀x0 x1 x2 x3 x4,o=some (x0,x1,x2,x3,x4)->f x0 x1 x2 x3 x4=some r->ag2):ag2:=by
 obtain⟨x0,x1,x2,x3,x4,e,h⟩:=bd5 h;exact k _ _ _ _ _ e h
end
abbrev KK(D:List Deferred)(n:Nat)(l:List (Nat×Value))(j:Nat->Value)(X:Act->World->Prop)(w:World):Prop:=∀a,cX D n (lk l j) a->X a w
abbrev U:Value:=.complex .f32 0 0
def sel(v x:Value):Value:=match v with | .complex _ _ _=>x | v=>v
def av(P:Program)(o:Oper)(e:Nat->Value):Value:=match (execOp (eZ e) o).run P default with | .ok (.value v) _=>v | _=>U
def adA(P:Program)(j:Nat->Value):List Oper->List Value->List (Nat×Value)->List (Nat×Value)
 | o::os,v::vs,l=>adA P j os vs ((dn o,sel v (av P o (lk l j)))::l)
 | _,_,l=>l
def ZV(P:Program)(n:Nat)(j:Nat->Value)(w:World):List Oper->List Value->List (Nat×Value)->List (Bool×Result Next)
 | o::os,v::vs,l=>(DX o n,(execOp (eZ (lk l j)) o).run P w)::ZV P n j w os vs ((dn o,sel v (av P o (lk l j)))::l)
 | [],_::_,_=>[(false,.ok .skip w)]
 | _,[],_=>[]
def ZW(P:Program)(j:Nat->Value)(w:World):List Oper->List Value->List (Nat×Value)->List (Bool×Result Next)
 | o::os,v::vs,l=>(true,.ok (.value (sel v (av P o (lk l j)))) w)::ZW P j w os vs ((dn o,sel v (av P o (lk l j)))::l)
 | [],_::_,_=>[(true,.ok .skip w)]
 | _,[],_=>[]
def gx(ops:Array Oper)(n:Nat)(e:Nat->Value)(o:Oper):Option (Bool×Option (Bool×Value)):=o.guard.map (λg=>(g.2,((ops[g.1]?).bind (·.dst)).map λt=>(Nat.blt t n,e t)))
section
variable {P:Program}{ops:Array Oper}{Q:Exit->Act->World->Prop}{a:Act}{w w0 w1:World}{rest:List Oper}{o:Oper}{n d t T:Nat}{v u:Value}{l:List (Nat×Value)}{j e:Nat->Value}{L:List bj}{Df:List Deferred}{X:Act->World->Prop}
theorem qq(hr:cX Df n (lk l j) a)(k:KK Df n l j X w):X a w:=k a hr
theorem kwg{x c:Bool}(hr:cX Df n (lk l j) a)(pf:x=c)(hg:gx ops n (lk l j) o=some (c,some (true,.bool x))):Region.wanted o (yielded ops a.tmps)=true:=by
 rw[wgx (i:=0) hr pf hg];cases c<;>rfl
theorem ke{f:FuncId}{fn:Func}{c:Code}{args:Array Value}{R:Ending->World->Prop}(hf:P.funcs[f]? = some fn)(n:Nat)(hb:fn.body=some c)
 (k:∀j,KK [] n (Xe 0 args.toList) j (c.wp P (bodyPost P fn R)) w) (hn:fn.ntmps=n:=by rfl) (hs:Nat.ble args.size n=true:=by rfl):Calls P f args w R:=qe hf n hb (λj a r=>k j a r) hn hs
theorem ks{TZ:Nat}{y:Code}{os:List Oper}(h:KK Df n l j (wpList P os.toArray (Exit.then (y.wp P Q) Q) os) w):KK Df n l j ((Code.seq (.region TZ os.toArray false) y).wp P Q) w:=λa r=>sr (h a r)
theorem G{K:Act->World->Prop}(h:KK Df n l j K w):KK Df n l j (wpList P ops (Exit.then K Q) []) w:=λa r=>ln (h a r)
theorem wq{x y:Code}(h:KK Df n l j (x.wp P (Exit.then (y.wp P Q) Q)) w):KK Df n l j ((Code.seq x y).wp P Q) w:=λa r=>wp_seq (h a r)
theorem wl{TZ:Nat}{os:List Oper}(h:KK Df n l j (wpList P os.toArray Q os) w):KK Df n l j ((Code.region TZ os.toArray false).wp P Q) w:=λa r=>wp_region_lit (h a r)
theorem wk(h:KK Df n l j (Q .normal) w):KK Df n l j (Code.skip.wp P Q) w:=λa r=>wp_skip (h a r)
theorem wr(h:KK Df n l j (Q .ret) w):KK Df n l j (Code.ret.wp P Q) w:=λa r=>wp_ret (h a r)
theorem wx{i:Nat}(h:KK Df n l j (Q (.exit i)) w):KK Df n l j ((Code.exit i).wp P Q) w:=λa r=>wp_exit (h a r)
theorem wb{i:Nat}{c:Code}(h:KK Df n l j (c.wp P (Exit.inBlock i Q)) w):KK Df n l j ((Code.block i c).wp P Q) w:=λa r=>wp_block (h a r)
theorem tn{K:Act->World->Prop}(h:KK Df n l j K w):KK Df n l j (Exit.then K Q .normal) w:=h
theorem tr{K:Act->World->Prop}(h:KK Df n l j (Q .ret) w):KK Df n l j (Exit.then K Q .ret) w:=h
theorem te{K:Act->World->Prop}{i:Nat}(h:KK Df n l j (Q (.exit i)) w):KK Df n l j (Exit.then K Q (.exit i)) w:=h
theorem bn{i:Nat}(h:KK Df n l j (Q .normal) w):KK Df n l j (Exit.inBlock i Q .normal) w:=h
theorem br{i:Nat}(h:KK Df n l j (Q .ret) w):KK Df n l j (Exit.inBlock i Q .ret) w:=h
theorem bh{i:Nat}(h:KK Df n l j (Q .normal) w):KK Df n l j (Exit.inBlock i Q (.exit i)) w:=λa r=>TN (h a r)
theorem kl(h:KK Df n l j (Q .normal) w):KK Df n l j (wpList P ops Q []) w:=λa r=>wpList_nil (h a r)
theorem ko:∀(vs:List Value) {os:List Oper} {l:List (Nat×Value)} (k:KK Df n (adA P j os vs l) j (wpList P ops Q (os.drop vs.length)) w) (hrun:ZV P n j w os vs l=ZW P j w os vs l:=by kernel_rfl),KK Df n l j (wpList P ops Q os) w
 | [],os,l,k,_=>by cases os<;>exact k
 | v::vs,[],l,k,hrun=>by simp[ZV,ZW]at hrun
 | v::vs,o::os,l,k,hrun=>by
  simp only[ZV,ZW,List.cons.injEq,Prod.mk.injEq]at hrun;obtain⟨⟨h1,h2⟩,h3⟩:=hrun;exact λa hr=>qo hr _ (λa hr=>ko vs k h3 a hr) h1 h2
theorem kp(v:Value)(hrun:(execOp (eZ (lk l j)) o).run P w= .ok (.value v) w)(k:KK Df n ((dn o,v)::l) j (wpList P ops Q rest) w)(ho:DX o n=true:=by rfl):KK Df n l j (wpList P ops Q (o::rest)) w:=λa hr=>qp hr v hrun k ho
theorem oN{b:Bool}(hb:b=true)(v:Value)(k:KK Df n ((dn o,v)::l) j (wpList P ops Q rest) w){c x y:Operand}(ho:DX o n=true:=by rfl)(h1:o.op= .pick c x y:=by rfl)(h2:eZ (lk l j) c= .bool b:=by kernel_rfl)(h3:eZ (lk l j) x=v:=by kernel_rfl):KK Df n l j (wpList P ops Q (o::rest)) w:=λa hr=>qT hb hr v k ho h1 h2 h3
theorem oC{b:Bool}(hb:b=false)(v:Value)(k:KK Df n ((dn o,v)::l) j (wpList P ops Q rest) w){c x y:Operand}(ho:DX o n=true:=by rfl)(h1:o.op= .pick c x y:=by rfl)(h2:eZ (lk l j) c= .bool b:=by kernel_rfl)(h3:eZ (lk l j) y=v:=by kernel_rfl):KK Df n l j (wpList P ops Q (o::rest)) w:=λa hr=>qF hb hr v k ho h1 h2 h3
theorem kL{b:Nat}{cs:Array Value}{T':TypeId}{q:Nat×Nat}{x:Operand}(hF:Fit w0 (aC (pts b (.cells cs T' q)::L)) w)(i:Nat)(k:KK Df n ((dn o,cs.getD i undef)::l) j (wpList P ops Q rest) w)
 (h1:DX o n=true:=by rfl) (hi:Nat.blt i cs.size=true:=by rfl) (ho:o.op= .load T x:=by rfl) (hx:eZ (lk l j) x= .pointer (some ⟨b,i,none⟩):=by kernel_rfl) (hu:yn (P.underlying T)=true:=by kernel_rfl):KK Df n l j (wpList P ops Q (o::rest)) w:=λa hr=>qL hr hF i k h1 hi ho hx hu
theorem vM{c' x':Bool}{b:Nat}{cs:Array Value}{T':TypeId}{q:Nat×Nat}{x:Operand}(pf:x'=c')(hF:Fit w0 (aC (pts b (.cells cs T' q)::L)) w)(i:Nat)(k:KK Df n ((dn o,cs.getD i undef)::l) j (wpList P ops Q rest) w)
 (hg:gx ops n (lk l j) o=some (c',some (true,.bool x')):=by kernel_rfl) (h1:okg o n=true:=by rfl) (hi:Nat.blt i cs.size=true:=by rfl) (ho:o.op= .load T x:=by rfl) (hx:eZ (lk l j) x= .pointer (some ⟨b,i,none⟩):=by kernel_rfl) (hu:yn (P.underlying T)=true:=by kernel_rfl):KK Df n l j (wpList P ops Q (o::rest)) w:=λa hr=>qLg (kwg hr pf hg) hr hF i k h1 hi ho hx hu
theorem kM{b:Nat}{cs:Array Value}{T':TypeId}{q:Nat×Nat}{x:Operand}(hF:Fit w0 (aC (pts b (.cells cs T' q)::L)) w)(k:KK Df n ((dn o,.agg cs)::l) j (wpList P ops Q rest) w)
 (h1:DX o n=true:=by rfl) (ho:o.op= .load T x:=by rfl) (hx:eZ (lk l j) x= .pointer (some ⟨b,0,none⟩):=by kernel_rfl) (hu:uN (P.underlying T)=true:=by kernel_rfl) (hs:(P.info? T).map (·.size)=some cs.size:=by kernel_rfl):KK Df n l j (wpList P ops Q (o::rest)) w:=λa hr=>qM hr hF k h1 ho hx hu hs
theorem kN(hF:Fit w0 (aC L) w)(cs:Array Value)(T:TypeId)
 (k:∀b w1,Fit w0 (aC (pts b (.cells cs T)::L)) w1->KK Df n ((dn o,pA b 0)::l) j (wpList P ops Q rest) w1) (h1:DX o n=true:=by rfl) (hrun:(execOp (eZ (lk l j)) o).run P w= .ok (.value (pA w.heap.size 0)) (w.alloc (.cells cs T)):=by kernel_rfl):KK Df n l j (wpList P ops Q (o::rest)) w:=λa hr=>qN hr hF cs T (λb w a h r=>k b w h a r) h1 hrun
theorem kV(hF:Fit w0 (aC L) w)(cs:Array Value)(T:TypeId)
 (k:∀b w1,Fit w0 (aC (pts b (.cells cs T)::L)) w1->KK Df n ((dn o,.slice (some ⟨b,0,none⟩) 1 1)::l) j (wpList P ops Q rest) w1) (h1:DX o n=true:=by rfl) (hrun:(execOp (eZ (lk l j)) o).run P w= .ok (.value (.slice (some ⟨w.heap.size,0,none⟩) 1 1)) (w.alloc (.cells cs T)):=by kernel_rfl):KK Df n l j (wpList P ops Q (o::rest)) w:=λa hr=>qV hr hF cs T (λb w a h r=>k b w h a r) h1 hrun
theorem kS{x y:Operand}{b:Nat}{cs:Array Value}{T':TypeId}(hF:Fit w0 (aC (pts b (.cells cs T')::L)) w)(i:Nat)(A:bj)
 (k:∀w1,Fit w0 (aC (A::L)) w1->KK Df n l j (wpList P ops Q rest) w1) (hg:o.guard=none:=by rfl) (hd:o.dst=none:=by rfl) (ho:o.op= .store T x y:=by rfl) (hx:eZ (lk l j) x= .pointer (some ⟨b,i,none⟩):=by kernel_rfl)
 (hv:(eZ (lk l j) y).cells=#[eZ (lk l j) y]:=by kernel_rfl) (h1:(eZ (lk l j) y).oneCell'=true:=by kernel_rfl) (hs:(P.info? T).map (·.size)=some 1:=by kernel_rfl) (hc:(cs[i]?).isSome=true:=by kernel_rfl) (hA:pts b (.cells (cs.setIfInBounds i (eZ (lk l j) y)) T')=A:=by kernel_rfl):KK Df n l j (wpList P ops Q (o::rest)) w:=λa hr=>qS hr hF i A (λw h=>k w h a hr) hg hd ho hx hv h1 hs hc hA
theorem kA{x y:Operand}{b:Nat}{cs cs':Array Value}{T':TypeId}(hF:Fit w0 (aC (pts b (.cells cs T')::L)) w)(A:bj)
 (k:∀w1,Fit w0 (aC (A::L)) w1->KK Df n l j (wpList P ops Q rest) w1) (hA:pts b (.cells cs' T')=A:=by rfl) (hg:o.guard=none:=by rfl) (hd:o.dst=none:=by rfl) (ho:o.op= .store T x y:=by rfl) (hx:eZ (lk l j) x= .pointer (some ⟨b,0,none⟩):=by kernel_rfl) (hy:eZ (lk l j) y= .agg cs':=by kernel_rfl)
 (h1:cs'.toList.all (·.oneCell')=true:=by rfl) (h2:cs'.size=cs.size:=by rfl) (hs:(P.info? T).map (·.size)=some cs'.size:=by kernel_rfl):KK Df n l j (wpList P ops Q (o::rest)) w:=λa hr=>qA hr hF A (λw h=>k w h a hr) hA hg hd ho hx hy h1 h2 hs
theorem ki{x y:Operand}{i:Int}{α:Type}{E:TypeId}{sz m cc:Nat}{enc:α->List Value}{xs:List α}{ca:fP}(hF:Fit w0 (aC (rowOf E sz enc (.slice ca m cc) xs::L)) w)(hi:bI i xs.length)
 (k:KK Df n ((dn o,pA (dQ ca) (i.toNat*sz))::l) j (wpList P ops Q rest) w) (h1:DX o n=true:=by rfl) (ho:o.op= .indexAddr t x y:=by rfl) (hx:eZ (lk l j) x= .slice ca m cc:=by kernel_rfl) (hy:eZ (lk l j) y= .int .i64 i:=by kernel_rfl)
 (ht:P.underlying t=some (.slice E):=by kernel_rfl) (hs:(P.info? E).map (·.size)=some sz:=by kernel_rfl):KK Df n l j (wpList P ops Q (o::rest)) w:=λa hr=>qi hr hF hi k h1 ho hx hy ht hs
theorem kj{x y:Operand}{i:Int}{α:Type}[Inhabited α]{sz:Nat}{enc:α->List Value}{xs:List α}{va:fP}{L:List bj}(E:TypeId)(cc:Nat)(hF:bJ L sz enc va xs)(hi:bI i xs.length)
 (k:KK Df n ((dn o,pA (dQ va) (jl va+i.toNat*sz))::l) j (wpList P ops Q rest) w) (h1:DX o n=true:=by rfl) (ho:o.op= .indexAddr t x y:=by rfl) (hx:eZ (lk l j) x= .slice va xs.length cc:=by kernel_rfl) (hy:eZ (lk l j) y= .int .i64 i:=by kernel_rfl)
 (ht:P.underlying t=some (.slice E):=by kernel_rfl) (hs:(P.info? E).map (·.size)=some sz:=by kernel_rfl):KK Df n l j (wpList P ops Q (o::rest)) w:=λa hr=>qj E cc hr hF hi k h1 ho hx hy ht hs
theorem dg{x c:Bool}(pf:x=c)(ds:List Nat)(vs:List Value){os:List Oper}(k:KK Df n (TW ds vs l) j (wpList P ops Q (os.drop ds.length)) w)
 (hl:ds.length=vs.length/\ds.all (λd=>Nat.blt d n)=true:=by exact⟨rfl,rfl⟩) (hrun:T5 P ops n (os.take ds.length) vs l j w=MQ x c ds vs w:=by kernel_rfl):KK Df n l j (wpList P ops Q os) w:=λa hr=>onl pf ds vs hr k hl hrun
theorem cx{x c:Bool}(pf:x=c)(ds:List Nat){os:List Oper}(k:KK Df n (T6 ds l) j (wpList P ops Q (os.drop ds.length)) w)
 (hl:ds.all (λd=>Nat.blt d n)=true:=by rfl) (hrun:K0 ops n (os.take ds.length) l j=EC (!c) (.bool x) ds:=by kernel_rfl):KK Df n l j (wpList P ops Q os) w:=λa hr=>ace pf ds hr k hl hrun
theorem M1(b:Bool)(ds:List Nat){os:List Oper}(k:KK Df n (T6 ds l) j (wpList P ops Q (os.drop ds.length)) w)
 (hl:ds.all (λd=>Nat.blt d n)=true:=by rfl) (hrun:K0 ops n (os.take ds.length) l j=EC b undef ds:=by kernel_rfl):KK Df n l j (wpList P ops Q os) w:=λa hr=>acf b ds hr k hl hrun
section
variable {β:Type}{p:Prop}[Decidable p]{X ag0 r:Option β}{c:Operand}{x y:Code}
theorem dW(H:(if p then X else ag0)=r)(k1:p->X=r->KK Df n l j (x.wp P Q) w)(k2:¬p->ag0=r->KK Df n l j (y.wp P Q) w)(hc:eZ (lk l j) c= .bool (decide p):=by kernel_rfl):KK Df n l j ((Code.cond c x y).wp P Q) w:=λa hr=>cD hr H (λc h=>k1 c h a hr) (λc h=>k2 c h a hr) hc
theorem rD(H:(if p then X else ag0)=r)(k1:p->X=r->KK Df n l j (y.wp P Q) w)(k2:¬p->ag0=r->KK Df n l j (x.wp P Q) w)(hc:eZ (lk l j) c= .bool (!decide p):=by kernel_rfl):KK Df n l j ((Code.cond c x y).wp P Q) w:=λa hr=>cN hr H (λc h=>k1 c h a hr) (λc h=>k2 c h a hr) hc
theorem Em{b:Bool}(H:(if b=true then X else ag0)=r)(k1:b=true->X=r->KK Df n l j (x.wp P Q) w)(k2:¬b=true->ag0=r->KK Df n l j (y.wp P Q) w)(hc:eZ (lk l j) c= .bool b:=by kernel_rfl):KK Df n l j ((Code.cond c x y).wp P Q) w:=λa hr=>cV hr H (λc h=>k1 c h a hr) (λc h=>k2 c h a hr) hc
theorem FD{b:Bool}(H:(if b=true then X else ag0)=r)(k1:b=true->X=r->KK Df n l j (y.wp P Q) w)(k2:¬b=true->ag0=r->KK Df n l j (x.wp P Q) w)(hc:eZ (lk l j) c= .bool (!b):=by kernel_rfl):KK Df n l j ((Code.cond c x y).wp P Q) w:=λa hr=>cM hr H (λc h=>k1 c h a hr) (λc h=>k2 c h a hr) hc
end
section
variable {f:FuncId}{args:Array Value}{fn:Func}
theorem fh{V:Value}{ag2:World->Prop}(hc:Calls P f args w λe w=>e= .returned V/\ag2 w)(k:∀w,ag2 w->KK Df n ((dn o,V)::l) j (wpList P ops Q rest) w)(h1:DX o n=true:=by rfl)(hrun:(execOp (eZ (lk l j)) o).run P w= .ok (.enter f args) w:=by kernel_rfl):KK Df n l j (wpList P ops Q (o::rest)) w:=λa hr =>
 uF (wn (jz h1).2) (jz h1).1.1 (jz h1).1.2 hr hrun hc λe w h=>by obtain⟨rfl,h⟩:=h;exact⟨_,rfl,k w h⟩
theorem xg0{V:Value}{ag2:World->Prop}{x c:Bool}(pf:x=c)(hc:Calls P f args w λe w=>e= .returned V/\ag2 w)(k:∀w,ag2 w->KK Df n ((dn o,V)::l) j (wpList P ops Q rest) w)(h1:okg o n=true:=by rfl)(hg:gx ops n (lk l j) o=some (c,some (true,.bool x)):=by kernel_rfl)(hrun:(execOp (eZ (lk l j)) o).run P w= .ok (.enter f args) w:=by kernel_rfl):KK Df n l j (wpList P ops Q (o::rest)) w:=λa hr =>
 uF (kwg hr pf hg) (Qp h1).1 (Qp h1).2 hr hrun hc λe w h=>by obtain⟨rfl,h⟩:=h;exact⟨_,rfl,k w h⟩
theorem Il{V:Value}{ag2:World->Prop}(h:ag2 w)(hres:fn.results=#[]:=by rfl)(hv: .tuple #[]=V:=by kernel_rfl):KK [] n l j (bodyPost P fn (λe w=>e= .returned V/\ag2 w) .normal) w:=λa hr =>
 qm hres hr ⟨by rw[hv],h⟩
theorem gj{V:Value}{ag2:World->Prop}{t0:Nat}(h:ag2 w)(hres:fn.results=#[.tmp t0]:=by rfl)(hv:lk l j t0=V:=by kernel_rfl):KK [] n l j (bodyPost P fn (λe w=>e= .returned V/\ag2 w) .ret) w:=λa hr =>
 zW hres hr rfl ⟨by rw[hv],h⟩
theorem Mb{V:Value}{ag2:World->Prop}{t0 t1:Nat}(h:ag2 w)(hres:fn.results=#[.tmp t0,.tmp t1]:=by rfl)(hv: .tuple #[lk l j t0,lk l j t1]=V:=by kernel_rfl):KK [] n l j (bodyPost P fn (λe w=>e= .returned V/\ag2 w) .ret) w:=λa hr =>
 Ew hres hr rfl rfl ⟨by rw[hv],h⟩
theorem xc1{vr:Type}{V:vr->Value}{ag2:vr->World->Prop}(hc:Calls P f args w λe w =>∃x0,e= .returned (V x0)/\ag2 x0 w)(k:∀x0 w,ag2 x0 w->KK Df n ((dn o,(V x0))::l) j (wpList P ops Q rest) w)(h1:DX o n=true:=by rfl)(hrun:(execOp (eZ (lk l j)) o).run P w= .ok (.enter f args) w:=by kernel_rfl):KK Df n l j (wpList P ops Q (o::rest)) w:=λa hr =>
 uF (wn (jz h1).2) (jz h1).1.1 (jz h1).1.2 hr hrun hc λe w h=>by obtain⟨x0,rfl,h⟩:=h;exact⟨_,rfl,k _ w h⟩
theorem xy1{vr:Type}{V:vr->Value}{ag2:vr->World->Prop}{t0:Nat}(x0:vr)(h:ag2 x0 w)(hres:fn.results=#[.tmp t0]:=by rfl)(hv:lk l j t0=V x0:=by kernel_rfl):KK [] n l j (bodyPost P fn (λe w =>∃x0,e= .returned (V x0)/\ag2 x0 w) .ret) w:=λa hr =>
 zW hres hr rfl ⟨x0,by rw[hv],h⟩
theorem Up{vr xd:Type}{V:vr->xd->Value}{ag2:vr->xd->World->Prop}(hc:Calls P f args w λe w =>∃x0,∃x1,e= .returned (V x0 x1)/\ag2 x0 x1 w)(k:∀x0 x1 w,ag2 x0 x1 w->KK Df n ((dn o,(V x0 x1))::l) j (wpList P ops Q rest) w)(h1:DX o n=true:=by rfl)(hrun:(execOp (eZ (lk l j)) o).run P w= .ok (.enter f args) w:=by kernel_rfl):KK Df n l j (wpList P ops Q (o::rest)) w:=λa hr =>
 uF (wn (jz h1).2) (jz h1).1.1 (jz h1).1.2 hr hrun hc λe w h=>by obtain⟨x0,x1,rfl,h⟩:=h;exact⟨_,rfl,k _ _ w h⟩
theorem xy2{vr xd:Type}{V:vr->xd->Value}{ag2:vr->xd->World->Prop}{t0:Nat}(x0:vr)(x1:xd)(h:ag2 x0 x1 w)(hres:fn.results=#[.tmp t0]:=by rfl)(hv:lk l j t0=V x0 x1:=by kernel_rfl):KK [] n l j (bodyPost P fn (λe w =>∃x0,∃x1,e= .returned (V x0 x1)/\ag2 x0 x1 w) .ret) w:=λa hr =>
 zW hres hr rfl ⟨x0,x1,by rw[hv],h⟩
theorem xz2{vr xd:Type}{V:vr->xd->Value}{ag2:vr->xd->World->Prop}{t0 t1:Nat}(x0:vr)(x1:xd)(h:ag2 x0 x1 w)(hres:fn.results=#[.tmp t0,.tmp t1]:=by rfl)(hv: .tuple #[lk l j t0,lk l j t1]=V x0 x1:=by kernel_rfl):KK [] n l j (bodyPost P fn (λe w =>∃x0,∃x1,e= .returned (V x0 x1)/\ag2 x0 x1 w) .ret) w:=λa hr =>
 Ew hres hr rfl rfl ⟨x0,x1,by rw[hv],h⟩
theorem xw2{vr xd:Type}{V:vr->xd->Value}{ag2:vr->xd->World->Prop}{t0 t1 t2:Nat}(x0:vr)(x1:xd)(h:ag2 x0 x1 w)(hres:fn.results=#[.tmp t0,.tmp t1,.tmp t2]:=by rfl)(hv: .tuple #[lk l j t0,lk l j t1,lk l j t2]=V x0 x1:=by kernel_rfl):KK [] n l j (bodyPost P fn (λe w =>∃x0,∃x1,e= .returned (V x0 x1)/\ag2 x0 x1 w) .ret) w:=λa hr =>
 HZ hres hr rfl rfl rfl ⟨x0,x1,by rw[hv],h⟩
theorem xc3{vr xd BH:Type}{V:vr->xd->BH->Value}{ag2:vr->xd->BH->World->Prop}(hc:Calls P f args w λe w =>∃x0,∃x1,∃x2,e= .returned (V x0 x1 x2)/\ag2 x0 x1 x2 w)(k:∀x0 x1 x2 w,ag2 x0 x1 x2 w->KK Df n ((dn o,(V x0 x1 x2))::l) j (wpList P ops Q rest) w)(h1:DX o n=true:=by rfl)(hrun:(execOp (eZ (lk l j)) o).run P w= .ok (.enter f args) w:=by kernel_rfl):KK Df n l j (wpList P ops Q (o::rest)) w:=λa hr =>
 uF (wn (jz h1).2) (jz h1).1.1 (jz h1).1.2 hr hrun hc λe w h=>by obtain⟨x0,x1,x2,rfl,h⟩:=h;exact⟨_,rfl,k _ _ _ w h⟩
theorem xw3{vr xd BH:Type}{V:vr->xd->BH->Value}{ag2:vr->xd->BH->World->Prop}{t0 t1 t2:Nat}(x0:vr)(x1:xd)(x2:BH)(h:ag2 x0 x1 x2 w)(hres:fn.results=#[.tmp t0,.tmp t1,.tmp t2]:=by rfl)(hv: .tuple #[lk l j t0,lk l j t1,lk l j t2]=V x0 x1 x2:=by kernel_rfl):KK [] n l j (bodyPost P fn (λe w =>∃x0,∃x1,∃x2,e= .returned (V x0 x1 x2)/\ag2 x0 x1 x2 w) .ret) w:=λa hr =>
 HZ hres hr rfl rfl rfl ⟨x0,x1,x2,by rw[hv],h⟩
theorem lQ{vr xd BH En:Type}{V:vr->xd->BH->En->Value}{ag2:vr->xd->BH->En->World->Prop}(hc:Calls P f args w λe w =>∃x0,∃x1,∃x2,∃x3,e= .returned (V x0 x1 x2 x3)/\ag2 x0 x1 x2 x3 w)(k:∀x0 x1 x2 x3 w,ag2 x0 x1 x2 x3 w->KK Df n ((dn o,(V x0 x1 x2 x3))::l) j (wpList P ops Q rest) w)(h1:DX o n=true:=by rfl)(hrun:(execOp (eZ (lk l j)) o).run P w= .ok (.enter f args) w:=by kernel_rfl):KK Df n l j (wpList P ops Q (o::rest)) w:=λa hr =>
 uF (wn (jz h1).2) (jz h1).1.1 (jz h1).1.2 hr hrun hc λe w h=>by obtain⟨x0,x1,x2,x3,rfl,h⟩:=h;exact⟨_,rfl,k _ _ _ _ w h⟩
theorem xv4{vr xd BH En:Type}{V:vr->xd->BH->En->Value}{ag2:vr->xd->BH->En->World->Prop}(x0:vr)(x1:xd)(x2:BH)(x3:En)(h:ag2 x0 x1 x2 x3 w)(hres:fn.results=#[]:=by rfl)(hv: .tuple #[]=V x0 x1 x2 x3:=by kernel_rfl):KK [] n l j (bodyPost P fn (λe w =>∃x0,∃x1,∃x2,∃x3,e= .returned (V x0 x1 x2 x3)/\ag2 x0 x1 x2 x3 w) .normal) w:=λa hr =>
 qm hres hr ⟨x0,x1,x2,x3,by rw[hv],h⟩
theorem Jl{vr xd BH En:Type}{V:vr->xd->BH->En->Value}{ag2:vr->xd->BH->En->World->Prop}{t0:Nat}(x0:vr)(x1:xd)(x2:BH)(x3:En)(h:ag2 x0 x1 x2 x3 w)(hres:fn.results=#[.tmp t0]:=by rfl)(hv:lk l j t0=V x0 x1 x2 x3:=by kernel_rfl):KK [] n l j (bodyPost P fn (λe w =>∃x0,∃x1,∃x2,∃x3,e= .returned (V x0 x1 x2 x3)/\ag2 x0 x1 x2 x3 w) .ret) w:=λa hr =>
 zW hres hr rfl ⟨x0,x1,x2,x3,by rw[hv],h⟩
theorem BU{vr xd BH En:Type}{V:vr->xd->BH->En->Value}{ag2:vr->xd->BH->En->World->Prop}{t0 t1:Nat}(x0:vr)(x1:xd)(x2:BH)(x3:En)(h:ag2 x0 x1 x2 x3 w)(hres:fn.results=#[.tmp t0,.tmp t1]:=by rfl)(hv: .tuple #[lk l j t0,lk l j t1]=V x0 x1 x2 x3:=by kernel_rfl):KK [] n l j (bodyPost P fn (λe w =>∃x0,∃x1,∃x2,∃x3,e= .returned (V x0 x1 x2 x3)/\ag2 x0 x1 x2 x3 w) .ret) w:=λa hr =>
 Ew hres hr rfl rfl ⟨x0,x1,x2,x3,by rw[hv],h⟩
theorem xc5{vr xd BH En OP:Type}{V:vr->xd->BH->En->OP->Value}{ag2:vr->xd->BH->En->OP->World->Prop}(hc:Calls P f args w λe w =>∃x0,∃x1,∃x2,∃x3,∃x4,e= .returned (V x0 x1 x2 x3 x4)/\ag2 x0 x1 x2 x3 x4 w)(k:∀x0 x1 x2 x3 x4 w,ag2 x0 x1 x2 x3 x4 w->KK Df n ((dn o,(V x0 x1 x2 x3 x4))::l) j (wpList P ops Q rest) w)(h1:DX o n=true:=by rfl)(hrun:(execOp (eZ (lk l j)) o).run P w= .ok (.enter f args) w:=by kernel_rfl):KK Df n l j (wpList P ops Q (o::rest)) w:=λa hr =>
 uF (wn (jz h1).2) (jz h1).1.1 (jz h1).1.2 hr hrun hc λe w h=>by obtain⟨x0,x1,x2,x3,x4,rfl,h⟩:=h;exact⟨_,rfl,k _ _ _ _ _ w h⟩
theorem xc6{vr xd BH En OP Ts:Type}{V:vr->xd->BH->En->OP->Ts->Value}{ag2:vr->xd->BH->En->OP->Ts->World->Prop}(hc:Calls P f args w λe w =>∃x0,∃x1,∃x2,∃x3,∃x4,∃x5,e= .returned (V x0 x1 x2 x3 x4 x5)/\ag2 x0 x1 x2 x3 x4 x5 w)(k:∀x0 x1 x2 x3 x4 x5 w,ag2 x0 x1 x2 x3 x4 x5 w->KK Df n ((dn o,(V x0 x1 x2 x3 x4 x5))::l) j (wpList P ops Q rest) w)(h1:DX o n=true:=by rfl)(hrun:(execOp (eZ (lk l j)) o).run P w= .ok (.enter f args) w:=by kernel_rfl):KK Df n l j (wpList P ops Q (o::rest)) w:=λa hr =>
 uF (wn (jz h1).2) (jz h1).1.1 (jz h1).1.2 hr hrun hc λe w h=>by obtain⟨x0,x1,x2,x3,x4,x5,rfl,h⟩:=h;exact⟨_,rfl,k _ _ _ _ _ _ w h⟩
theorem xy6{vr xd BH En OP Ts:Type}{V:vr->xd->BH->En->OP->Ts->Value}{ag2:vr->xd->BH->En->OP->Ts->World->Prop}{t0:Nat}(x0:vr)(x1:xd)(x2:BH)(x3:En)(x4:OP)(x5:Ts)(h:ag2 x0 x1 x2 x3 x4 x5 w)(hres:fn.results=#[.tmp t0]:=by rfl)(hv:lk l j t0=V x0 x1 x2 x3 x4 x5:=by kernel_rfl):KK [] n l j (bodyPost P fn (λe w =>∃x0,∃x1,∃x2,∃x3,∃x4,∃x5,e= .returned (V x0 x1 x2 x3 x4 x5)/\ag2 x0 x1 x2 x3 x4 x5 w) .ret) w:=λa hr =>
 zW hres hr rfl ⟨x0,x1,x2,x3,x4,x5,by rw[hv],h⟩
theorem xc7{vr xd BH En OP Ts β6:Type}{V:vr->xd->BH->En->OP->Ts->β6->Value}{ag2:vr->xd->BH->En->OP->Ts->β6->World->Prop}(hc:Calls P f args w λe w =>∃x0,∃x1,∃x2,∃x3,∃x4,∃x5,∃x6,e= .returned (V x0 x1 x2 x3 x4 x5 x6)/\ag2 x0 x1 x2 x3 x4 x5 x6 w)(k:∀x0 x1 x2 x3 x4 x5 x6 w,ag2 x0 x1 x2 x3 x4 x5 x6 w->KK Df n ((dn o,(V x0 x1 x2 x3 x4 x5 x6))::l) j (wpList P ops Q rest) w)(h1:DX o n=true:=by rfl)(hrun:(execOp (eZ (lk l j)) o).run P w= .ok (.enter f args) w:=by kernel_rfl):KK Df n l j (wpList P ops Q (o::rest)) w:=λa hr =>
 uF (wn (jz h1).2) (jz h1).1.1 (jz h1).1.2 hr hrun hc λe w h=>by obtain⟨x0,x1,x2,x3,x4,x5,x6,rfl,h⟩:=h;exact⟨_,rfl,k _ _ _ _ _ _ _ w h⟩
theorem xc8{vr xd BH En OP Ts β6 β7:Type}{V:vr->xd->BH->En->OP->Ts->β6->β7->Value}{ag2:vr->xd->BH->En->OP->Ts->β6->β7->World->Prop}(hc:Calls P f args w λe w =>∃x0,∃x1,∃x2,∃x3,∃x4,∃x5,∃x6,∃x7,e= .returned (V x0 x1 x2 x3 x4 x5 x6 x7)/\ag2 x0 x1 x2 x3 x4 x5 x6 x7 w)(k:∀x0 x1 x2 x3 x4 x5 x6 x7 w,ag2 x0 x1 x2 x3 x4 x5 x6 x7 w->KK Df n ((dn o,(V x0 x1 x2 x3 x4 x5 x6 x7))::l) j (wpList P ops Q rest) w)(h1:DX o n=true:=by rfl)(hrun:(execOp (eZ (lk l j)) o).run P w= .ok (.enter f args) w:=by kernel_rfl):KK Df n l j (wpList P ops Q (o::rest)) w:=λa hr =>
 uF (wn (jz h1).2) (jz h1).1.1 (jz h1).1.2 hr hrun hc λe w h=>by obtain⟨x0,x1,x2,x3,x4,x5,x6,x7,rfl,h⟩:=h;exact⟨_,rfl,k _ _ _ _ _ _ _ _ w h⟩
theorem kC{t T b:Nat}{R:Ending->World->Prop}{cs:Array Value}{T':TypeId}{q:Nat×Nat}(hF:Fit w0 (aC (pts b (.cells cs T' q)::L)) w)(h:R (.returned (.agg cs)) w)(hres:fn.results=#[.cell t T]:=by rfl)(hv:lk l j t= .pointer (some ⟨b,0,none⟩):=by kernel_rfl)(hu:uN (P.underlying T)=true:=by kernel_rfl)
 (hs:(P.info? T).map (·.size)=some cs.size:=by kernel_rfl):KK [] n l j (bodyPost P fn R .ret) w:=λa hr=>qC hr hF h hres hv hu hs
end
section
variable {E:List Nat}{D:List (Nat×Nat×List Value)}{N:Nat}{aR:Array Bool}
theorem mz[hp:PI Q](hd:HL D w)(f:Nat)(is:List (Nat×Nat×Value))(k:KK Df n (T4 is l) j (eX P .any ops Q (HL D) E f (T3 is aR)) w)
 (hN:f+is.length=N:=by rfl) (hB:okE ops E n is aR=true:=by kernel_rfl) (hrun:∀w,KZ P ops is l j w=EB is w:=by intro w;kernel_rfl):KK Df n l j (eX P .any ops Q (HL D) E N aR) w:=λa hr=>aev hd f is hr k hN hB hrun
theorem kx[hp:PI Q](hd:HL D w)(q f i:Nat){b off:Nat}{x:Operand}(hi:ops[i]? = some o)(hq:D[q]? = some (b,off,[v]))
 (k:KK Df n ((dn o,v)::l) j (eX P .any ops Q (HL D) E f (aR.setIfInBounds i true)) w) (hg:o.guard=none:=by rfl) (hB:(okB ops E aR i&&DC .any ops E aR i)=true:=by kernel_rfl)
 (ho:o.op= .load T x:=by rfl) (hx:eZ (lk l j) x= .pointer (some ⟨b,off,none⟩):=by kernel_rfl) (hu:yn (P.underlying T)=true:=by kernel_rfl) (h1:o.dst=some (dn o):=by rfl) (hn:Nat.blt (dn o) n=true:=by rfl):KK Df n l j (eX P .any ops Q (HL D) E (f+1) aR) w:=λa hr =>
 W1 hd q f i hr (wn hg) hi hq k hB ho hx hu h1 hn
theorem xP[hp:PI Q](hd:HL D w)(q f i:Nat){b off:Nat}{cs:List Value}{x:Operand}(hi:ops[i]? = some o)(hq:D[q]? = some (b,off,cs))
 (k:KK Df n ((dn o,.agg cs.toArray)::l) j (eX P .any ops Q (HL D) E f (aR.setIfInBounds i true)) w) (hg:o.guard=none:=by rfl) (hB:(okB ops E aR i&&DC .any ops E aR i)=true:=by kernel_rfl)
 (ho:o.op= .load T x:=by rfl) (hx:eZ (lk l j) x= .pointer (some ⟨b,off,none⟩):=by kernel_rfl) (hu:uN (P.underlying T)=true:=by kernel_rfl) (hs:(P.info? T).map (·.size)=some cs.length:=by kernel_rfl) (h1:o.dst=some (dn o):=by rfl) (hn:Nat.blt (dn o) n=true:=by rfl):KK Df n l j (eX P .any ops Q (HL D) E (f+1) aR) w:=λa hr =>
 elm hd q f i hr (wn hg) hi hq k hB ho hx hu hs h1 hn
end
end
end GX
end
section
namespace SL
open Go Go.RowKit
def DY{α:Type}(e:TypeId)(sz:Nat)(enc:α->List Value)(v:Value)(l:List α):bj:=λh =>
 (v= .slice none 0 0/\l=[]/\h=Hp.none)∨
 ∃g off cap k cur,v= .slice (some ⟨g,off,none⟩) l.length cap/\l.length<=cap/\(0<cap->off=k*sz)/\k+cap<=maxLen/\cur.size=(k+cap)*sz/\(cur.toList.drop (k*sz)).take (l.length*sz)=l.flatMap enc/\pts g (.cells cur e) h
section
variable {w0 w:World}{L:List bj}{α:Type}{e:TypeId}{sz:Nat}{enc:α->List Value}{v:Value}{l:List α}{ca:fP}{n cc:Nat}
theorem Fit.M2(h:Fit w0 (aC (DY e sz enc v l::L)) w):(v= .slice none 0 0/\l=[]/\Fit w0 (aC L) w)∨
 ∃g off cap k cur,v= .slice (some ⟨g,off,none⟩) l.length cap/\l.length<=cap/\(0<cap->off=k*sz)/\k+cap<=maxLen/\cur.size=(k+cap)*sz/\(cur.toList.drop (k*sz)).take (l.length*sz)=l.flatMap enc/\Fit w0 (aC (pts g (.cells cur e)::L)) w:=by
 obtain⟨x,hx,a,c,hd,ee,hp,q⟩:=h.sat;rcases hp with ⟨h1,h2,h3⟩ | ⟨g,off,cap,k,cur,h1,h2,h3,h4,h5,h6,h7⟩
 ·left
  exact⟨h1,h2,h.drop⟩
 ·right
  exact⟨g,off,cap,k,cur,h1,h2,h3,h4,h5,h6,⟨x,hx,a,c,hd,ee,h7,q⟩,h.os,h.tape,h.output,h.size⟩
theorem Fit.Qr(h:Fit w0 (aC (rowOf e sz enc v l::L)) w):Fit w0 (aC (DY e sz enc v l::L)) w:=
 h.head λ_ hx=>by
  rcases hx with h | ⟨g,cap,cur,h1,h2,h3,h4,h5,h6⟩
  ·exact .inl h
  ·exact .inr ⟨g,0,cap,0,cur,h1,h2,λ_=>by simp,I,by simpa using h4,by simpa using h5,h6⟩
theorem Fit.Uq(h:Fit w0 (aC (DY e sz enc (.slice ca n cc) l::L)) w):n=l.length:=by
 rcases h.M2 with ⟨h1,h2,_⟩ | ⟨g,off,cap,k,cur,h1,_⟩
 ·simp only[Value.slice.injEq]at h1;rw[h2];exact h1.2.1
 ·simp only[Value.slice.injEq]at h1;exact h1.2.1
theorem Fit.RR(h:Fit w0 (aC (DY e sz enc (.slice ca n cc) l::L)) w)(hl:0<l.length):ca=some ⟨GX.dQ ca,GX.jl ca,none⟩:=by
 rcases h.M2 with ⟨h1,h2,_⟩ | ⟨g,off,cap,k,cur,h1,_⟩
 ·rw[h2]at hl;simp at hl
 ·simp only[Value.slice.injEq]at h1;rw[h1.1];rfl
theorem Fit.M3(he:tZ enc sz)(h:Fit w0 (aC (DY e sz enc (.slice ca n cc) l::L)) w){i:Nat}{f:Nat}{x:α}{u:Value}(hi:l[i]? = some x)(hf:(enc x)[f]? = some u):w.cell? ⟨GX.dQ ca,GX.jl ca+i*sz+f,none⟩=some u:=by
 have GJ:i<l.length:=(List.getElem?_eq_some_iff.1 hi).1;rcases h.M2 with ⟨h1,h2,_⟩ | ⟨g,off,cap,k,cur,h1,h2,h3,h4,h5,h6,h7⟩
 ·rw[h2]at GJ;simp at GJ
 ·simp only[Value.slice.injEq]at h1;obtain⟨rfl,_,rfl⟩:=h1;have hfs:f<sz:=by rw[<-he.len x];exact(List.getElem?_eq_some_iff.1 hf).1
  have h8:=he.get l i f x hi hfs;rw[<-h6,List.getElem?_take]at h8;have hlt:i*sz+f<l.length*sz:=by
   have:(i+1)*sz<=l.length*sz:=sH _ GJ;rw[vj]at this;omega
  rw[aP hlt,hf,List.getElem?_drop]at h8;have ho:=h3 I;show w.cell? ⟨g,off+i*sz+f,none⟩=some u;rw[ho,show k*sz+i*sz+f=k*sz+(i*sz+f) by omega];refine h7.cell _ ?_
  simpa using h8
theorem K4(vs:List Value):∀(o:Nat) (cs:Array Value),o+vs.length<=cs.size->∃cs':Array Value,cs'.toList=cs.toList.take o++vs++cs.toList.drop (o+vs.length)/\∀{w0 w:World} {L:List bj} {b:Nat} {t:TypeId},Fit w0 (aC (pts b (.cells cs t)::L)) w->Fit w0 (aC (pts b (.cells cs' t)::L)) (w.setCells b o vs):=by
 induction vs with
 | nil=>intro o cs h;exact⟨cs,by simp,λh=>h⟩
 | cons v vs ih =>
  intro o cs h;simp only[BG]at h;obtain⟨cs',h1,h2⟩:=ih (o+1) (cs.setIfInBounds o v) (by simp;omega);refine⟨cs',?_,λhF=>h2 (hF.set o v)⟩;rw[h1];have ho:o<cs.toList.length:=by simp;omega
  simp only[Array.toList_setIfInBounds,BG];rw[List.take_succ_eq_append_getElem (by simpa using ho),List.getElem_set_self,List.take_set_of_le (jU o),List.drop_set,p7];rw[show o+1+vs.length=o+(vs.length+1) by omega];simp
end
end SL
namespace GX
open Go Go.RowKit SL
section
variable {P:Program}{w w0 w1 z:World}{ops:Array Oper}{Q:Exit->Act->World->Prop}{a:Act}{rest:List Oper}{o:Oper}{n d:Nat}{l:List (Nat×Value)}{j e:Nat->Value}{Df:List Deferred}{L:List bj}{t E:TypeId}
variable {α:Type}{sz n0 cc:Nat}{enc:α->List Value}{xs:List α}{ca:fP}
theorem aeD{x y:Operand}{k:IntKind}{i:Int}{w':World}(ho:o.op= .indexAddr t x y)(hx:eZ e x= .slice ca n0 cc)(hy:eZ e y= .int k i)
 (ht:P.underlying t=some (.slice E)) (hs:(P.info? E).map (·.size)=some sz) (hF:Fit w0 (aC (DY E sz enc (.slice ca n0 cc) xs::L)) w) (hi:bI i xs.length):(execOp (eZ e) o).run P w'= .ok (.value (.pointer (some ⟨dQ ca,jl ca+i.toNat*sz,none⟩))) w':=by
 have hn:=hF.Uq;have h0:=hi.1;have h1:=hi.2;exact rie (hF.RR I) ho hx hy ht hs h0 I
theorem Xf{x y:Operand}{k:IntKind}{i:Int}(hw:vg o ops a)(hd:o.dst=some d)(hn:Nat.blt d n=true)(hr:cX Df n (lk l j) a)(ho:o.op= .slice t x (some y) none none)(hx:eZ (lk l j) x= .slice ca n0 cc)(hy:eZ (lk l j) y= .int k i)
 (ht:P.underlying t=some (.slice E)) (hs:(P.info? E).map (·.size)=some sz) (he:tZ enc sz) (hF:Fit z (aC (DY E sz enc (.slice ca n0 cc) xs::L)) w) (hi:0<=i/\i<=((xs.length:Nat):Int)) (hne:0<xs.length)
 (k:∀ca cc a,Fit z (aC (DY E sz enc (.slice ca (xs.drop i.toNat).length cc) (xs.drop i.toNat)::L)) w->cX Df n (lk ((d,.slice ca (xs.drop i.toNat).length cc)::l) j) a->wpList P ops Q rest a w):wpList P ops Q (o::rest) a w:=by
 obtain⟨h0,h1⟩:=hi;rcases hF.M2 with ⟨h2,h3,_⟩ | ⟨g,off,cap,q,cur,e1,e2,e3,e4,e5,e6,e7⟩
 ·rw[h3]at hne;simp at hne
 ·simp only[Value.slice.injEq]at e1;obtain⟨rfl,rfl,rfl⟩:=e1;obtain⟨m,rfl⟩ :∃m:Nat,i=m:=⟨i.toNat,I⟩;simp only[cQ]at k⊢;have hm:m<=xs.length:=by omega
  have hlen:(xs.drop m).length=xs.length-m:=by simp
  have hrun:(execOp (eZ (lk l j)) o).run P w= .ok (.value (.slice (some (if cc=m then⟨g,off,none⟩else(⟨g,off,none⟩:Addr).add (m*sz))) (xs.length-m) (cc-m))) w:=by
   unfold execOp;cases hq:P.info? E with
   | none=>simp[hq]at hs
   | some q =>
    simp[hq]at hs;have c:cc=m∨¬cc=m:=Classical.em _;rcases c with c | c<;>simp[ho,hx,hy,Instr.sliceAt,Instr.slice,Instr.sliceBounds,Instr.sliceBound,run_underlying ht,asIntOf,sizeOf,typeInfo,hq,hs,h1,hm,c]
  refine sw hw hd hn hr (w1:=w) hrun λa GK => ?_;rw[<-hlen]at GK;refine k _ _ a ?_ GK;refine e7.head λy hy=>.inr ⟨g,if cc=m then off else off+m*sz,cc-m,q+m,cur,?_,by rw[hlen];omega,?_,I,by rw[e5];congr 1;omega,?_,hy⟩
  ·congr 1
   by_cases c:cc=m
   ·simp[aP c]
   ·simp[cu c,wH]
  ·intro hc;rw[ef,e3 I];simp[vj]
  ·rw[hlen];have h8:((cur.toList.drop (q*sz)).take (xs.length*sz)).drop (m*sz)=(xs.drop m).flatMap enc:=by
    rw[e6];have h9:(xs.take m).flatMap enc++(xs.drop m).flatMap enc=xs.flatMap enc:=by rw[<-Es,HJ]
    rw[<-h9,J7 (by rw[he.flat,vk,yW hm];exact jU _)];rw[Qa (by rw[he.flat,vk,yW hm];exact jU _)]
    rfl
   rw[<-h8,Ka,List.drop_drop,vj,<-Nat.sub_mul]
theorem M4{bytes:Nat}{s x:Operand}{ad:Addr}{m c:Nat}(hw:vg o ops a)(hd:o.dst=some d)(hn:Nat.blt d n=true)(hr:cX Df n (lk l j) a)
 (ho:o.op= .call {callee:=.builtin .append,args:=#[s,x],argTypes:=#[t,t]}) (hs:eZ (lk l j) s= .slice ca n0 cc) (hx:eZ (lk l j) x= .slice (some ad) m c)
 (he:tZ enc sz) (hty:P.underlying t=some (.slice E)) (rZ:(P.info? E).map (λi=>(i.size,i.bytes,i.zero.map (·.cells.size)))=some (sz,bytes,some sz))
 (hF:Fit w0 (aC (DY E sz enc (.slice ca n0 cc) xs::L)) w) {news:List α} (hm:news.length=m) (hnews:∀j u,(news.flatMap enc)[j]? = some u->w.cell? (ad.add j)=some u)
 (hb:(xs.length+m)*bytes<=140737488355328) (Ol:Nat.blt 0 bytes=true)
 (k:∀ca cc w1 a,Fit w0 (aC (DY E sz enc (.slice ca (xs++news).length cc) (xs++news)::L)) w1->cX Df n (lk ((d,.slice ca (xs++news).length cc)::l) j) a->wpList P ops Q rest a w1):wpList P ops Q (o::rest) a w:=by
 rcases hF.M2 with ⟨h2,h3,h4⟩ | ⟨g,off,cap,q,cur,e1,e2,e3,e4,e5,e6,e7⟩
 ·simp only[Value.slice.injEq]at h2;obtain⟨rfl,rfl,rfl⟩:=h2;subst h3;exact j8 hw hd hn hr ho hs hx he hty rZ (h4.fM (e:=E) (sz:=sz) (enc:=enc)) hm hnews hb Ol λca cc w1 a h GK=>k ca cc w1 a h.Qr GK
 ·simp only[Value.slice.injEq]at e1;obtain⟨rfl,rfl,rfl⟩:=e1;cases hi:P.info? E with
  | none=>simp[hi]at rZ
  | some i =>
   simp only[hi,vR,Option.some.injEq,Prod.mk.injEq]at rZ;obtain⟨i1,i2,i3⟩:=rZ;cases hz:i.zero with
   | none=>simp[hz]at i3
   | some zv =>
    simp only[hz,vR,Option.some.injEq]at i3;subst i1;subst i2;have MF:0<i.bytes:=qa Ol;have h63:xs.length+m<=maxLen:=by
     have:xs.length+m<=(xs.length+m)*i.bytes:=Mq _ MF;simp only[maxLen];omega
    have WS:((xs.length+m:Nat):Int)<=9223372036854775807:=by simp only[maxLen]at h63;omega
    have hlen:(news.flatMap enc).length=m*i.size:=by rw[he.flat,hm]
    have fin:∀v' w',(Builtin.append_ #[t,t] o.type #[.slice (some ⟨g,off,none⟩) xs.length cc,.slice (some ad) m c]).run P w= .ok v' w'->(∃ca cc,v'= .slice ca (xs++news).length cc/\Fit w0 (aC (DY E i.size enc v' (xs++news)::L)) w')->wpList P ops Q (o::rest) a w:=by
     rintro v' w' hrun ⟨ca,cc,rfl,Dz⟩
     refine sw hw hd hn hr ?_ (λa hr=>k ca cc w' a Dz hr);unfold execOp;simp only[ho,resolve,invoke,builtin,n5,uo,n6,Gt,Bs,B3,hs,hx,hrun]
    by_cases hroom:xs.length+m<=cc
    ·by_cases TL:m=0
     ·subst TL;have YK:news=[]:=Gr hm;subst YK;have ZX:=run_append_room_cells (P:=P) (w:=w) t o.type E i hty hi g off xs.length cc ad 0 c [] (by simp) (by simp) (by simp) hroom (by simp) (by simp);refine fin _ _ ZX ⟨some ⟨g,off,none⟩,cc,by simp,?_⟩
      simpa [World.setCells]using hF
     ·have aeE:=e3 I;subst aeE;have hfit:(q+xs.length)*i.size+(news.flatMap enc).length<=cur.size:=by rw[hlen,e5,<-vj];exact sH _ I
      have hpos:q*i.size+xs.length*i.size=(q+xs.length)*i.size:=(vj _ _ _).symm;have ZX:=run_append_room_cells (P:=P) (w:=w) t o.type E i hty hi g (q*i.size) xs.length cc ad m c (news.flatMap enc) hlen hnews (he.zV news) hroom
       (λk hk=>by rw[hpos];rw[e7.cell ((q+xs.length)*i.size+k) (v:=cur[(q+xs.length)*i.size+k]' I) (by rw[Array.getElem?_eq_getElem])];rfl) (λk hk=>e7.free _)
      rw[hpos]at ZX;obtain⟨cs',c1,c2⟩:=K4 (news.flatMap enc) ((q+xs.length)*i.size) cur hfit;have hsz:cs'.size=cur.size:=by
       have:=nV List.length c1;simp only[j6,vk,BZ,vl]at this;omega
      refine fin _ _ ZX ⟨_,_,by rw[j6,hm],(c2 e7).head λy hy=>.inr ⟨g,_,cc,q,cs',by rw[j6,hm],by rw[j6,hm];exact hroom,λ_=>rfl,e4,by rw[hsz];exact e5,?_,hy⟩⟩;rw[c1,Es,<-e6,j6,hm];have hA:(cur.toList.take ((q+xs.length)*i.size)).length=(q+xs.length)*i.size:=by rw[vk,vl];exact yW (Fu (Nat.le_add_right _ _) hfit)
      rw[q9,J7 (by rw[hA,vj];omega)];have hB:(cur.toList.take ((q+xs.length)*i.size)).drop (q*i.size)=(cur.toList.drop (q*i.size)).take (xs.length*i.size):=by
       rw[Ka,vj,Nat.add_sub_cancel_left]
      rw[hB,<-q9];have hC:(((cur.toList.drop (q*i.size)).take (xs.length*i.size))++news.flatMap enc).length=(xs.length+m)*i.size:=by
       rw[e6,j6,he.flat,hlen,vj]
      rw[<-hC];exact Gq
    ·have holds:∀j u,(xs.flatMap enc)[j]? = some u->w.cell? ((⟨g,off,none⟩:Addr).add j)=some u:=by
      intro jj u hu;have hj:jj<xs.length*i.size:=by rw[<-he.flat];exact(List.getElem?_eq_some_iff.1 hu).1
      have hx0:0<xs.length:=by
       rcases Nat.eq_zero_or_pos xs.length with h0 | h0
       ·rw[h0]at hj;simp at hj
       ·exact h0
      rw[wH,e3 I];refine e7.cell _ ?_;rw[<-e6,List.getElem?_take,aP hj,List.getElem?_drop]at hu
      simpa using hu
     have ZX:=run_append_grow (P:=P) w t o.type E i zv hty hi hz ⟨g,off,none⟩ xs.length cc (xs.flatMap enc) (he.flat xs) holds ad m c (news.flatMap enc) hlen hnews I WS (growslice_fits I hb);have hge:=grownCap_ge w (xs.length+m) cc E;have hcm:grownCap w (xs.length+m) cc E<=maxLen:=grownCap_le_maxLen w (xs.length+m) cc E h63;refine fin _ _ ZX ⟨_,_,by rw[j6,hm],?_⟩;refine(e7.drop.drew.alloc _).head λx hx=>.inr ⟨w.heap.size,0,grownCap w (xs.length+m) cc E,0,_,by rw[j6,hm],by rw[j6,hm];exact hge,λ_=>by simp,I,?_,?_,hx⟩
     ·simp only[Array.size_append,Dt,size_zeroCells,i3,he.flat,hm,<-vj]
      congr 1
      omega
     ·rw[Es,j6,hm];simp only[Array.toList_append,Nat.zero_mul,og];rw[show(xs.length+m)*i.size=((xs.flatMap enc)++(news.flatMap enc)).length by rw[j6,hlen,he.flat,vj]];exact Gq
end
end GX
end
end Go.Proofs.YtpikpffbcjpmcaaGreatDoor

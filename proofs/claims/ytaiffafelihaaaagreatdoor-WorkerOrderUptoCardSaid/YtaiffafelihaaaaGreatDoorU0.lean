/- plunderlaw11.WorkerOrder answers true for every input of the bulk that the statement names, and leaves its input alone. Conditions: none. -/
import Derived.Below
import Derived.OwnWalk
import Derived.Deep.Draws
import Derived.Laws.AppendOwn
import Derived.Laws.OwnMore
import Derived.Laws.MakeOwn
import Derived.Laws.CopyRow
import Derived.StillTail
import Derived.Deep.Quiet
import Derived.KernelRfl
import Derived.IntWalk
import Derived.Laws.StructEq
import Derived.Test.YtaiffafelihaaaaGreatDoorProg
import Derived.Carry
import Derived.ChangeSlices
import Derived.ChangeOld
import Derived.Deep.Fields
import Derived.Deep.Slices
import Derived.DataReads
import Derived.OpenShut
import Derived.Test.YtaiffafelihaaaaGreatDoorRows
import Derived.FnData
import Derived.Scope
import Derived.Laws.IdiomRangeMap
import Derived.Defers
import Derived.Laws.LoneSync
import Derived.Conc.MuLone
import Derived.Recover
import Derived.ArgAppend
import Derived.ChangeKeysEq
import Derived.Test.YtaiffafelihaaaaGreatDoorCards
import Derived.Test.YtaiffafelihaaaaGreatDoorTie
import Derived.WalkKit
import Derived.ProofKit
import Derived.SizedLaws
import Derived.JoinedCond
import Derived.Deep.DeepHandedRow
import Derived.Lib.LaidTab
import Derived.LaidMore
import Derived.SevenTiedAt
set_option linter.unusedVariables false
set_option linter.unusedSimpArgs false
set_option linter.unusedSectionVars false
set_option maxRecDepth 100000
set_option maxHeartbeats 4000000
set_option autoImplicit true
set_option relaxedAutoImplicit true
namespace Go.Proofs.YtaiffafelihaaaaGreatDoor
open Proofs.Tryz
theorem aK{p:Prop}(h:p:=by kernel_rfl):p:=h
theorem aB{p:Prop}(h:p:=by omega):p:=h
theorem eL{p:Prop}(h:p:=by decide):p:=h
theorem pW{p:Prop}(h:p:=by intro e;cases e):p:=h
abbrev fR:=Option Addr
abbrev tN(o:Oper)(ops:Array Oper)(a:Act):Prop:=Region.wanted o (yielded ops a.tmps)=true
abbrev cJ(p:Prop)[Decidable p]:Value:=.bool (decide p)
theorem cF{c:Prop}{h:Decidable c}(hn:¬c){α:Sort _}{t e:α}:ite c t e=e:=if_neg hn
theorem aW{c:Prop}{h:Decidable c}(hn:c){α:Sort _}{t e:α}:ite c t e=t:=if_pos hn
theorem bx:True:=trivial
theorem eG{c:Prop}{h:Decidable c}{α:Sort _}{t e:α}(hn:¬c:=by omega):ite c t e=e:=if_neg hn
theorem oU{c:Prop}{h:Decidable c}{α:Sort _}{t e:α}(hn:c:=by omega):ite c t e=t:=if_pos hn
theorem dN{β:Type}{x k c:β}(h:x=c){d:Decidable (x=k)}{α:Sort _}{t e:α}(hn:¬c=k:=by decide):ite (x=k) t e=e:=if_neg (h▸hn)
abbrev E1:=@Nat.le_trans
abbrev j9:=@Nat.le_refl
abbrev MN:=@List.flatMap_cons
abbrev jP:=@List.length_append
abbrev Ad:=@List.length_cons
abbrev tO:=@Nat.add_mul
abbrev MO:=@Nat.add_comm
abbrev Ae:=@Nat.zero_add
abbrev uB:=@List.take_zero
abbrev zb:=@List.nil_append
abbrev Is:=@List.drop_append_of_le_length
abbrev yt:=@List.drop_of_length_le
abbrev EL:=@List.take_of_length_le
abbrev It:=@List.take_append
abbrev pS:=@List.append_assoc
abbrev ru:=@Nat.mul_le_mul_right
abbrev yu:=@List.ext_getElem?
abbrev tP:=@List.length_take
abbrev zR:=@Nat.min_eq_left
abbrev hU:=@List.length_set
abbrev Cd:=@List.size_toArray
abbrev CU:=@List.flatMap_append
abbrev EM:=@List.take_left
abbrev FY:=@List.eq_nil_of_length_eq_zero
abbrev zS:=@List.length_nil
abbrev AB:=@List.length_drop
abbrev tQ:=@Array.length_toList
abbrev u5:=@Go.Addr.add_lit
abbrev oI:=@Nat.le_of_ble_eq_true
abbrev xm:=@Array.getD_eq_getD_getElem?
abbrev N8:=@Nat.eq_of_beq_eq_true
abbrev ng:=@Go.Sem.run_bind
abbrev nh:=@Go.Result.andThen_ok
abbrev sM:=@Go.Sem.run_pure
abbrev EN:=@Nat.add_zero
abbrev Iu:=@List.toList_toArray
abbrev Iv:=@List.drop_take
abbrev ux:=@Option.map_some
abbrev Kr:=@Nat.le_mul_of_pos_right
abbrev EO:=@List.map_toArray
abbrev zT:=@List.map_cons
abbrev AD:=@List.map_nil
abbrev lY:=@List.length_replicate
abbrev dc:=@Int.toNat_natCast
abbrev lV:=@Bool.and_eq_true
abbrev wE:=@beq_iff_eq
abbrev Iw:=@Nat.add_left_comm
abbrev qG:=@congrArg
abbrev sN:=@List.mem_cons
abbrev sO:=@List.not_mem_nil
abbrev sP:=@or_false
abbrev FZ:=@List.map_append
abbrev yw:=@Bool.or_eq_true
abbrev Ix:=@Bool.false_eq_true
abbrev CV:=@Nat.lt_or_ge
abbrev Ks:=@Go.Region.noSelect_spec
abbrev oJ:=@List.take_succ_cons
abbrev wF:=@List.perm_middle
abbrev sQ:=@List.cons_append
abbrev zU:=@List.append_nil
abbrev AE:=@decide_eq_true_eq
abbrev tR:=@decide_eq_true
abbrev Iy:=@decide_eq_false
abbrev F1:=@List.take_append_drop
abbrev Kt:=@List.ext_getElem
abbrev N9:=@List.drop_eq_nil_of_le
abbrev Ce:=@List.length_map
abbrev qH:=@Option.getD_some
abbrev EP:=@Nat.succ_mul
abbrev Oa:=@Go.MapKept.run_getObj_map
abbrev ni:=@List.drop_zero
abbrev Ob:=@List.drop_eq_getElem_cons
abbrev Cf:=@Nat.zero_le
abbrev qJ:=@List.drop_succ_cons
abbrev gQ:=@Nat.lt_succ_self
abbrev Ku:=@List.mem_cons_of_mem
abbrev Iz:=@List.singleton_append
abbrev pT:=@Int.ofNat_zero
abbrev F2:=@List.length_singleton
abbrev AF:=@Prod.ext
abbrev iG:=@List.set_set
abbrev ER:=@Int.emod_nonneg
abbrev ES:=@Int.emod_lt_of_pos
abbrev xn:=@Int.le_refl
abbrev F3:=@Nat.mod_eq_of_lt
abbrev Kv:=@Nat.le_succ_of_le
abbrev ry:=@List.getElem_toArray
abbrev rz:=@List.getElem_cons_zero
abbrev rB:=@List.getElem_cons_succ
abbrev rC:=@Array.getInternal_eq_getElem
abbrev zV:=@and_true
section
namespace SL
open Go Go.RowKit
abbrev Hp:=Nat->Option Obj
abbrev bj:=Hp->Prop
def Hp.none:Hp:=λ_=>Option.none
def Hp.add(a b:Hp):Hp:=λk=>match a k with | some o=>some o | Option.none=>b k
def Hp.E2(a b:Hp):Prop:=∀k,a k=Option.none∨b k=Option.none
def MA:bj:=λh=>h=Hp.none
def sep(P Q:bj):bj:=λh =>∃a b,a.E2 b/\h=a.add b/\P a/\Q b
def pts(b:Nat)(o:Obj):bj:=λh=>h=λk=>if k=b then some o else Option.none
def PF(p:Prop):bj:=λh=>p/\h=Hp.none
def exs{α:Type}(P:α->bj):bj:=λh =>∃x,P x h
def aC:List bj->bj
 | []=>MA
 | P::L=>sep P (aC L)
theorem Hp.uC{a b:Hp}(h:a.E2 b):b.E2 a:=λk=>(h k).symm
theorem Hp.add_comm{a b:Hp}(h:a.E2 b):a.add b=b.add a:=by
 funext k
 unfold Hp.add;rcases h k with h | h<;>rw[h]<;>cases a k<;>cases b k<;>simp_all
theorem Hp.add_assoc(a b c:Hp):(a.add b).add c=a.add (b.add c):=by
 funext k;unfold Hp.add;cases a k<;>rfl
theorem Hp.AG{a b c:Hp}(h1:a.E2 b)(h2:a.E2 c):a.E2 (b.add c):=λk=>by
 rcases h1 k with h | h
 ·exact .inl h
 ·rcases h2 k with h' | h'
  ·exact .inl h'
  ·exact .inr (by unfold Hp.add;rw[h,h'])
theorem Hp.ET{a b c:Hp}(h:a.E2 (b.add c)):a.E2 b/\a.E2 c:=by
 constructor
 ·intro k;rcases h k with h | h
  ·exact .inl h
  ·refine .inr ?_;unfold Hp.add at h;cases hb:b k with
   | none=>rfl
   | some o=>rw[hb]at h;exact absurd h (by simp)
 ·intro k;rcases h k with h | h
  ·exact .inl h
  ·refine .inr ?_;unfold Hp.add at h;cases hb:b k with
   | none=>rw[hb]at h;exact h
   | some o=>rw[hb]at h;exact absurd h (by simp)
theorem Hp.Kw(a:Hp):a.add Hp.none=a:=by funext k;unfold Hp.add Hp.none;cases a k<;>rfl
theorem Hp.Kx(a:Hp):Hp.none.add a=a:=rfl
theorem Hp.PG(a:Hp):a.E2 Hp.none:=λ_=>.inr rfl
theorem Hp.IA(a:Hp):Hp.none.E2 a:=λ_=>.inl rfl
theorem Ky(P Q:bj):sep P Q=sep Q P:=by
 funext h
 apply propext
 constructor <;>
 ·rintro ⟨a,b,hd,rfl,hp,hq⟩
  exact⟨b,a,Hp.uC hd,Hp.add_comm hd,hq,hp⟩
theorem DZ(P Q afw:bj):sep (sep P Q) afw=sep P (sep Q afw):=by
 funext h
 apply propext
 constructor
 ·rintro ⟨ab,c,hd,rfl,⟨a,b,hd',rfl,hp,hq⟩,hr⟩
  obtain⟨h1,h2⟩:=Hp.ET (Hp.uC hd);exact⟨a,b.add c,Hp.AG hd' (Hp.uC h1),Hp.add_assoc _ _ _,hp,b,c,Hp.uC h2,rfl,hq,hr⟩
 ·rintro ⟨a,bc,hd,rfl,hp,b,c,hd',rfl,hq,hr⟩
  obtain⟨h1,h2⟩:=Hp.ET hd;exact⟨a.add b,c,Hp.uC (Hp.AG (Hp.uC h2) (Hp.uC hd')),(Hp.add_assoc _ _ _).symm,⟨a,b,h1,rfl,hp,hq⟩,hr⟩
theorem Cg(P Q afw:bj):sep P (sep Q afw)=sep Q (sep P afw):=by
 rw[<-DZ,Ky P Q,DZ]
theorem FC(P:bj):sep P MA=P:=by
 funext h
 apply propext
 constructor
 ·rintro ⟨a,b,_,rfl,hp,rfl⟩;rw[Hp.Kw];exact hp
 ·intro hp;exact⟨h,Hp.none,Hp.PG h,(Hp.Kw h).symm,hp,rfl⟩
theorem AH(L M:List bj):aC (L++M)=sep (aC L) (aC M):=by
 induction L with
 | nil=>show aC M=sep MA (aC M);rw[Ky,FC]
 | cons P L ih=>show sep P (aC (L++M))=sep (sep P (aC L)) (aC M);rw[ih,DZ]
theorem PJ{L M:List bj}(h:L.Perm M):aC L=aC M:=by
 induction h with
 | nil=>rfl
 | cons P _ ih=>show sep P _=sep P _;rw[ih]
 | swap P Q L=>exact Cg _ _ _
 | trans _ _ h1 h2=>exact h1.trans h2
def pick(i:Nat)(L:List bj):List bj:=match L[i]? with | some P=>P::L.eraseIdx i | Option.none=>L
theorem D0(i:Nat)(L:List bj):aC (pick i L)=aC L:=by
 unfold pick
 induction L generalizing i with
 | nil=>rfl
 | cons P L ih =>
  cases i with
  | zero=>rfl
  | succ i =>
   have hi:=ih i;simp only[List.getElem?_cons_succ,List.eraseIdx_cons_succ];cases hg:L[i]? with
   | none=>rfl
   | some Q =>
    rw[hg]at hi;show sep Q (sep P (aC (L.eraseIdx i)))=sep P (aC L);rw[<-hi];exact Cg _ _ _
structure Fit(w0:World)(P:bj)(w:World):Prop where
 sat :∃h:Hp,(∀k o,h k=some o->w.heap[k]? = some o)/\P h
 os:w.os=w0.os
 tape:w.tape=w0.tape
 output:w.output=w0.output
 size:w0.heap.size<=w.heap.size
section
variable {w0 w:World}{L M:List bj}{P Q:bj}
theorem Fit.imp(h:Fit w0 P w)(i:∀x,P x->Q x):Fit w0 Q w:=
 let ⟨x,hx,hp⟩:=h.sat
 ⟨⟨x,hx,i x hp⟩,h.os,h.tape,h.output,h.size⟩
theorem Fit.eq(h:Fit w0 P w)(e:P=Q):Fit w0 Q w:=e▸ h
theorem Fit.perm(h:Fit w0 (aC L) w)(p:L.Perm M):Fit w0 (aC M) w:=h.eq (PJ p)
theorem Fit.pick(h:Fit w0 (aC L) w)(i:Nat):Fit w0 (aC (pick i L)) w:=h.eq (D0 i L).symm
theorem Fit.trans{w1:World}{afw:bj}(h:Fit w0 afw w1)(k:Fit w1 P w):Fit w0 P w:=
 ⟨k.sat,k.os.trans h.os,k.tape.trans h.tape,k.output.trans h.output,E1 h.size k.size⟩
theorem Fit.self(h:Fit w0 P w):Fit w P w:=⟨h.sat,rfl,rfl,rfl,j9 _⟩
theorem Rm{P P' Q Q':bj}(hp:∀x,P x->P' x)(hq:∀x,Q x->Q' x)(x:Hp)(h:sep P Q x):sep P' Q' x:=
 let ⟨a,b,hd,e,p,q⟩:=h
 ⟨a,b,hd,e,hp a p,hq b q⟩
theorem Fit.head(h:Fit w0 (aC (P::L)) w)(i:∀x,P x->Q x):Fit w0 (aC (Q::L)) w:=h.imp (Rm i λ_ q=>q)
theorem Fit.drop(h:Fit w0 (aC (P::L)) w):Fit w0 (aC L) w:=
 let ⟨x,hx,a,b,hd,e,p,q⟩:=h.sat
 ⟨⟨b,λk o hk=>hx k o (by
  rw[e];unfold Hp.add;rcases hd k with h1 | h1
  ·rw[h1];exact hk
  ·rw[h1]at hk;cases hk),q⟩,h.os,h.tape,h.output,h.size⟩
theorem Fit.nj{α:Type}{F:α->bj}(h:Fit w0 (aC (exs F::L)) w) :∃x,Fit w0 (aC (F x::L)) w:=
 let ⟨x,hx,a,b,hd,e,⟨y,p⟩,q⟩:=h.sat
 ⟨y,⟨⟨x,hx,a,b,hd,e,p,q⟩,h.os,h.tape,h.output,h.size⟩⟩
theorem Fit.jK{α:Type}{F:α->bj}(x:α)(h:Fit w0 (aC (F x::L)) w):Fit w0 (aC (exs F::L)) w:=h.head λ_ p=>⟨x,p⟩
theorem Fit.yx{p:Prop}(h:Fit w0 (aC (PF p::L)) w):p/\Fit w0 (aC L) w:=
 let ⟨_,_,_,_,_,_,⟨hp,_⟩,_⟩:=h.sat
 ⟨hp,h.drop⟩
theorem Fit.wG{p:Prop}(hp:p)(h:Fit w0 (aC L) w):Fit w0 (aC (PF p::L)) w:=
 h.imp λx hx=>⟨Hp.none,x,Hp.IA x,(Hp.Kx x).symm,⟨hp,rfl⟩,hx⟩
theorem Fit.sx(h:Fit w0 (aC (aC M::L)) w):Fit w0 (aC (M++L)) w:=h.eq (AH M L).symm
theorem Fit.rL(M L:List bj)(h:Fit w0 (aC (M++L)) w):Fit w0 (aC (aC M::L)) w:=h.eq (AH M L)
theorem Fit.block{b:Nat}{o:Obj}(h:Fit w0 (aC (pts b o::L)) w):w.heap[b]? = some o:=by
 obtain⟨x,hx,a,c,hd,e,p,q⟩:=h.sat;refine hx b o ?_;rw[e,p];unfold Hp.add;simp
theorem Fit.lt{b:Nat}{o:Obj}(h:Fit w0 (aC (pts b o::L)) w):b<w.heap.size:=(Array.getElem?_eq_some_iff.1 h.block).1
theorem Fit.cell{b:Nat}{cs:Array Value}{t:TypeId}{z:Nat×Nat}(h:Fit w0 (aC (pts b (.cells cs t z)::L)) w)(i:Nat){v:Value}(hv:cs[i]? = some v):w.cell? ⟨b,i,none⟩=some v:=by
 simp only[World.cell?,h.block]
 simpa using hv
theorem Fit.news{b:Nat}{cs:Array Value}{t:TypeId}{z:Nat×Nat}(h:Fit w0 (aC (pts b (.cells cs t z)::L)) w){xs:List Value}(hx:cs.toList=xs):∀j afv,xs[j]? = some afv->w.cell? ((⟨b,0,none⟩:Addr).add j)=some afv:=by
 subst hx;intro j afv hu;have e:(⟨b,0,none⟩:Addr).add j=⟨b,j,none⟩:=by unfold Addr.add;split<;>simp_all
 rw[e];exact h.cell j (by simpa using hu)
theorem Fit.free{b:Nat}{cs:Array Value}{t:TypeId}(h:Fit w0 (aC (pts b (.cells cs t)::L)) w)(i:Nat):w.frozen? ⟨b,i,none⟩=false:=by
 simp[World.frozen?,h.block]
theorem Fit.alloc(h:Fit w0 (aC L) w)(o:Obj):Fit w0 (aC (pts w.heap.size o::L)) (w.alloc o):=by
 obtain⟨x,hx,hp⟩:=h.sat;have hlt:∀k o',x k=some o'->k<w.heap.size:=λk o' hk=>(Array.getElem?_eq_some_iff.1 (hx k o' hk)).1;refine⟨⟨_,?_,(λk=>if k=w.heap.size then some o else Option.none),x,?_,rfl,rfl,hp⟩,h.os,h.tape,h.output,?_⟩
 ·intro k o' hk;unfold Hp.add at hk;by_cases e:k=w.heap.size
  ·subst e;simp at hk;subst hk;exact heap_alloc_new w o
  ·simp only[e,if_false]at hk;rw[Below.heap_alloc w o k (hlt k o' hk)];exact hx k o' hk
 ·intro k;by_cases e:k=w.heap.size
  ·right
   cases hk:x k with
   | none=>rfl
   | some o'=>have:=hlt k o' hk;omega
  ·left;simp[e]
 ·have:=h.size;simp;omega
theorem Fit.drew(h:Fit w0 P w):Fit w0 P w.drew:=⟨h.sat,h.os,h.tape,h.output,h.size⟩
theorem Fit.turn{b:Nat}{o o':Obj}{w':World}(h:Fit w0 (aC (pts b o::L)) w)(hb:w'.heap[b]? = some o')(hr:∀k,k≠b->k<w.heap.size->w'.heap[k]? = w.heap[k]?)
 (hos:w'.os=w.os) (ht:w'.tape=w.tape) (ho:w'.output=w.output) (hs:w.heap.size<=w'.heap.size):Fit w0 (aC (pts b o'::L)) w':=by
 obtain⟨x,hx,a,c,hd,e,p,q⟩:=h.sat;refine⟨⟨_,?_,(λk=>if k=b then some o' else Option.none),c,?_,rfl,rfl,q⟩,hos.trans h.os,ht.trans h.tape,ho.trans h.output,E1 h.size hs⟩
 ·intro k o'' hk;unfold Hp.add at hk;by_cases ek:k=b
  ·subst ek;simp at hk;subst hk;exact hb
  ·simp only[ek,if_false]at hk;have hk':x k=some o'':=by rw[e,p];unfold Hp.add;simp[ek,hk]
   have hw:=hx k o'' hk';rw[hr k ek (Array.getElem?_eq_some_iff.1 hw).1];exact hw
 ·intro k;by_cases ek:k=b
  ·right
   rcases hd k with h1 | h1
   ·rw[p]at h1;simp[ek]at h1
   ·exact h1
  ·left;simp[ek]
theorem Fit.set{b:Nat}{cs:Array Value}{t:TypeId}(h:Fit w0 (aC (pts b (.cells cs t)::L)) w)(i:Nat)(v:Value) :
 Fit w0 (aC (pts b (.cells (cs.setIfInBounds i v) t)::L)) (w.setCell ⟨b,i,none⟩ v):=by
 refine h.turn (w':=w.setCell ⟨b,i,none⟩ v) ?_ ?_ rfl rfl rfl (by simp)
 ·simp[World.setCell,Array.getElem?_modify,h.block]
 ·intro k hk _;exact Below.heap_setCell _ _ _ _ hk
end
def old(W:World):bj:=λh=>h=λk=>W.heap[k]?
theorem Fit.begin(W:World):Fit W (aC [old W]) W:=
 ⟨⟨λk=>W.heap[k]?,λ_ _ h=>h,by show sep (old W) MA _;rw[FC];exact rfl⟩,rfl,rfl,rfl,j9 _⟩
theorem Fit.below{W w:World}{L:List bj}(h:Fit W (aC (old W::L)) w):Below W.heap.size W w:=by
 obtain⟨x,hx,a,c,hd,e,p,q⟩:=h.sat;refine⟨h.os,h.tape,h.output,h.size,λk hk => ?_⟩;have hk':W.heap[k]? = some W.heap[k]:=Array.getElem?_eq_getElem hk;rw[hk'];refine hx k _ ?_;rw[e,p];unfold Hp.add;simp[hk']
theorem Fit.PK{z W w:World}{L:List bj}(h:Fit z (aC (old W::L)) w){k:Nat}{o:Obj}(hk:W.heap[k]? = some o):w.heap[k]? = some o:=by
 obtain⟨x,hx,a,c,hd,e,p,q⟩:=h.sat;refine hx k _ ?_;rw[e,p];unfold Hp.add;simp[hk]
theorem Fit.Kz{z W w:World}{L:List bj}{ad:Addr}{afv:Value}(h:Fit z (aC (old W::L)) w)(hc:W.cell? ad=some afv):w.cell? ad=some afv:=by
 have hlt:=World.block_lt_of_cell? W ad hc;have hk:W.heap[ad.block]? = some W.heap[ad.block]:=Array.getElem?_eq_getElem hlt;have:=h.PK hk;simp only[World.cell?]at hc⊢;rw[this];rw[hk]at hc;exact hc
structure sH{α:Type}(enc:α->List Value)(sz:Nat):Prop where
 len:∀x,(enc x).length=sz
 one:∀x,∀afv∈enc x,afv.oneCell'=true
 pos:0<sz
theorem sH.flat{α:Type}{enc:α->List Value}{sz:Nat}(he:sH enc sz)(l:List α):(l.flatMap enc).length=l.length*sz:=by
 induction l with
 | nil=>simp
 | cons x l ih=>rw[MN,jP,he.len,ih,Ad,tO,Nat.one_mul,MO]
theorem sH.yy{α:Type}{enc:α->List Value}{sz:Nat}(he:sH enc sz)(l:List α):∀afv∈l.flatMap enc,afv.oneCell'=true:=by
 intro afv hu;obtain⟨x,_,hx⟩:=List.mem_flatMap.1 hu;exact he.one x afv hx
theorem sH.get{α:Type}{enc:α->List Value}{sz:Nat}(he:sH enc sz)(l:List α)(i f:Nat)(x:α)(hi:l[i]? = some x)(hf:f<sz):(l.flatMap enc)[i*sz+f]? = (enc x)[f]?:=by
 induction l generalizing i with
 | nil=>simp at hi
 | cons y l ih =>
  rw[MN];cases i with
  | zero =>
   simp at hi;subst hi;rw[Nat.zero_mul,Ae,List.getElem?_append_left (by rw[he.len];exact hf)]
  | succ i =>
   rw[List.getElem?_append_right (by rw[he.len,tO];omega),he.len,show(i+1)*sz+f-sz=i*sz+f by rw[tO];omega];exact ih i (by simpa using hi)
theorem sH.set{α:Type}{enc:α->List Value}{sz:Nat}(he:sH enc sz)(l:List α)(i:Nat)(x:α)(hi:i<l.length) :
 (l.set i x).flatMap enc=(l.flatMap enc).take (i*sz)++enc x++(l.flatMap enc).drop (i*sz+sz):=by
 induction l generalizing i with
 | nil=>simp at hi
 | cons y l ih =>
  cases i with
  | zero =>
   simp only[List.set_cons_zero,MN,Nat.zero_mul,uB,zb,Ae]
   congr 1
   rw[Is (by rw[he.len];exact j9 _),yt (by rw[he.len];exact j9 _),zb]
  | succ i =>
   simp only[List.set_cons_succ,MN];rw[ih i (by simpa using hi)];have h1:(i+1)*sz=sz+i*sz:=by rw[tO];omega
   have t1:(enc y).take (sz+i*sz)=enc y:=EL (by rw[he.len];omega);have d1:(enc y).drop (sz+i*sz+sz)=[]:=yt (by rw[he.len];omega);rw[h1,It,t1,he.len,show sz+i*sz-sz=i*sz by omega,List.drop_append,d1,he.len,show sz+i*sz+sz-sz=i*sz+sz by omega];simp only[zb,pS]
def rowOf{α:Type}(e:TypeId)(sz:Nat)(enc:α->List Value)(v:Value)(l:List α):bj:=λh =>
 (v= .slice none 0 0/\l=[]/\h=Hp.none)∨
 ∃g cap cur,v= .slice (some ⟨g,0,none⟩) l.length cap/\l.length<=cap/\cap<=maxLen/\cur.size=cap*sz/\cur.toList.take (l.length*sz)=l.flatMap enc/\pts g (.cells cur e) h
def slc{α:Type}(e:TypeId)(sz:Nat)(enc:α->List Value)(g cap:Nat)(l:List α):bj:=λh =>
 l.length<=cap/\cap<=maxLen/\∃cur:Array Value,cur.size=cap*sz/\cur.toList.take (l.length*sz)=l.flatMap enc/\pts g (.cells cur e) h
section
variable {w0 w:World}{L:List bj}{α:Type}{e:TypeId}{sz:Nat}{enc:α->List Value}{v:Value}{l:List α}{g cap:Nat}
theorem Fit.rows(h:Fit w0 (aC (rowOf e sz enc v l::L)) w):(v= .slice none 0 0/\l=[]/\Fit w0 (aC L) w)∨∃g cap,v= .slice (some ⟨g,0,none⟩) l.length cap/\l.length<=cap/\Fit w0 (aC (slc e sz enc g cap l::L)) w:=by
 obtain⟨x,hx,a,c,hd,ee,hp,q⟩:=h.sat;rcases hp with ⟨h1,h2,h3⟩ | ⟨g,cap,cur,h1,h2,h3,h4,h5,h6⟩
 ·left
  exact⟨h1,h2,h.drop⟩
 ·right
  exact⟨g,cap,h1,h2,⟨x,hx,a,c,hd,ee,⟨h2,h3,cur,h4,h5,h6⟩,q⟩,h.os,h.tape,h.output,h.size⟩
theorem Fit.Rn(h:Fit w0 (aC (rowOf e sz enc v l::L)) w)(hl:0<l.length) :∃g cap,v= .slice (some ⟨g,0,none⟩) l.length cap/\l.length<=cap/\Fit w0 (aC (slc e sz enc g cap l::L)) w:=by
 rcases h.rows with ⟨_,h2,_⟩ | h
 ·rw[h2]at hl;simp at hl
 ·exact h
theorem Fit.Uo{ca:fR}{m cc:Nat}(h:Fit w0 (aC (rowOf e sz enc (.slice ca m cc) l::L)) w)(hl:0<l.length) :
 ∃g,ca=some ⟨g,0,none⟩/\Fit w0 (aC (slc e sz enc g cc l::L)) w:=by
 obtain⟨g,cap,e,_,h⟩:=h.Rn hl;simp only[Value.slice.injEq]at e;obtain⟨rfl,_,rfl⟩:=e;exact⟨g,rfl,h⟩
theorem Fit.Wf(h:Fit w0 (aC (slc e sz enc g cap l::L)) w):Fit w0 (aC (rowOf e sz enc (.slice (some ⟨g,0,none⟩) l.length cap) l::L)) w:=
 h.head λ_ ⟨h1,h2,cur,h3,h4,h5⟩=>.inr ⟨g,cap,cur,rfl,h1,h2,h3,h4,h5⟩
theorem Fit.Oc{m:Nat}(hm:m=l.length)(h:Fit w0 (aC (slc e sz enc g cap l::L)) w):Fit w0 (aC (rowOf e sz enc (.slice (some ⟨g,0,none⟩) m cap) l::L)) w:=hm▸ h.Wf
theorem Fit.Up{ca:fR}{m:Nat}(hca:ca=some ⟨g,0,none⟩)(hm:m=l.length)(h:Fit w0 (aC (slc e sz enc g cap l::L)) w):Fit w0 (aC (rowOf e sz enc (.slice ca m cap) l::L)) w:=by
 subst hca;subst hm;exact h.Wf
theorem Fit.fX(h:Fit w0 (aC L) w):Fit w0 (aC (rowOf e sz enc (.slice none 0 0) ([]:List α)::L)) w:=
 h.imp λx hx=>⟨Hp.none,x,Hp.IA x,(Hp.Kx x).symm,.inl ⟨rfl,rfl,rfl⟩,hx⟩
theorem Fit.FD(h:Fit w0 (aC (rowOf e sz enc v l::L)) w) :∃a cap,v= .slice a l.length cap/\(a=none->l=[]/\cap=0)/\l.length<=cap:=by
 rcases h.rows with ⟨rfl,rfl,_⟩ | ⟨g,cap,rfl,hc,_⟩
 ·exact⟨none,0,rfl,λ_=>⟨rfl,rfl⟩,j9 _⟩
 ·exact⟨_,cap,rfl,(λh=>by cases h),hc⟩
theorem Fit.p6{ca:fR}{m cc:Nat}(h:Fit w0 (aC (rowOf e sz enc (.slice ca m cc) l::L)) w):m=l.length:=by
 obtain⟨a,cap,e,_,_⟩:=h.FD;simp only[Value.slice.injEq]at e;exact e.2.1
theorem Fit.xo(h:Fit w0 (aC (slc e sz enc g cap l::L)) w):l.length<=cap/\cap<=maxLen:=by
 obtain⟨x,hx,a,c,hd,ee,⟨h1,h2,_⟩,q⟩:=h.sat;exact⟨h1,h2⟩
theorem Fit.oN(h:Fit w0 (aC (slc e sz enc g cap l::L)) w) :∃cur:Array Value,cur.size=cap*sz/\cur.toList.take (l.length*sz)=l.flatMap enc/\Fit w0 (aC (pts g (.cells cur e)::L)) w:=by
 obtain⟨x,hx,a,c,hd,ee,⟨h1,h2,cur,h3,h4,h5⟩,q⟩:=h.sat;exact⟨cur,h3,h4,⟨x,hx,a,c,hd,ee,h5,q⟩,h.os,h.tape,h.output,h.size⟩
theorem Fit.Od(he:sH enc sz)(h:Fit w0 (aC (slc e sz enc g cap l::L)) w)(i f:Nat)(x:α)(afv:Value)(hi:l[i]? = some x)(hf:(enc x)[f]? = some afv):w.cell? ⟨g,i*sz+f,none⟩=some afv:=by
 obtain⟨cur,h1,h2,h3⟩:=h.oN;have hfs:f<sz:=by rw[<-he.len x];exact(List.getElem?_eq_some_iff.1 hf).1
 have E3:i<l.length:=(List.getElem?_eq_some_iff.1 hi).1;refine h3.cell _ ?_;have h4:=he.get l i f x hi hfs;rw[<-h2,List.getElem?_take]at h4;have:i*sz+f<l.length*sz:=by
  have:(i+1)*sz<=l.length*sz:=ru _ E3;rw[tO]at this;omega
 rw[aW this,hf]at h4
 simpa using h4
theorem Fit.Ro(h:Fit w0 (aC (slc e sz enc g cap l::L)) w)(j:Nat):w.frozen? ⟨g,j,none⟩=false:=by
 obtain⟨cur,h1,h2,h3⟩:=h.oN;exact h3.free j
theorem Hu{β:Type}(cur xs:List β)(n i:Nat)(v:β)(h:cur.take n=xs)(_hi:i<n):(cur.set i v).take n=xs.set i v:=by
 subst h;rw[List.take_set]
theorem Uq{β:Type}(A B C:List β)(k f:Nat)(afv:β)(hk:k=A.length)(hf:f<B.length):(A++B++C).set (k+f) afv=A++B.set f afv++C:=by
 subst hk;rw[pS,List.set_append_right _ _ aB,show A.length+f-A.length=f by omega,List.set_append_left _ _ hf,pS]
theorem Fit.Ur(he:sH enc sz)(h:Fit w0 (aC (slc e sz enc g cap l::L)) w)(i f:Nat)(x y:α)(afv:Value)(hi:l[i]? = some x)(hf:f<sz)(hy:enc y=(enc x).set f afv) :
 Fit w0 (aC (slc e sz enc g cap (l.set i y)::L)) (w.setCell ⟨g,i*sz+f,none⟩ afv):=by
 obtain⟨h1',ZP⟩:=h.xo;obtain⟨cur,h1,h2,h3⟩:=h.oN;have E3:i<l.length:=(List.getElem?_eq_some_iff.1 hi).1;refine(h3.set (i*sz+f) afv).head λz hz=>⟨by simpa using h1',ZP,cur.setIfInBounds (i*sz+f) afv,by simpa using h1,?_,hz⟩;have hlt:i*sz+f<l.length*sz:=by
  have:(i+1)*sz<=l.length*sz:=ru _ E3;rw[tO]at this;omega
 have F4:l.set i x=l:=by
  apply yu
  intro j;by_cases hj:i=j
  ·subst hj;rw[List.getElem?_set_self E3,hi]
  ·rw[List.getElem?_set_ne hj]
 have hA:((l.flatMap enc).take (i*sz)).length=i*sz:=by
  have hle:i*sz<=l.length*sz:=ru _ (Nat.le_of_lt E3);rw[tP,he.flat];exact zR hle
 have e1:=he.set l i x E3;rw[F4]at e1;rw[Array.toList_setIfInBounds,hU,Hu _ _ _ _ _ h2 hlt,he.set l i y E3,hy]
 conv=>lhs;rw[e1]
 exact Uq _ _ _ _ _ _ hA.symm (by rw[he.len];exact hf)
end
section
variable {P:Program}{w0 w:World}{L:List bj}{α:Type}{e:TypeId}{sz:Nat}{enc:α->List Value}{v:Value}{l:List α}
theorem F5(he:sH enc sz)(t ty:TypeId)(i:TypeInfo)(z:Value)(bytes:Nat)(ht:P.underlying t=some (.slice e))(hi:P.info? e=some i)(hz:i.zero=some z)
 (hsize:i.size=sz) (hby:i.bytes=bytes) (hzs:z.cells.size=sz) (h:Fit w0 (aC (rowOf e sz enc v l::L)) w)
 (ad:Addr) (m c:Nat) (news:List α) (hm:news.length=m) (hnews:∀j afv,(news.flatMap enc)[j]? = some afv->w.cell? (ad.add j)=some afv)
 (h63:l.length+m<=maxLen) (hbytes:(l.length+m)*bytes<=140737488355328) :
 ∃v' w',(Builtin.append_ #[t,t] ty #[v,.slice (some ad) m c]).run P w= .ok v' w'/\Fit w0 (aC (rowOf e sz enc v' (l++news)::L)) w':=by
 subst hsize;subst hby;have hlen:(news.flatMap enc).length=m*i.size:=by rw[he.flat,hm]
 have Us:((l.length+m:Nat):Int)<=9223372036854775807:=by simp only[maxLen]at h63;omega
 have grown:∀old,old<l.length+m->Fit w0 (aC L) w->
  Fit w0 (aC (rowOf e i.size enc (.slice (some ⟨w.heap.size,0,none⟩) (l.length+m) (grownCap w (l.length+m) old e)) (l++news)::L))
   (w.drew.alloc (.cells ((l.flatMap enc).toArray++(news.flatMap enc).toArray++Builtin.zeroCells z.cells (grownCap w (l.length+m) old e-(l.length+m))) e)):=by
  intro old ho hF;have hge:=grownCap_ge w (l.length+m) old e;have Zb:grownCap w (l.length+m) old e<=maxLen:=grownCap_le_maxLen w (l.length+m) old e h63;refine(hF.drew.alloc _).head λx hx=>.inr ⟨w.heap.size,_,_,by rw[jP,hm],by rw[jP,hm];exact hge,Zb,?_,?_,hx⟩
  ·simp only[Array.size_append,Cd,size_zeroCells,hzs,he.flat,hm,<-tO]
   congr 1
   omega
  ·rw[CU,jP,hm];simp only[Array.toList_append];rw[show(l.length+m)*i.size=((l.flatMap enc)++(news.flatMap enc)).length by rw[jP,hlen,he.flat,tO]];exact EM
 rcases h.rows with ⟨rfl,rfl,hF⟩ | ⟨g,cap,rfl,hc,hF⟩
 ·by_cases Rp:m=0
  ·subst Rp;have hn:news=[]:=FY hm;subst hn;refine⟨.slice none 0 0,w,?_,hF.fX⟩;simp[Builtin.append_,run_underlying ht,sizeOf,typeInfo,hi,Builtin.lenOf,Builtin.firstCells,loadCells,loadCellsFrom]
  ·have hr:=run_append_nil (P:=P) w t ty e i z ht hi hz ad m c (news.flatMap enc) hlen hnews aB (by simp at Us;omega) (by have hb:=hbytes;simp only[zS,Ae]at hb;omega);have hg:=grown 0 aB hF;simp only[zS,Ae,zb,List.flatMap_nil,Array.empty_append]at hg;exact⟨_,_,hr,by simpa using hg⟩
 ·obtain⟨cur,hs,Zc,hP⟩:=hF.oN;obtain⟨_,Zb⟩:=hF.xo;by_cases hroom:l.length+m<=cap
  ·have hfit:l.length*i.size+(news.flatMap enc).length<=cur.size:=by rw[hlen,hs,<-tO];exact ru _ hroom
   have hr:=run_append_room (P:=P) w t ty e i ht hi g l.length cap cur hP.block ad m c (news.flatMap enc) hlen hnews (he.yy news) hroom hfit;refine⟨_,_,hr,?_⟩;refine(hP.turn (w':=w.setRow g (cur.toList.take (l.length*i.size)++news.flatMap enc++cur.toList.drop (l.length*i.size+(news.flatMap enc).length)).toArray) (setRow_heap w g cur _ e _ hP.block) (λk hk _=>setRow_other w g k _ hk) rfl rfl rfl (by simp)).head ?_;intro x hx;refine .inr ⟨g,cap,_,by rw[jP,hm],by rw[jP,hm];exact hroom,Zb,?_,?_,hx⟩
   ·simp only[Cd,jP,tP,AB,tQ];omega
   ·rw[Zc,CU,jP,hm];rw[show(l.length+m)*i.size=((l.flatMap enc)++(news.flatMap enc)).length by rw[jP,hlen,he.flat,tO]];exact EM
  ·have holds:∀j afv,(l.flatMap enc)[j]? = some afv->w.cell? ((⟨g,0,none⟩:Addr).add j)=some afv:=by
    intro j afv hu;rw[u5,Ae];refine hP.cell j ?_;rw[<-Zc,List.getElem?_take]at hu;split at hu
    ·simpa using hu
    ·cases hu
   have hr:=run_append_grow (P:=P) w t ty e i z ht hi hz ⟨g,0,none⟩ l.length cap (l.flatMap enc) (he.flat l) holds ad m c (news.flatMap enc) hlen hnews aB Us (growslice_fits aB hbytes);exact⟨_,_,hr,grown cap aB hP.drop⟩
end
end SL
end
section
namespace GX
open Go Go.RowKit SL
def lk:List (Nat×Value)->(Nat->Value)->Nat->Value
 | [],j,t=>j t
 | (k,v)::r,j,t=>bif Nat.beq t k then v else lk r j t
def eO(e:Nat->Value):Operand->Value
 | .tmp t=>e t
 | .const v=>v
 | .global g=>.pointer (some ⟨g,0,none⟩)
 | .func f=>.func (.func f) #[] #[]
structure cS(D:List Deferred)(n:Nat)(e:Nat->Value)(a:Act):Prop where
 size:a.tmps.size=n
 get:∀t,a.tmps.getD t undef=e t
 defers:a.defers=D
abbrev kH(n:Nat)(e:Nat->Value)(a:Act):Prop:=cS [] n e a
section
variable {P:Program}{ops:Array Oper}{Q:Exit->Act->World->Prop}{a:Act}{w w0 w1:World}{rest:List Oper}{o:Oper}{n d t:Nat}{v:Value}{l:List (Nat×Value)}{j e:Nat->Value}{L:List bj}{H:bj}{Df:List Deferred}
theorem cS.eval(h:cS Df n e a):a.eval=eO e:=by
 funext x
 cases x with
 | tmp t=>exact h.get t
 | _=>rfl
theorem cS.put(h:cS Df n (lk l j) a)(d:Nat)(v:Value)(hd:Nat.blt d n=true):cS Df n (lk ((d,v)::l) j) (a.put (some d) v):=by
 have hd':d<a.tmps.size:=by rw[h.size];exact oI hd
 refine⟨by simp[Act.put,h.size],λt => ?_,h.defers⟩;show(a.tmps.setIfInBounds d v).getD t undef=bif Nat.beq t d then v else lk l j t;rw[<-h.get t];by_cases e:t=d
 ·subst e;simp[xm,hd']
 ·have hb:Nat.beq t d=false:=by
   cases hb:Nat.beq t d with
   | false=>rfl
   | true=>exact absurd (N8 hb) e
  rw[hb];simp[xm,Array.getElem?_setIfInBounds_ne (Ne.symm e)]
def allEq(e:Nat->Value):List (Nat×Value)->Prop
 | []=>True
 | (t,v)::r=>e t=v/\allEq e r
theorem u6:∀{l:List (Nat×Value)},allEq e l->lk l e=e
 | [],_=>rfl
 | (k,v)::r,h=>by
  funext t
  show(bif Nat.beq t k then v else lk r e t)=e t;rw[u6 h.2];cases hb:Nat.beq t k with
  | false=>rfl
  | true=>have:=N8 hb;subst this;exact h.1.symm
theorem cS.fold(h:cS Df n e a)(l:List (Nat×Value))(hl:allEq e l) :∃j,cS Df n (lk l j) a:=⟨e,by rw[u6 hl];exact h⟩
theorem wn(h:o.guard=none):Region.wanted o (yielded ops a.tmps)=true:=by simp[Region.wanted,h]
theorem wg{i:Nat}{b b':Bool}(hr:cS Df n e a)(hg:o.guard=some (i,b))(hi:(ops[i]?).bind (·.dst)=some t)(ht:Nat.blt t n=true)(he:e t= .bool b') :
 Region.wanted o (yielded ops a.tmps)=(b'==b):=by
 have ht':t<a.tmps.size:=by rw[hr.size];exact oI ht
 have hg2:a.tmps[t]? = some (.bool b'):=by
  have:=hr.get t;rw[he,xm,Array.getElem?_eq_getElem ht']at this;rw[Array.getElem?_eq_getElem ht']
  simpa using this
 simp only[Region.wanted,hg,yielded,hi,Option.bind_some,hg2];cases b'<;>cases b<;>rfl
theorem vW(hw:tN o ops a)(h:o.wp P a w (wpList P ops Q rest) Q):wpList P ops Q (o::rest) a w:=by
 unfold wpList;rw[aW hw];exact .inl h
theorem zd(hw:tN o ops a)(hd:o.dst=some d)(hn:Nat.blt d n=true)(hr:cS Df n (lk l j) a)
 (hrun:(execOp (eO (lk l j)) o).run P w= .ok (.value v) w) (k:∀a,cS Df n (lk ((d,v)::l) j) a->wpList P ops Q rest a w):wpList P ops Q (o::rest) a w:=by
 refine vW hw ?_;unfold Oper.wp;rw[hr.eval,hrun,Oper.upon_value,hd];exact k _ (hr.put d v hn)
theorem qW(hw:tN o ops a)(hd:o.dst=some d)(hn:Nat.blt d n=true)(hr:cS Df n (lk l j) a)
 (hrun:(execOp (eO (lk l j)) o).run P w= .ok (.value v) w1) (k:∀a,cS Df n (lk ((d,v)::l) j) a->wpList P ops Q rest a w1):wpList P ops Q (o::rest) a w:=by
 refine vW hw ?_;unfold Oper.wp;rw[hr.eval,hrun,Oper.upon_value,hd];exact k _ (hr.put d v hn)
theorem CW(hw:tN o ops a)(hd:o.dst=none)(hr:cS Df n (lk l j) a)
 (hrun:(execOp (eO (lk l j)) o).run P w= .ok .skip w1) (k:wpList P ops Q rest a w1):wpList P ops Q (o::rest) a w:=by
 refine vW hw ?_;unfold Oper.wp;rw[hr.eval,hrun,Oper.upon_skip,hd];exact k
theorem MP(hw:Region.wanted o (yielded ops a.tmps)=false)(hd:o.dst=some d)(hn:Nat.blt d n=true)(hr:cS Df n (lk l j) a)
 (k:∀a,cS Df n (lk ((d,undef)::l) j) a->wpList P ops Q rest a w):wpList P ops Q (o::rest) a w:=by
 unfold wpList;rw[dN hw,hd];exact k _ (hr.put d undef hn)
theorem MQ{cs:Array Value}{T:TypeId}{vf:Nat->Value}(hw:tN o ops a)(hd:o.dst=some d)(hn:Nat.blt d n=true)(hr:cS Df n (lk l j) a)(hF:Fit w0 (aC L) w)
 (hrun:(execOp (eO (lk l j)) o).run P w= .ok (.value (vf w.heap.size)) (w.alloc (.cells cs T)))
 (k:∀b w1 a,Fit w0 (aC (pts b (.cells cs T)::L)) w1->cS Df n (lk ((d,vf b)::l) j) a->wpList P ops Q rest a w1):wpList P ops Q (o::rest) a w:=
 qW hw hd hn hr hrun λ_ IB=>k _ _ _ (hF.alloc _) IB
theorem s7{f:FuncId}{args:Array Value}{afw:Ending->World->Prop}(hw:tN o ops a)(hd:o.dst=some d)(hn:Nat.blt d n=true)(hr:cS Df n (lk l j) a)
 (hrun:(execOp (eO (lk l j)) o).run P w= .ok (.enter f args) w) (hc:Calls P f args w afw)
 (k:∀e w1,afw e w1->∃v,e= .returned v/\∀a,cS Df n (lk ((d,v)::l) j) a->wpList P ops Q rest a w1):wpList P ops Q (o::rest) a w:=by
 refine vW hw ?_;unfold Oper.wp;rw[hr.eval,hrun,Oper.upon_enter,hd];refine hc.mono λe w1 h => ?_;obtain⟨v,rfl,h2⟩:=k e w1 h;exact h2 _ (hr.put d v hn)
theorem rb{b c:Bool}{s:Sem Next}{w w':World}(h:s.run P w= .ok (.value (.bool b)) w')(hz:b=c):s.run P w= .ok (.value (.bool c)) w':=hz▸ h
theorem i64_in(x:Int)(h:-9223372036854775808<=x/\x<=9223372036854775807):IntKind.i64.wrap x=x:=IntWalk.i64_in _ h
def wH:Option TypeDesc->Bool
 | some (.struct _)=>false
 | some (.array _ _)=>false
 | some _=>true
 | none=>false
theorem Je{t:TypeId}(h:wH (P.underlying t)=true):(isAgg t).run P w= .ok false w:=by
 cases hu:P.underlying t with
 | none=>rw[hu]at h;cases h
 | some D =>
  rw[hu]at h;simp only[isAgg,ng,run_underlying hu,nh];cases D<;>first | rfl | cases h
theorem rl{x:Operand}{ad:Addr}(ho:o.op= .load t x)(hx:eO e x= .pointer (some ad))(hu:wH (P.underlying t)=true)(hc:w.cell? ad=some v) :
 (execOp (eO e) o).run P w= .ok (.value v) w:=by
 unfold execOp;simp only[ho,Instr.loadAt,hx,Instr.sureAddr,loadVar,ng,sM,nh,Je hu];simp[go_sem,hc]
theorem rs{x y:Operand}{ad:Addr}{afv:Value}(ho:o.op= .store t x y)(hx:eO e x= .pointer (some ad))(hy:eO e y=v)(hv:v.cells=#[v])(h1:v.oneCell'=true)(hs:(P.info? t).map (·.size)=some 1)(hc:w.cell? ad=some afv)(hf:w.frozen? ad=false) :
 (execOp (eO e) o).run P w= .ok .skip (w.setCell ad v):=by
 have hst:(Instr.storeAt t (.pointer (some ad)) v).run P w= .ok () (w.setCell ad v):=by
  cases hi:P.info? t with
  | none=>simp[hi]at hs
  | some i =>
   simp[hi]at hs;have ha:ad.add 0=ad:=by unfold Addr.add;rw[aW rfl]
   simp only[Instr.storeAt,Instr.sureAddr,storeVar,ng,sM,nh,sizeOf,typeInfo,hv,run_program,hi];simp[storeCells,ha,hs,run_store P w ad v _ h1,hc,hf]
 unfold execOp;simp only[ho,hx,hy,ng,hst,nh,sM]
theorem qX{c x y:Operand}{b:Bool}(ho:o.op= .pick c x y)(hc:eO e c= .bool b)(hb:b=true)(hx:eO e x=v):(execOp (eO e) o).run P w= .ok (.value v) w:=by
 subst hb;subst hx;unfold execOp;simp[ho,hc,asBool]
theorem nI{c x y:Operand}{b:Bool}(ho:o.op= .pick c x y)(hc:eO e c= .bool b)(hb:b=false)(hx:eO e y=v):(execOp (eO e) o).run P w= .ok (.value v) w:=by
 subst hb;subst hx;unfold execOp;simp[ho,hc,asBool]
theorem ri{x y:Operand}{g off len cap:Nat}{k:IntKind}{i:Int}{E:TypeId}{sz:Nat}(ho:o.op= .indexAddr t x y)(hx:eO e x= .slice (some ⟨g,off,none⟩) len cap)(hy:eO e y= .int k i)
 (ht:P.underlying t=some (.slice E)) (hs:(P.info? E).map (·.size)=some sz) (h0:0<=i) (h1:i<len):(execOp (eO e) o).run P w= .ok (.value (.pointer (some ⟨g,off+i.toNat*sz,none⟩))) w:=by
 unfold execOp;simp only[ho,hx,hy];cases hi:P.info? E with
 | none=>simp[hi]at hs
 | some q =>
  simp[hi]at hs;simp[Instr.indexAt,run_underlying ht,asIntOf,h0,h1,sizeOf,typeInfo,hi,hs,u5]
theorem ri0{x y:Operand}{g len cap:Nat}{k:IntKind}{i:Int}{E:TypeId}{sz:Nat}(ho:o.op= .indexAddr t x y)(hx:eO e x= .slice (some ⟨g,0,none⟩) len cap)(hy:eO e y= .int k i)
 (ht:P.underlying t=some (.slice E)) (hs:(P.info? E).map (·.size)=some sz) (h0:0<=i) (h1:i<len):(execOp (eO e) o).run P w= .ok (.value (.pointer (some ⟨g,i.toNat*sz,none⟩))) w:=by
 have:=ri (w:=w) ho hx hy ht hs h0 h1
 rwa [Ae]at this
theorem Xf{x y:Operand}{g len cap:Nat}{ca:fR}{k:IntKind}{i:Int}{E:TypeId}{sz:Nat}(hca:ca=some ⟨g,0,none⟩)(ho:o.op= .indexAddr t x y)(hx:eO e x= .slice ca len cap)(hy:eO e y= .int k i)
 (ht:P.underlying t=some (.slice E)) (hs:(P.info? E).map (·.size)=some sz) (h0:0<=i) (h1:i<len):(execOp (eO e) o).run P w= .ok (.value (.pointer (some ⟨g,i.toNat*sz,none⟩))) w:=
 ri0 ho (hca▸ hx) hy ht hs h0 h1
theorem rie{x y:Operand}{g off len cap:Nat}{ca:fR}{k:IntKind}{i:Int}{E:TypeId}{sz:Nat}(hca:ca=some ⟨g,off,none⟩)(ho:o.op= .indexAddr t x y)(hx:eO e x= .slice ca len cap)(hy:eO e y= .int k i)
 (ht:P.underlying t=some (.slice E)) (hs:(P.info? E).map (·.size)=some sz) (h0:0<=i) (h1:i<len):(execOp (eO e) o).run P w= .ok (.value (.pointer (some ⟨g,off+i.toNat*sz,none⟩))) w:=
 ri ho (hca▸ hx) hy ht hs h0 h1
theorem Rq{x y:Operand}{k:IntKind}{p q:Int}{T T':TypeId}(ho:o.op= .binOp .rem T x y T')(hx:eO e x= .int k p)(hy:eO e y= .int k q)(hq:q≠0):(execOp (eO e) o).run P w= .ok (.value (.int k (p.tmod q))) w:=by
 unfold execOp;simp[ho,hx,hy,eqGuard,binOp,Op.intDiv,hq]
theorem acM{x y:Operand}{k:IntKind}{p q:Int}{T T':TypeId}(ho:o.op= .binOp .quo T x y T')(hx:eO e x= .int k p)(hy:eO e y= .int k q)(hq:q≠0):(execOp (eO e) o).run P w= .ok (.value (.int k (k.wrap (p.tdiv q)))) w:=by
 unfold execOp;simp[ho,hx,hy,eqGuard,binOp,Op.intDiv,hq]
theorem KA{K:Act->World->Prop}(h:K a w):Exit.then K Q .normal a w:=h
theorem F6{i:Nat}(h:Q .normal a w):Exit.inBlock i Q .normal a w:=h
theorem Rr{i:Nat}(h:Q .normal a w):Exit.inBlock i Q (.exit i) a w:=by show(if i=i then _ else _);rw[aW rfl];exact h
theorem D1{i i':Nat}(hne:i'≠i)(h:Q (.exit i') a w):Exit.inBlock i Q (.exit i') a w:=by show(if i'=i then _ else _);rw[cF hne];exact h
theorem F7{c:Operand}{x y:Code}{b:Bool}(hr:cS Df n e a)(hc:eO e c= .bool b)(hb:b=true)(h:x.wp P Q a w):(Code.cond c x y).wp P Q a w:=
 wp_cond_true (by rw[hr.eval,hc,hb]) h
theorem F8{c:Operand}{x y:Code}{b:Bool}(hr:cS Df n e a)(hc:eO e c= .bool b)(hb:b=false)(h:y.wp P Q a w):(Code.cond c x y).wp P Q a w:=
 wp_cond_false (by rw[hr.eval,hc,hb]) h
theorem dQ{β:Type}{c:Code}(μ:β->Nat)(afu:β->Act->World->Prop)(x0:β)(h0:afu x0 a w)
 (round:∀x a w,afu x a w->c.wp P (Exit.then (λa w =>∃x',afu x' a w/\μ x'<μ x) Q) a w):(Code.loop c).wp P Q a w:=by
 have key:∀m x a w,μ x=m->afu x a w->∀b k cs,∃e a' w',Q e a' w'/\Arrives P (lone (b.at a (.code c:: .inLoop c::k)) cs w) b k cs e a' w':=by
  intro m
  induction m using Nat.strongRecOn with
  | _ m ih =>
   intro x a w hm hI b k cs;obtain⟨e,a1,w1,hq,KB⟩:=round x a w hI b (.inLoop c::k) cs;cases e with
   | normal =>
    obtain⟨x',hI',hlt⟩:=hq;obtain⟨e2,a2,w2,hq2,ZQ⟩:=ih (μ x') (hm▸ hlt) x' a1 w1 rfl hI' b k cs;exact⟨e2,a2,w2,hq2,.of_steps (Steps.trans KB (.one step_inLoop)) ZQ⟩
   | exit id=>exact⟨_,a1,w1,hq,.pass (x:=.inLoop c) rfl (λ_ _=>.inl (by simp)) KB⟩
   | goto l=>exact⟨_,a1,w1,hq,.pass (x:=.inLoop c) rfl (λ_ _=>.inl (by simp)) KB⟩
   | ret=>exact⟨_,a1,w1,hq,.pass (x:=.inLoop c) rfl (λ_ _=>.inl (by simp)) KB⟩
   | panic ch=>exact⟨_,a1,w1,hq,.pass (x:=.inLoop c) rfl (λ_ _=>.inl (by simp)) KB⟩
   | outgrown=>exact⟨_,a1,w1,hq,.pass (x:=.inLoop c) rfl (λ_ _=>.inl (by simp)) KB⟩
 intro b k cs;obtain⟨e,a',w',hq,KB⟩:=key _ x0 a w rfl h0 b k cs;exact⟨e,a',w',hq,.of_steps (.one step_loop) KB⟩
theorem cY{β:Type}{x y:Code}(afu:β->Act->World->Prop)(h:x.wp P (Exit.then (λa w =>∃g,afu g a w) Q) a w)(k:∀g a w,afu g a w->y.wp P Q a w):(Code.seq x y).wp P Q a w:=
 wp_seq (Code.wp_mono (λe a w q=>by
  cases e with
  | normal=>obtain⟨g,hg⟩:=q;exact k g a w hg
  | _=>exact q) h)
theorem F9(args:Array Value)(m t:Nat):(args++Array.replicate m undef).getD t undef=args.getD t undef:=by
 simp only[xm,Array.getElem?_append,Array.getElem?_replicate];by_cases h:t<args.size
 ·rw[aW h]
 ·rw[cF h,Array.getElem?_eq_none aB];split<;>rfl
theorem enter{f:FuncId}{fn:Func}{c:Code}{args:Array Value}{afw:Ending->World->Prop}(hf:P.funcs[f]? = some fn)(hb:fn.body=some c)(n:Nat)(hn:fn.ntmps=n)(hs:Nat.ble args.size n=true)
 (l:List (Nat×Value)) (hl:allEq (λt=>args.getD t undef) l) (k:∀j a,kH n (lk l j) a->c.wp P (bodyPost P fn afw) a w):Calls P f args w afw:=by
 refine calls_of_wp hf hb (k (λt=>args.getD t undef) _ ?_);rw[u6 hl];refine⟨?_,λt=>F9 args _ t,rfl⟩;have:=oI hs;simp[hn];omega
theorem yz{fn:Func}{afw:Ending->World->Prop}{t:Nat}(hres:fn.results=#[.tmp t])(hr:kH n e a)(hv:e t=v)(h:afw (.returned v) w):bodyPost P fn afw .ret a w:=
 bodyPost_ret (by rw[results_tmp hres,hr.get,hv]) hr.defers h
theorem Ga{fn:Func}{afw:Ending->World->Prop}{t t':Nat}{v':Value}(hres:fn.results=#[.tmp t,.tmp t'])(hr:kH n e a)(hv:e t=v)(Xg:e t'=v')(h:afw (.returned (.tuple #[v,v'])) w):bodyPost P fn afw .ret a w:=
 bodyPost_ret (by rw[results_tmp2 hres,hr.get,hr.get,hv,Xg]) hr.defers h
theorem KC{fn:Func}{afw:Ending->World->Prop}(hres:fn.results=#[])(hr:kH n e a)(h:afw (.returned (.tuple #[])) w):bodyPost P fn afw .ret a w:=
 bodyPost_ret (results_none hres _ _ _) hr.defers h
theorem p7{fn:Func}{afw:Ending->World->Prop}(hres:fn.results=#[])(hr:kH n e a)(h:afw (.returned (.tuple #[])) w):bodyPost P fn afw .normal a w:=
 bodyPost_end (results_none hres _ _ _) hr.defers h
end
def J{α:Type}[Inhabited α](l:List α)(i:Nat):α:=l.getD i default
theorem get_at{α:Type}[Inhabited α]{l:List α}{i:Nat}(h:i<l.length):l[i]? = some (J l i):=by
 unfold J;rw[List.getD_eq_getElem?_getD,List.getElem?_eq_getElem h];rfl
theorem tC{α:Type}[Inhabited α]{l:List α}{i:Nat}{x:α}(h:i<l.length):J (l.set i x) i=x:=by
 unfold J;rw[List.getD_eq_getElem?_getD,List.getElem?_set_self h];rfl
theorem yA{α:Type}[Inhabited α]{l:List α}{i k:Nat}{x:α}(h:i≠k):J (l.set i x) k=J l k:=by
 unfold J;rw[List.getD_eq_getElem?_getD,List.getElem?_set_ne h,List.getD_eq_getElem?_getD]
theorem rZ{α:Type}[Inhabited α]{l m:List α}{i:Nat}(h:i<l.length):J (l++m) i=J l i:=by
 unfold J;rw[List.getD_eq_getElem?_getD,List.getElem?_append_left h,List.getD_eq_getElem?_getD]
theorem vz{α:Type}[Inhabited α]{l m:List α}{i:Nat}(h:l.length<=i):J (l++m) i=J m (i-l.length):=by
 unfold J;rw[List.getD_eq_getElem?_getD,List.getElem?_append_right h,List.getD_eq_getElem?_getD]
theorem dK{α:Type}{l:List α}{i:Nat}{x:α}(h:i<l.length):(l.set i x)[i]? = some x:=List.getElem?_set_self h
def qK(w:World)(b:Nat):Nat->List Value->Prop
 | _,[]=>True
 | off,v::r=>w.cell? ⟨b,off,none⟩=some v/\qK w b (off+1) r
theorem wm{w:World}{b:Nat}:∀{cs:List Value} {off:Nat},qK w b off cs->∀j v,cs[j]? = some v->w.cell? ((⟨b,off,none⟩:Addr).add j)=some v
 | [],_,_,j,v,h=>by simp at h
 | afv::r,off,hh,j,v,h=>by
  cases j with
  | zero=>simp at h;subst h;rw[u5];exact hh.1
  | succ j =>
   have:=wm hh.2 j v (by simpa using h);rw[u5]at this⊢;rw[show off+(j+1)=off+1+j by omega];exact this
section
variable {P:Program}{ops:Array Oper}{Q:Exit->Act->World->Prop}{a:Act}{w w0 w1:World}{rest:List Oper}{o:Oper}{n d t:Nat}{v:Value}{l:List (Nat×Value)}{j e:Nat->Value}{L:List bj}{H:bj}{Df:List Deferred}
def tS:Option TypeDesc->Bool
 | some (.struct _)=>true
 | some (.array _ _)=>true
 | _=>false
theorem uQ{t:TypeId}(h:tS (P.underlying t)=true):(isAgg t).run P w= .ok true w:=by
 cases hu:P.underlying t with
 | none=>rw[hu]at h;cases h
 | some D =>
  rw[hu]at h;simp only[isAgg,ng,run_underlying hu,nh];cases D<;>first | rfl | cases h
theorem rlm{x:Operand}{b off:Nat}{cs:List Value}(ho:o.op= .load t x)(hx:eO e x= .pointer (some ⟨b,off,none⟩))(hu:tS (P.underlying t)=true)
 (hs:(P.info? t).map (·.size)=some cs.length) (hc:qK w b off cs):(execOp (eO e) o).run P w= .ok (.value (.agg cs.toArray)) w:=by
 have hl:=run_loadCells_list (P:=P) w ⟨b,off,none⟩ cs (wm hc);unfold execOp;cases hi:P.info? t with
 | none=>simp[hi]at hs
 | some q =>
  simp[hi]at hs;simp only[ho,Instr.loadAt,hx,Instr.sureAddr,loadVar,ng,sM,nh,uQ hu,if_true,sizeOf,typeInfo,run_program,hi,hs,hl]
theorem Rs{fn:Func}{afw:Ending->World->Prop}{t T b off:Nat}{cs:List Value}(hres:fn.results=#[.cell t T])(hr:kH n e a)(hv:e t= .pointer (some ⟨b,off,none⟩))(hu:tS (P.underlying T)=true)
 (hs:(P.info? T).map (·.size)=some cs.length) (hc:qK w b off cs) (h:afw (.returned (.agg cs.toArray)) w):bodyPost P fn afw .ret a w:=by
 have hl:=run_loadCells_list (P:=P) w ⟨b,off,none⟩ cs (wm hc);refine bodyPost_ret ?_ hr.defers h;cases hi:P.info? T with
 | none=>simp[hi]at hs
 | some q =>
  simp[hi]at hs;have hg:=hr.get t;rw[hv,xm]at hg;simp[results,hres,hg,asAddr,loadVar,uQ hu,sizeOf,typeInfo,hi,hs,hl]
theorem PL{fn:Func}{afw:Ending->World->Prop}{t T b off afv:Nat}{cs:List Value}(hres:fn.results=#[.cell t T,.tmp afv])(hr:kH n e a)(hv:e t= .pointer (some ⟨b,off,none⟩))(Xg:e afv=v)(hu:tS (P.underlying T)=true)
 (hs:(P.info? T).map (·.size)=some cs.length) (hc:qK w b off cs) (h:afw (.returned (.tuple #[.agg cs.toArray,v])) w):bodyPost P fn afw .ret a w:=by
 have hl:=run_loadCells_list (P:=P) w ⟨b,off,none⟩ cs (wm hc);refine bodyPost_ret ?_ hr.defers h;cases hi:P.info? T with
 | none=>simp[hi]at hs
 | some q =>
  simp[hi]at hs;have hg:=hr.get t;rw[hv,xm]at hg;have Oe:=hr.get afv;rw[Xg,xm]at Oe;simp[results,hres,hg,Oe,asAddr,loadVar,uQ hu,sizeOf,typeInfo,hi,hs,hl]
theorem Rt{x y:Operand}{b i:Nat}{cs:Array Value}{T:TypeId}{afv:Value}(hw:tN o ops a)(hd:o.dst=none)(hr:cS Df n (lk l j) a)(ho:o.op= .store t x y)
 (hx:eO (lk l j) x= .pointer (some ⟨b,i,none⟩)) (hy:eO (lk l j) y=v) (hv:v.cells=#[v]) (h1:v.oneCell'=true) (hs:(P.info? t).map (·.size)=some 1)
 (hF:Fit w0 (aC (pts b (.cells cs T)::L)) w) (hc:cs[i]? = some afv) (k:∀w1,Fit w0 (aC (pts b (.cells (cs.setIfInBounds i v) T)::L)) w1->wpList P ops Q rest a w1):wpList P ops Q (o::rest) a w:=
 CW hw hd hr (rs ho hx hy hv h1 hs (hF.cell i hc) (hF.free i)) (k _ (hF.set i v))
theorem IC{x y:Operand}{b:Nat}{cs cs':Array Value}{T:TypeId}{vs:List Value}(hw:tN o ops a)(hd:o.dst=none)(hr:cS Df n (lk l j) a)(ho:o.op= .store t x y)
 {i:Nat} (hx:eO (lk l j) x= .pointer (some ⟨b,i,none⟩)) (hy:eO (lk l j) y= .agg vs.toArray) (h1:vs.all (·.oneCell')=true) (hfit:Nat.ble (i+vs.length) cs.size=true) (hs:(P.info? t).map (·.size)=some vs.length)
 (hF:Fit w0 (aC (pts b (.cells cs T)::L)) w) (hcs:(cs.toList.take i++vs++cs.toList.drop (i+vs.length)).toArray=cs') (k:∀w1,Fit w0 (aC (pts b (.cells cs' T)::L)) w1->wpList P ops Q rest a w1):wpList P ops Q (o::rest) a w:=by
 have hst:=run_storeCells_at P b i T vs 0 cs w hF.block (by simpa using oI hfit) (by simpa using h1);simp only[EN,hcs]at hst;refine CW (w1:=w.setRow b cs') hw hd hr ?_ (k _ ?_)
 ·unfold execOp;cases hi:P.info? t with
  | none=>simp[hi]at hs
  | some q =>
   simp[hi]at hs;simp only[ho,hx,hy,Instr.storeAt,Instr.sureAddr,storeVar,ng,sM,nh,sizeOf,typeInfo,run_program,hi,Value.cells];simp[hs,hst]
 ·exact hF.turn (w':=w.setRow b cs') (setRow_heap w b cs cs' T (0,0) hF.block) (λk hk _=>setRow_other w b k _ hk) rfl rfl rfl (by simp)
section
variable {α:Type}{E:TypeId}{sz g cap:Nat}{enc:α->List Value}{xs:List α}
theorem Jf{x y:Operand}(hw:tN o ops a)(hd:o.dst=none)(hr:cS Df n (lk l j) a)(ho:o.op= .store t x y)
 {i f:Nat} (hx:eO (lk l j) x= .pointer (some ⟨g,i*sz+f,none⟩)) (hy:eO (lk l j) y=v) (hv:v.cells=#[v]) (h1:v.oneCell'=true) (hs:(P.info? t).map (·.size)=some 1)
 (he:sH enc sz) (hF:Fit w0 (aC (slc E sz enc g cap xs::L)) w) {p q:α} (hp:xs[i]? = some p) (hf:f<sz) (hq:enc q=(enc p).set f v)
 (k:∀w1,Fit w0 (aC (slc E sz enc g cap (xs.set i q)::L)) w1->wpList P ops Q rest a w1):wpList P ops Q (o::rest) a w:=by
 have hu:(enc p)[f]? = some (enc p)[f]!:=by
  have:f<(enc p).length:=by rw[he.len];exact hf
  rw[List.getElem?_eq_getElem this,List.getElem!_eq_getElem?_getD,List.getElem?_eq_getElem this]
  rfl
 exact CW hw hd hr (rs ho hx hy hv h1 hs (hF.Od he i f p _ hp hu) (hF.Ro _)) (k _ (hF.Ur he i f p q v hp hf hq))
theorem Hw{x y:Operand}{vs:List Value}(hw:tN o ops a)(hd:o.dst=none)(hr:cS Df n (lk l j) a)(ho:o.op= .store t x y)
 {i:Nat} (hx:eO (lk l j) x= .pointer (some ⟨g,i*sz,none⟩)) (hy:eO (lk l j) y= .agg vs.toArray) (h1:vs.all (·.oneCell')=true) (hs:(P.info? t).map (·.size)=some vs.length)
 (he:sH enc sz) (hF:Fit w0 (aC (slc E sz enc g cap xs::L)) w) {q:α} (hi:i<xs.length) (hq:enc q=vs)
 (k:∀w1,Fit w0 (aC (slc E sz enc g cap (xs.set i q)::L)) w1->wpList P ops Q rest a w1):wpList P ops Q (o::rest) a w:=by
 obtain⟨Hl,E4⟩:=hF.xo;obtain⟨cur,Wg,Q5,hP⟩:=hF.oN;have hvl:vs.length=sz:=by rw[<-hq,he.len]
 have hle:i*sz+sz<=xs.length*sz:=by
  have:(i+1)*sz<=xs.length*sz:=ru _ hi;rw[tO]at this;omega
 have Xh:xs.length*sz<=cap*sz:=ru _ Hl;have hst:=run_storeCells_at P g (i*sz) E vs 0 cur w hP.block (by rw[hvl];omega) (by simpa using h1);simp only[EN]at hst;refine CW (w1:=w.setRow g (cur.toList.take (i*sz)++vs++cur.toList.drop (i*sz+vs.length)).toArray) hw hd hr ?_ (k _ ?_)
 ·unfold execOp;cases wI:P.info? t with
  | none=>simp[wI]at hs
  | some q =>
   simp[wI]at hs;simp only[ho,hx,hy,Instr.storeAt,Instr.sureAddr,storeVar,ng,sM,nh,sizeOf,typeInfo,run_program,wI,Value.cells];simp[hs,hst]
 ·refine(hP.turn (w':=w.setRow g (cur.toList.take (i*sz)++vs++cur.toList.drop (i*sz+vs.length)).toArray) (setRow_heap w g cur _ E (0,0) hP.block) (λk hk _=>setRow_other w g k _ hk) rfl rfl rfl (by simp)).head λz hz=>⟨by simpa using Hl,E4,_,?_,?_,hz⟩
  ·simp only[Cd,jP,tP,AB,tQ,hvl];omega
  ·rw[hU,he.set xs i q hi,hq,<-Q5];have hA:(cur.toList.take (i*sz)).length=i*sz:=by rw[tP,tQ];omega
   have e1:(cur.toList.take (i*sz)++vs++cur.toList.drop (i*sz+vs.length)).take (xs.length*sz)=cur.toList.take (i*sz)++vs++(cur.toList.drop (i*sz+vs.length)).take (xs.length*sz-(i*sz+sz)):=by
    rw[It,EL (by rw[jP,hA,hvl];exact hle),jP,hA,hvl]
   rw[Iu,e1,List.take_take,zR aB,Iv,hvl]
theorem kY{ca:fR}{n0 cc bytes:Nat}{s x:Operand}{ad:Addr}{m c:Nat}(hw:tN o ops a)(hd:o.dst=some d)(hn:Nat.blt d n=true)(hr:cS Df n (lk l j) a)
 (ho:o.op= .call {callee:=.builtin .append,args:=#[s,x],argTypes:=#[t,t]}) (hs:eO (lk l j) s= .slice ca n0 cc) (hx:eO (lk l j) x= .slice (some ad) m c)
 (he:sH enc sz) (hty:P.underlying t=some (.slice E)) (qO:(P.info? E).map (λi=>(i.size,i.bytes,i.zero.map (·.cells.size)))=some (sz,bytes,some sz))
 (hF:Fit w0 (aC (rowOf E sz enc (.slice ca n0 cc) xs::L)) w) {news:List α} (hm:news.length=m) (hnews:∀j afv,(news.flatMap enc)[j]? = some afv->w.cell? (ad.add j)=some afv)
 (hb:(xs.length+m)*bytes<=140737488355328) (MB:Nat.blt 0 bytes=true)
 (k:∀ca cc w1 a,Fit w0 (aC (rowOf E sz enc (.slice ca (xs++news).length cc) (xs++news)::L)) w1->cS Df n (lk ((d,.slice ca (xs++news).length cc)::l) j) a->wpList P ops Q rest a w1):wpList P ops Q (o::rest) a w:=by
 have Ho:=hF.p6;subst Ho;cases hi:P.info? E with
 | none=>simp[hi]at qO
 | some i =>
  simp only[hi,ux,Option.some.injEq,Prod.mk.injEq]at qO;obtain⟨i1,i2,i3⟩:=qO;cases hz:i.zero with
  | none=>simp[hz]at i3
  | some zv =>
   simp only[hz,ux,Option.some.injEq]at i3;have KD:0<bytes:=oI MB;have h63:xs.length+m<=maxLen:=by
    have:xs.length+m<=(xs.length+m)*bytes:=Kr _ KD;simp only[maxLen];omega
   obtain⟨v',w',hrun,Ch⟩:=F5 (P:=P) he t o.type i zv bytes hty hi hz i1 i2 i3 hF ad m c news hm hnews h63 hb;obtain⟨a',cap',e,_,_⟩:=Ch.FD;subst e;refine qW hw hd hn hr ?_ (λa hr=>k a' cap' w' a Ch hr);unfold execOp;simp only[ho,resolve,invoke,builtin,ng,sM,nh,EO,zT,AD,hs,hx,hrun]
end
end
section
variable {α:Type}{sz:Nat}{enc:α->List Value}
theorem Gb(he:sH enc sz)(zc:Array Value)(z0:α)(hz:zc.toList=enc z0)(n:Nat) :
 ((Array.range (n*sz)).map λi=>zc[i%zc.size]!).toList=(List.replicate n z0).flatMap enc:=by
 have hs:zc.size=sz:=by rw[<-tQ,hz,he.len]
 have hpos:=he.pos
 apply yu
 intro i;rw[Array.toList_map,Array.toList_range,List.getElem?_map];by_cases hi:i<n*sz
 ·have hd:i/sz<n:=(Nat.div_lt_iff_lt_mul hpos).2 hi;have hm:i%sz<sz:=Nat.mod_lt _ hpos;have hg:=he.get (List.replicate n z0) (i/sz) (i%sz) z0 (by rw[List.getElem?_replicate,aW hd]) hm;rw[show i/sz*sz+i%sz=i by rw[Nat.mul_comm];exact Nat.div_add_mod i sz]at hg;rw[hg,List.getElem?_range hi,<-hz,hs];have hm':i%sz<zc.size:=by omega
  simp[hm']
 ·rw[List.getElem?_eq_none (by simp;omega),List.getElem?_eq_none (by rw[he.flat,lY];omega)]
  rfl
end
section
variable {P:Program}{ops:Array Oper}{Q:Exit->Act->World->Prop}{a:Act}{w w0 w1:World}{rest:List Oper}{o:Oper}{n d t:Nat}{v:Value}{l:List (Nat×Value)}{j e:Nat->Value}{L:List bj}{H:bj}{Df:List Deferred}
variable {α:Type}{E:TypeId}{sz g cap:Nat}{enc:α->List Value}{xs:List α}
theorem Of{bytes:Nat}{zc:Array Value}(h:(P.info? E).map (λi=>(i.size,i.bytes,i.zero.map (·.cells)))=some (sz,bytes,some zc)) :
 ∃i z,P.info? E=some i/\i.size=sz/\i.bytes=bytes/\i.zero=some z/\z.cells=zc:=by
 cases hi:P.info? E with
 | none=>simp[hi]at h
 | some i =>
  simp only[hi,ux,Option.some.injEq,Prod.mk.injEq]at h;obtain⟨h1,h2,h3⟩:=h;cases hz:i.zero with
  | none=>simp[hz]at h3
  | some z=>exact⟨i,z,rfl,h1,h2,hz,by simpa [hz]using h3⟩
theorem Ut{x y:Operand}{c:Nat}{i:Int}{bytes:Nat}{zc:Array Value}(z0:α)(hw:tN o ops a)(hd:o.dst=some d)(hn:Nat.blt d n=true)(hr:cS Df n (lk l j) a)
 (ho:o.op= .makeSlice t x y) (hx:eO (lk l j) x= .int .i64 i) (hy:eO (lk l j) y= .int .i64 i) (hi:i=c) (he:sH enc sz) (hty:P.underlying t=some (.slice E))
 (qO:(P.info? E).map (λi=>(i.size,i.bytes,i.zero.map (·.cells)))=some (sz,bytes,some zc)) (hz:zc.toList=enc z0) (hb:c*bytes<=140737488355328) (MB:Nat.blt 0 bytes=true) (hF:Fit w0 (aC L) w)
 (k:∀g w1 a,Fit w0 (aC (slc E sz enc g c (List.replicate c z0)::L)) w1->cS Df n (lk ((d,.slice (some ⟨g,0,none⟩) c c)::l) j) a->wpList P ops Q rest a w1):wpList P ops Q (o::rest) a w:=by
 obtain⟨q,z,hq,h1,h2,h3,h4⟩:=Of qO;have KD:0<bytes:=oI MB;have hc:c<=c*bytes:=Kr _ KD;subst hi;have hcb:((q.bytes:Nat):Int)*(c:Int)<=281474976710656:=by
  have acN:((c*bytes:Nat):Int)<=140737488355328:=by omega
  rw[h2,Int.mul_comm];simp only[Int.natCast_mul]at acN;omega
 have hrun:=run_make (P:=P) w t E q z hty hq h3 .i64 .i64 (c:Int) (c:Int) aB aB hcb aB;have hs:zc.size=sz:=by rw[<-tQ,hz,he.len]
 have hcells:(madeCells z.cells ((c:Int).toNat*q.size)).toList=(List.replicate c z0).flatMap enc:=by
  rw[h1,h4,dc];exact Gb he zc z0 hz c
 refine qW (w1:=w.alloc (.cells (madeCells z.cells ((c:Int).toNat*q.size)) E)) hw hd hn hr (v:=.slice (some ⟨w.heap.size,0,none⟩) c c) ?_ (λa hr=>k w.heap.size _ a ?_ hr)
 ·unfold execOp;simp only[ho,hx,hy,ng,hrun,nh,sM,dc]
 ·refine(hF.alloc _).head λx hx=>⟨by simp,by simp only[maxLen];omega,_,?_,?_,hx⟩
  ·rw[<-tQ,hcells,he.flat,lY]
  ·rw[hcells,lY,EL (by rw[he.flat,lY];exact j9 _)]
theorem Uu{s x:Operand}{ca:fR}{n0 n1 cc:Nat}{ys:List α}(hw:tN o ops a)(hd:o.dst=some d)(hn:Nat.blt d n=true)(hr:cS Df n (lk l j) a)
 (ho:o.op= .call {callee:=.builtin .copy,args:=#[s,x],argTypes:=#[t,t]}) (hs:eO (lk l j) s= .slice (some ⟨g,0,none⟩) n0 cap) (hx:eO (lk l j) x= .slice ca n1 cc) (Ho:n0=xs.length)
 (he:sH enc sz) (hty:P.underlying t=some (.slice E)) (hsz:(P.info? E).map (·.size)=some sz) (hlen:ys.length=xs.length)
 (hF:Fit w0 (aC (slc E sz enc g cap xs::rowOf E sz enc (.slice ca n1 cc) ys::L)) w)
 (k:∀w1 a,Fit w0 (aC (slc E sz enc g cap ys::rowOf E sz enc (.slice ca n1 cc) ys::L)) w1->cS Df n (lk ((d,.int .i64 ((xs.length:Nat):Int))::l) j) a->wpList P ops Q rest a w1):wpList P ops Q (o::rest) a w:=by
 have MC:=(hF.pick 1).p6;subst MC;subst Ho;obtain⟨Hl,E4⟩:=hF.xo;obtain⟨cur,Wg,Q5,hP⟩:=hF.oN;have hcells:(Builtin.firstCells sz (Nat.min ys.length xs.length) (.slice ca ys.length cc)).run P w= .ok (ys.flatMap enc).toArray w:=by
  rw[hlen,show Nat.min xs.length xs.length=xs.length from Nat.min_self _,<-hlen];rcases(hF.pick 1).rows with ⟨e1,e2,_⟩ | ⟨g',cap',e1,_,Ch⟩
  ·simp only[Value.slice.injEq]at e1;rw[e1.1,e2];exact run_firstCells_none (P:=P) w sz _ _ _
  ·simp only[Value.slice.injEq]at e1;rw[e1.1];obtain⟨cur',acO,Xi,hP'⟩:=Ch.oN;refine run_firstCells_some (P:=P) w sz ys.length _ _ _ (ys.flatMap enc) (he.flat ys) ?_;intro j afv hu;rw[u5,Ae];refine hP'.cell j ?_;rw[<-Xi,List.getElem?_take]at hu;split at hu
   ·simpa using hu
   ·cases hu
 have hfl:(ys.flatMap enc).length=xs.length*sz:=by rw[he.flat,hlen]
 have hle:xs.length*sz<=cap*sz:=ru _ Hl;have hst:=run_storeCells_at P g 0 E (ys.flatMap enc) 0 cur w hP.block (by rw[hfl,Wg];omega) (he.yy ys);simp only[EN,Ae,uB,zb]at hst;refine qW (w1:=w.setRow g (ys.flatMap enc++cur.toList.drop (ys.flatMap enc).length).toArray) (v:=.int .i64 ((xs.length:Nat):Int)) hw hd hn hr ?_ (λa hr=>k _ a ?_ hr)
 ·unfold execOp;cases wI:P.info? E with
  | none=>simp[wI]at hsz
  | some q =>
   simp[wI]at hsz;have hmin:Nat.min ys.length xs.length=xs.length:=by rw[hlen];exact Nat.min_self _
   have ZR:Nat.min xs.length xs.length=xs.length:=Nat.min_self _;simp only[ho,resolve,invoke,builtin,ng,sM,nh,EO,zT,AD,hs,hx];rw[hmin]at hcells;rw[hlen]at hcells;simp[Builtin.copy_,run_underlying hty,Builtin.lenOf,sizeOf,typeInfo,wI,hsz,hlen,ZR,hcells,hst,goInt]
 ·refine((hP.turn (w':=w.setRow g (ys.flatMap enc++cur.toList.drop (ys.flatMap enc).length).toArray) (setRow_heap w g cur _ E (0,0) hP.block) (λk hk _=>setRow_other w g k _ hk) rfl rfl rfl (by simp)).head λz hz=>⟨by rw[hlen];exact Hl,E4,_,?_,?_,hz⟩)
  ·simp only[Cd,jP,AB,tQ,hfl];omega
  ·rw[Iu,<-he.flat ys];exact EM
theorem PM{ca:fR}{n0 cc bytes:Nat}{s x:Operand}{tx:TypeId}{m:Nat}{i:Int}{zc:Array Value}{kx:IntKind}(z0:α)(hw:tN o ops a)(hd:o.dst=some d)(hn:Nat.blt d n=true)(hr:cS Df n (lk l j) a)
 (ho:o.op= .call {callee:=.builtin .append,args:=#[s,x],argTypes:=#[t,tx]}) (hs:eO (lk l j) s= .slice ca n0 cc) (hx:eO (lk l j) x= .int .i64 i) (hi:i=m)
 (he:sH enc sz) (hty:P.underlying t=some (.slice E)) (ZS:P.underlying tx=some (.int kx)) (qO:(P.info? E).map (λi=>(i.size,i.bytes,i.zero.map (·.cells)))=some (sz,bytes,some zc)) (hz:zc.toList=enc z0)
 (hF:Fit w0 (aC (rowOf E sz enc (.slice ca n0 cc) xs::L)) w) (hb:(xs.length+m)*bytes<=140737488355328) (MB:Nat.blt 0 bytes=true)
 (k:∀ca cc w1 a,Fit w0 (aC (rowOf E sz enc (.slice ca (xs++List.replicate m z0).length cc) (xs++List.replicate m z0)::L)) w1->cS Df n (lk ((d,.slice ca (xs++List.replicate m z0).length cc)::l) j) a->wpList P ops Q rest a w1):wpList P ops Q (o::rest) a w:=by
 have Ho:=hF.p6;subst Ho;obtain⟨q,zv,hq,h1,h2,h3,h4⟩:=Of qO;have KD:0<bytes:=oI MB;have Zd:m<=m*bytes:=Kr _ KD;have hxx:xs.length<=xs.length*bytes:=Kr _ KD;have aeY:(xs.length+m)*bytes=xs.length*bytes+m*bytes:=tO _ _ _;subst hi;have hzs:zv.cells.size=sz:=by rw[h4,<-tQ,hz,he.len]
 have hzl:(Builtin.zeroCells zv.cells m).toList=(List.replicate m z0).flatMap enc:=by
  have:=Gb he zc z0 hz m;rw[<-h4]at this;rw[<-this,<-hzs]
  rfl
 have hpos:=he.pos;have ZT:∀w,(zeroValue E).run P w= .ok zv w:=λw=>by
  simp only[zeroValue,typeInfo,ng,run_program,hq,nh,sM,h3]
 have Xj:((List.replicate m z0).flatMap enc).length=m*sz:=by rw[he.flat,lY]
 have ZU:=he.yy (List.replicate m z0);have Og:IntKind.i64.wrap (m:Int)=m:=IntWalk.i64_in _ aB;have MC:¬((m:Int)<0):=by omega
 have Wh:¬(281474976710656<(m:Int)*(q.bytes:Int)):=by
  have:((m*bytes:Nat):Int)<=140737488355328:=by omega
  rw[h2];simp only[Int.natCast_mul]at this;omega
 have main :∃v' w',(Builtin.append_ #[t,tx] o.type #[.slice ca xs.length cc,.int .i64 (m:Int)]).run P w= .ok v' w'/\Fit w0 (aC (rowOf E sz enc v' (xs++List.replicate m z0)::L)) w':=by
  by_cases hroom:xs.length+m<=cc
  ·rcases hF.rows with ⟨e1,e2,Ch⟩ | ⟨g,cap,e1,_,Ch⟩
   ·simp only[Value.slice.injEq]at e1;obtain⟨rfl,e3,rfl⟩:=e1;have Rp:m=0:=by omega
    subst Rp;subst e2;refine⟨.slice none 0 0,w,?_,by simpa using Ch.fX⟩;have hw0:IntKind.i64.wrap 0=0:=by rfl
    simp[Builtin.append_,run_underlying hty,run_underlying ZS,sizeOf,typeInfo,hq,asInt,asIntOf,hw0]
   ·simp only[Value.slice.injEq]at e1;obtain⟨rfl,_,rfl⟩:=e1;obtain⟨cur,hs1,Zc,hP⟩:=Ch.oN;obtain⟨Hl,E4⟩:=Ch.xo;have hle:(xs.length+m)*sz<=cc*sz:=ru _ hroom;rw[tO]at hle;have ZV:(xs++List.replicate m z0).flatMap enc=xs.flatMap enc++(List.replicate m z0).flatMap enc:=CU;generalize hZ:(List.replicate m z0).flatMap enc=zl at *;have hst:=run_storeCells_at P g (xs.length*sz) E zl 0 cur w hP.block (by rw[Xj,hs1];omega) ZU;simp only[EN]at hst;refine⟨.slice (some ⟨g,0,none⟩) (xs.length+m) cc,w.setRow g (cur.toList.take (xs.length*sz)++zl++cur.toList.drop (xs.length*sz+zl.length)).toArray,?_,?_⟩
    ·generalize w.setRow g (cur.toList.take (xs.length*sz)++zl++cur.toList.drop (xs.length*sz+zl.length)).toArray=w9 at hst;by_cases Rp:m*sz=0
     ·have hz0:zl=[]:=FY aB;subst hz0;simp[Builtin.append_,run_underlying hty,run_underlying ZS,sizeOf,typeInfo,hq,asInt,asIntOf,Og,MC,Wh,hroom,h1,u5,Rp,hst]
     ·simp[Builtin.append_,run_underlying hty,run_underlying ZS,sizeOf,typeInfo,hq,asInt,asIntOf,Og,MC,Wh,hroom,h1,u5,Rp,ZT,hzl,hst]
    ·refine(hP.turn (w':=w.setRow g (cur.toList.take (xs.length*sz)++zl++cur.toList.drop (xs.length*sz+zl.length)).toArray) (setRow_heap w g cur _ E (0,0) hP.block) (λk hk _=>setRow_other w g k _ hk) rfl rfl rfl (by simp)).head λz PN=>.inr ⟨g,cc,_,by simp,by simpa using hroom,E4,?_,?_,PN⟩
     ·simp only[Cd,jP,tP,AB,tQ,Xj];omega
     ·rw[Zc,ZV,jP,lY];rw[show(xs.length+m)*sz=((xs.flatMap enc)++zl).length by rw[jP,Xj,he.flat,tO]];exact EM
  ·have hge:=grownCap_ge w (xs.length+m) cc E;have h63:xs.length+m<=maxLen:=by simp only[maxLen];omega
   have Zb:grownCap w (xs.length+m) cc E<=maxLen:=grownCap_le_maxLen w (xs.length+m) cc E h63;have hfit:=growslice_fits (need:=xs.length+m) (old:=cc) (bytes:=bytes) aB hb;have Wi:¬(281474976710656<Builtin.nextslicecap (xs.length+m) cc*q.bytes):=by rw[h2];omega
   have ZW:¬(9223372036854775807<(xs.length:Int)+(m:Int)):=by omega
   have hold:(Builtin.firstCells sz xs.length (.slice ca xs.length cc)).run P w.drew= .ok (xs.flatMap enc).toArray w.drew:=by
    rcases hF.rows with ⟨e1,e2,_⟩ | ⟨g',cap',e1,_,Ch⟩
    ·simp only[Value.slice.injEq]at e1;rw[e1.1,e2];exact run_firstCells_none (P:=P) w.drew sz _ _ _
    ·simp only[Value.slice.injEq]at e1;rw[e1.1];obtain⟨cur',acO,Xi,hP'⟩:=Ch.oN;refine run_firstCells_some (P:=P) w.drew sz xs.length _ _ _ (xs.flatMap enc) (he.flat xs) ?_;intro j afv hu;rw[u5,Ae];refine hP'.cell j ?_;rw[<-Xi,List.getElem?_take]at hu;split at hu
     ·simpa using hu
     ·cases hu
   refine⟨.slice (some ⟨w.heap.size,0,none⟩) (xs.length+m) (grownCap w (xs.length+m) cc E),w.drew.alloc (.cells ((xs.flatMap enc).toArray++((List.replicate m z0).flatMap enc).toArray++Builtin.zeroCells zv.cells (grownCap w (xs.length+m) cc E-(xs.length+m))) E),?_,?_⟩
   ·generalize hZ:(List.replicate m z0).flatMap enc=zl at *;by_cases Rp:m*sz=0
    ·have hz0:zl=[]:=FY aB;subst hz0;simp[Builtin.append_,run_underlying hty,run_underlying ZS,sizeOf,typeInfo,hq,asInt,asIntOf,Og,MC,Wh,hroom,Question.forced,h1,Wi,ZW,Rp,hold,ZT,newRow,grownCap]
    ·have hza:Builtin.zeroCells zv.cells m=zl.toArray:=by rw[<-hzl,Array.toArray_toList]
     simp[Builtin.append_,run_underlying hty,run_underlying ZS,sizeOf,typeInfo,hq,asInt,asIntOf,Og,MC,Wh,hroom,Question.forced,h1,Wi,ZW,Rp,hold,ZT,hza,newRow,grownCap]
     congr 2
     apply Array.ext'
     simp[pS]
   ·refine(hF.drop.drew.alloc _).head λx hx=>.inr ⟨w.heap.size,_,_,by simp,by simpa using hge,Zb,?_,?_,hx⟩
    ·simp only[Array.size_append,Cd,size_zeroCells,hzs,he.flat,lY,<-tO]
     congr 1
     omega
    ·rw[CU,jP,lY];simp only[Array.toList_append];rw[show(xs.length+m)*sz=((xs.flatMap enc)++((List.replicate m z0).flatMap enc)).length by rw[jP,he.flat,he.flat,lY,tO]];exact EM
 obtain⟨v',w',hrun,Ch⟩:=main;obtain⟨a',cap',e,_,_⟩:=Ch.FD;subst e;refine qW hw hd hn hr ?_ (λa hr=>k a' cap' w' a Ch hr);unfold execOp;simp only[ho,resolve,invoke,builtin,ng,sM,nh,EO,zT,AD,hs,hx,hrun]
end
def iD{α:Type}:Sem α->Prop
 | .pure _=>True
 | .load _ _ k=>∀v,iD (k v)
 | .store .. => False
 | .new _ k=>∀r,iD (k r)
 | .shape _ k=>∀s,iD (k s)
 | .freeze .. => False
 | .frozen _ k=>∀b,iD (k b)
 | .getObj _ k=>∀o,iD (k o)
 | .setObj .. => False
 | .choose _ k=>∀n,iD (k n)
 | .sys .. => False
 | .program k=>∀p,iD (k p)
 | .mark _ k=>iD k
 | .halt _=>True
def oV(w w':World):Prop:=∀ad v,w.cell? ad=some v->w'.cell? ad=some v
theorem oV.refl(w:World):oV w w:=λ_ _ h=>h
theorem oV.trans{a b c:World}(h:oV a b)(k:oV b c):oV a c:=λad v hv=>k ad v (h ad v hv)
theorem iD.run{α:Type}{P:Program}(s:Sem α):∀(w:World),iD s->∀x w',s.run P w= .ok x w'->oV w w':=by
 induction s with
 | pure a=>intro w _ x w' h;simp only[Sem.run,Result.ok.injEq]at h;rw[<-h.2];exact .refl _
 | load m a k ih =>
  intro w hk x w' h;simp only[Sem.run]at h;split at h
  ·exact ih _ w (hk _) x w' h
  ·split at h
   ·exact ih _ w (hk _) x w' h
   ·cases h
 | store m a v k ih=>intro w hk;exact hk.elim
 | new o k ih =>
  intro w hk x w' h;simp only[Sem.run]at h;have h1:=ih _ _ (hk _) x w' h;refine oV.trans (λad v hv => ?_) h1;exact(World.cell?_alloc_lt w o ad (World.block_lt_of_cell? w ad hv)).trans hv
 | shape r k ih=>intro w hk x w' h;simp only[Sem.run]at h;exact ih _ w (hk _) x w' h
 | freeze a n k ih=>intro w hk;exact hk.elim
 | frozen a k ih=>intro w hk x w' h;simp only[Sem.run]at h;exact ih _ w (hk _) x w' h
 | getObj r k ih =>
  intro w hk x w' h;simp only[Sem.run]at h;split at h
  ·cases h
  ·exact ih _ w (hk _) x w' h
  ·cases h
 | setObj r o k ih=>intro w hk;exact hk.elim
 | choose q k ih =>
  intro w hk x w' h;simp only[Sem.run]at h;split at h
  ·exact ih _ w (hk _) x w' h
  ·exact(ih _ {w with drawn:=w.drawn+1} (hk _) x w' h:oV w w')
 | sys c k ih=>intro w hk;exact hk.elim
 | program k ih=>intro w hk x w' h;simp only[Sem.run]at h;exact ih _ w (hk _) x w' h
 | mark m k ih=>intro w hk x w' h;simp only[Sem.run]at h;exact ih w hk x w' h
 | halt e=>intro w _ x w' h;simp only[Sem.run]at h;cases h
theorem iD.bind{α β:Type}:∀(s:Sem α) (f:α->Sem β),iD s->(∀a,iD (f a))->iD (s >>= f)
 | .pure a,f,_,hf=>hf a
 | .load m a k,f,hk,hf=>λv=>iD.bind (k v) f (hk v) hf
 | .new o k,f,hk,hf=>λv=>iD.bind (k v) f (hk v) hf
 | .shape r k,f,hk,hf=>λv=>iD.bind (k v) f (hk v) hf
 | .frozen a k,f,hk,hf=>λv=>iD.bind (k v) f (hk v) hf
 | .getObj r k,f,hk,hf=>λv=>iD.bind (k v) f (hk v) hf
 | .choose q k,f,hk,hf=>λv=>iD.bind (k v) f (hk v) hf
 | .program k,f,hk,hf=>λv=>iD.bind (k v) f (hk v) hf
 | .mark m k,f,hk,hf=>iD.bind k f hk hf
 | .halt e,_,_,_=>trivial
theorem wJ{α:Type}(a:α):iD (pure a:Sem α):=trivial
theorem Ci:iD program:=λ_=>trivial
theorem yB(t:TypeId):iD (underlying t):=by
 unfold underlying;refine iD.bind _ _ Ci (λp => ?_);split
 ·exact trivial
 ·exact trivial
theorem AJ(t:TypeId):iD (typeInfo t):=by
 unfold typeInfo;refine iD.bind _ _ Ci (λp => ?_);split
 ·exact trivial
 ·exact trivial
theorem CX(t:TypeId):iD (sizeOf t):=iD.bind _ _ (AJ t) λ_=>trivial
theorem zW(t:TypeId):iD (zeroValue t):=by
 unfold zeroValue;refine iD.bind _ _ (AJ t) (λp => ?_);split
 ·exact trivial
 ·exact trivial
theorem KE(t:TypeId):iD (isAgg t):=by
 unfold isAgg;refine iD.bind _ _ (yB t) (λp => ?_);split<;>exact trivial
theorem vO(a:Addr):∀(n i:Nat) (acc:Array Value),iD (loadCellsFrom a i n acc)
 | 0,_,_=>trivial
 | n+1,i,acc=>iD.bind _ _ (λ_=>trivial) λv=>vO a n (i+1) _
theorem Hx(t:TypeId)(a:Addr):iD (loadVar t a):=by
 unfold loadVar;refine iD.bind _ _ (KE t) (λb => ?_);split
 ·exact iD.bind _ _ (CX t) λ_=>iD.bind _ _ (vO _ _ _ _) λ_=>trivial
 ·exact λ_=>trivial
theorem ze(t:TypeId)(cs:Array Value):iD (newRow t cs):=by
 unfold newRow newObj;exact λ_=>trivial
theorem CY(t:TypeId)(v:Value):iD (newVar t v):=ze t _
def D2(o:Oper):Bool:=
 match o.op with
 | .move _ | .assign _ | .pick .. | .alloc _ | .box .. | .load .. | .buildSlice .. | .extract .. => true
 | _=>false
theorem KF{P:Program}{o:Oper}(h:D2 o=true)(ρ:Operand->Value)(w w':World)(x:Next)(hr:(execOp ρ o).run P w= .ok x w'):(∃afv,x= .value afv)/\oV w w':=by
 have main:∀s:Sem Value,iD s->execOp ρ o=(do pure (.value (<-s)))->(∃afv,x= .value afv)/\oV w w':=by
  intro s hs e;rw[e]at hr;refine⟨?_,iD.run _ w (iD.bind _ _ hs λ_=>wJ _) x w' hr⟩;simp only[ng,sM]at hr;cases hx:s.run P w with
  | ok v w2 =>
   rw[hx]at hr;simp only[nh,Result.ok.injEq]at hr;exact⟨v,hr.1.symm⟩
  | halt e w2=>rw[hx]at hr;cases hr
 unfold D2 at h;cases ho:o.op with
 | move y =>
  refine main (pure (ρ y)) trivial ?_;unfold execOp;rw[ho];rfl
 | assign y =>
  refine main (pure (ρ y)) trivial ?_;unfold execOp;rw[ho];rfl
 | pick c a b =>
  refine main (do pure (if<-asBool (ρ c)then ρ a else ρ b)) ?_ ?_
  ·refine iD.bind _ _ ?_ (λ_=>trivial);unfold asBool;split<;>exact trivial
  ·unfold execOp;rw[ho];cases hc:ρ c<;>simp[asBool,stuck,hc]<;>rfl
 | alloc t =>
  refine main (Instr.alloc t true (.tuple #[])) ?_ ?_
  ·unfold Instr.alloc;exact iD.bind _ _ (zW t) λz=>iD.bind _ _ (CY t z) λ_=>trivial
  ·unfold execOp;rw[ho]
 | box t y =>
  refine main (Instr.box t (ρ y)) (iD.bind _ _ (CY t _) λ_=>trivial) ?_;unfold execOp;rw[ho]
 | load t y =>
  refine main (Instr.loadAt t (ρ y)) (iD.bind _ _ ?_ λ_=>Hx _ _) ?_
  ·unfold Instr.sureAddr;split<;>exact trivial
  ·unfold execOp;rw[ho]
 | buildSlice t n ps =>
  refine main (Instr.buildSlice t n (ps.map λ(i,x)=>(i,ρ x))) ?_ ?_
  ·unfold Instr.buildSlice;refine iD.bind _ _ (yB t) (λd => ?_);split
   ·refine iD.bind _ _ (CX _) (λsz => ?_)
    dsimp only
    split
    ·exact trivial
    ·split
     ·refine iD.bind _ _ (wJ _) (λz => ?_);split
      ·exact iD.bind _ _ (ze _ _) λ_=>wJ _
      ·exact trivial
     ·refine iD.bind _ _ (zW _) (λv=>iD.bind _ _ (wJ _) (λz => ?_));split
      ·exact iD.bind _ _ (ze _ _) λ_=>wJ _
      ·exact trivial
   ·exact trivial
  ·unfold execOp;rw[ho]
 | extract y i =>
  refine main (Instr.extract (ρ y) i) ?_ ?_
  ·unfold Instr.extract;split
   ·split<;>exact trivial
   ·exact trivial
  ·unfold execOp;rw[ho]
 | _=>rw[ho]at h;cases h
section
variable {P:Program}{ops:Array Oper}{Q:Exit->Act->World->Prop}{a:Act}{w w0 w1:World}{o:Oper}{n d t:Nat}{v:Value}{l:List (Nat×Value)}{j e:Nat->Value}{H:bj}{md:Region.Mode}{Df:List Deferred}
def wK(Q:Exit->Act->World->Prop):Prop:=∀ch (a:Act) w dst v,Q (.panic ch) (a.put dst v) w->Q (.panic ch) a w
theorem KG{fn:Func}{afw:Ending->World->Prop}:wK (bodyPost P fn afw):=by
 intro ch a w dst v h;cases dst<;>exact h
theorem KH{K:Act->World->Prop}(h:wK Q):wK (Exit.then K Q):=λch a w dst v k=>h ch a w dst v k
theorem Jg{i:Nat}(h:wK Q):wK (Exit.inBlock i Q):=λch a w dst v k=>h ch a w dst v k
def YD(P:Program)(ops:Array Oper)(D:World->Prop)(o:Oper)(v:Value)(a:Act):Prop:=
 (Region.wanted o (yielded ops a.tmps)=true/\∀w,D w->(execOp a.eval o).run P w= .ok (.value v) w)∨(Region.wanted o (yielded ops a.tmps)=false/\v=undef)
theorem YD.of_same{D:World->Prop}{a':Act}(hy:YD P ops D o v a)(he:execOp a'.eval o=execOp a.eval o)
 (hw:Region.wanted o (yielded ops a'.tmps)=Region.wanted o (yielded ops a.tmps)):YD P ops D o v a':=by
 unfold YD at *;rw[he,hw];exact hy
theorem YD.wpOp{D:World->Prop}{i:Nat}(hi:ops[i]? = some o)(hy:YD P ops D o v a)(hD:D w){K:Act->World->Prop}(h:K (a.put o.dst v) w):wpOp P ops Q i K a w:=by
 unfold Go.wpOp;simp only[hi];rcases hy with ⟨hw,hv⟩ | ⟨hw,rfl⟩
 ·rw[aW hw]
  left
  unfold Oper.wp;rw[hv w hD];exact h
 ·rw[dN hw];exact h
def KI(md:Region.Mode)(ops:Array Oper)(aO:Array Bool)(i:Nat):Nat->Nat->Bool
 | 0,_=>true
 | f+1,k=>k != i&&match ops[k]? with
  | none=>false
  | some ok=>ok.after.all λe => !Region.binds md e||aO.getD e.on false||KI md ops aO i f e.on
theorem Uv{id:Nat}{lo:List Oper}(hF:Fit w0 H w)(hm:P.follows .mixedOrders=true)(k:∀w,Fit w0 H w->wpAny P .any lo.toArray Q lo.toArray.size (Array.replicate lo.toArray.size false) a w) :
 (Code.region id lo.toArray true).wp P Q a w:=wp_region_any hm (k _ hF.drew)
end
section
variable {P:Program}{ops:Array Oper}{Q:Exit->Act->World->Prop}{a:Act}{w w0 w1:World}{o:Oper}{n d t:Nat}{v:Value}{l:List (Nat×Value)}{j e:Nat->Value}{H:bj}{md:Region.Mode}{C:World->Prop}{W:List Nat}{Lk:Array Bool->Act->Prop}{Df:List Deferred}
theorem dG{i:Nat}{b:Bool}(hr:cS Df n e a)(hg:o.guard=some (i,b))(hi:(ops[i]?).bind (·.dst)=some t)(ht:Nat.blt t n=true)(he:e t=undef) :
 Region.wanted o (yielded ops a.tmps)=false:=by
 have ht':t<a.tmps.size:=by rw[hr.size];exact oI ht
 have hg2:a.tmps[t]? = some undef:=by
  have:=hr.get t;rw[he,xm,Array.getElem?_eq_getElem ht']at this;rw[Array.getElem?_eq_getElem ht']
  simpa using this
 simp only[Region.wanted,hg,yielded,hi,Option.bind_some,hg2];cases b<;>rfl
end
section
variable {P:Program}{ops:Array Oper}{Q:Exit->Act->World->Prop}{a:Act}{w w0 w1:World}{o:Oper}{n d t:Nat}{v:Value}{l:List (Nat×Value)}{j e:Nat->Value}{md:Region.Mode}{W A:List Nat}{pre:List bj->List bj}{Ls:List bj}{Df:List Deferred}
def Jh(X:Nat->Prop):List Nat->Prop
 | []=>True
 | i::r=>X i/\Jh X r
theorem Jh.mem{X:Nat->Prop}:∀{r:List Nat},Jh X r->∀i∈r,X i
 | _::_,h,_,.head _=>h.1
 | _::_,h,_,.tail _ hm=>Jh.mem h.2 _ hm
theorem iE{X:Nat->Prop}:Jh X []:=trivial
theorem cX{X:Nat->Prop}{i:Nat}{r:List Nat}(h:X i)(k:Jh X r):Jh X (i::r):=⟨h,k⟩
end
end GX
end
section
namespace SL
open Go Go.RowKit Go.ChangeShapes Go.WideShapes
end SL
namespace GX
open Go Go.RowKit SL
section
variable {P:Program}{ops:Array Oper}{Q:Exit->Act->World->Prop}{a:Act}{w w0 w1:World}{rest:List Oper}{o:Oper}{n d t:Nat}{v:Value}{l:List (Nat×Value)}{j e:Nat->Value}{L:List bj}{H:bj}{Df:List Deferred}
variable {α:Type}{E:TypeId}{sz g cap:Nat}{enc:α->List Value}{xs:List α}
end
end GX
end
section
namespace GX
open Go Go.RowKit SL
def tT:List Value->List Value->Bool
 | .int _ a::xs,.int _ b::ys=>(a==b)&&tT xs ys
 | .bool a::xs,.bool b::ys=>(a==b)&&tT xs ys
 | _,_=>true
def Cj(P:Program):Nat->List Field->List Value->List Value->Bool
 | _,[],[],[]=>true
 | i,f::fs,.int k _::xs,.int k' _::ys=>(f.name != "_")&&f.offset==i&&(match P.underlying f.type with | some (.int _)=>true | _=>false)&&k==k'&&Cj P (i+1) fs xs ys
 | i,f::fs,.bool _::xs,.bool _::ys=>(f.name != "_")&&f.offset==i&&(match P.underlying f.type with | some .bool=>true | _=>false)&&Cj P (i+1) fs xs ys
 | _,_,_,_=>false
section
variable {P:Program}{w:World}{o:Oper}{e:Nat->Value}
theorem rM{t:TypeId}{cs:Array Value}{i:Nat}{v:Value}(h:(match P.underlying t with | some (.int _)=>true | some .bool=>true | _=>false)=true)(hv:cs[i]? = some v):(part t cs i).run P w= .ok v w:=by
 have hu :∃d,P.underlying t=some d/\(∀fs,d≠.struct fs)/\∀n q,d≠.array n q:=by
  revert h
  cases hq:P.underlying t with
  | none=>simp
  | some d=>cases d<;>simp
 obtain⟨d,hd,h1,h2⟩:=hu;unfold part isAgg;simp only[ng,run_underlying hd,nh];cases d<;>simp_all
theorem Ji(d:Nat)(xs ys:Array Value):∀(fs:List Field) (i:Nat) (us vs:List Value),Cj P i fs us vs=true->(∀j,us[j]? = xs[i+j]?∨us.length<=j)->(∀j,vs[j]? = ys[i+j]?∨vs.length<=j)->
 (Op.eqFields (d+1) xs ys fs).run P w= .ok (tT us vs) w
 | [],_,[],[],_,_,_=>by simp[Op.eqFields,tT]
 | f::fs,i,.int k a::us,.int k' b::vs,h,hx,hy=>by
  simp only[Cj,lV,bne_iff_ne,ne_eq,wE]at h;obtain⟨⟨⟨⟨hn,ho⟩,ht⟩,hk⟩,hr⟩:=h;subst hk;have hx0:xs[i]? = some (.int k a):=by rcases hx 0 with h | h;simpa using h.symm;simp at h
  have hy0:ys[i]? = some (.int k b):=by rcases hy 0 with h | h;simpa using h.symm;simp at h
  have hty :∃kk,P.underlying f.type=some (.int kk):=by
   revert ht
   cases hq:P.underlying f.type with
   | none=>simp
   | some d=>cases d<;>simp
  obtain⟨kk,hty⟩:=hty;have ih:=Ji d xs ys fs (i+1) us vs hr (λj=>by rcases hx (j+1)with h | h;left;simpa [MO,Iw]using h;right;simpa using h) (λj=>by rcases hy (j+1)with h | h;left;simpa [MO,Iw]using h;right;simpa using h);have pa:=rM (P:=P) (w:=w) (t:=f.type) (cs:=xs) (i:=f.offset) (v:=.int k a) (by rw[hty]) (by rw[ho];exact hx0);have pb:=rM (P:=P) (w:=w) (t:=f.type) (cs:=ys) (i:=f.offset) (v:=.int k b) (by rw[hty]) (by rw[ho];exact hy0);rw[Op.eqFields];simp only[aW hn,ng,pa,pb,run_equalIn_int w d f.type k kk a b hty,nh];cases hab:(a==b)
  ·simp[tT,hab]
  ·simp[tT,hab,ih]
 | f::fs,i,.bool a::us,.bool b::vs,h,hx,hy=>by
  simp only[Cj,lV,bne_iff_ne,ne_eq,wE]at h;obtain⟨⟨⟨hn,ho⟩,ht⟩,hr⟩:=h;have hx0:xs[i]? = some (.bool a):=by rcases hx 0 with h | h;simpa using h.symm;simp at h
  have hy0:ys[i]? = some (.bool b):=by rcases hy 0 with h | h;simpa using h.symm;simp at h
  have hty:P.underlying f.type=some .bool:=by
   revert ht
   cases hq:P.underlying f.type with
   | none=>simp
   | some d=>cases d<;>simp
  have ih:=Ji d xs ys fs (i+1) us vs hr (λj=>by rcases hx (j+1)with h | h;left;simpa [MO,Iw]using h;right;simpa using h) (λj=>by rcases hy (j+1)with h | h;left;simpa [MO,Iw]using h;right;simpa using h);have pa:=rM (P:=P) (w:=w) (t:=f.type) (cs:=xs) (i:=f.offset) (v:=.bool a) (by rw[hty]) (by rw[ho];exact hx0);have pb:=rM (P:=P) (w:=w) (t:=f.type) (cs:=ys) (i:=f.offset) (v:=.bool b) (by rw[hty]) (by rw[ho];exact hy0);rw[Op.eqFields];simp only[aW hn,ng,pa,pb,run_equalIn_bool' w d f.type a b hty,nh];cases hab:(a==b)
  ·simp[tT,hab]
  ·simp[tT,hab,ih]
end
theorem gd{γ:Type}{p:Prop}[Decidable p]{x:Option γ}{r:γ}(h:(if p then x else none)=some r):p/\x=some r:=by
 by_cases c:p
 ·rw[aW c]at h;exact⟨c,h⟩
 ·rw[cF c]at h;cases h
theorem ifT{γ:Type}{p:Prop}[Decidable p]{x y:Option γ}{r:γ}(c:p)(h:(if p then x else y)=some r):x=some r:=by rw[aW c]at h;exact h
theorem ifF{γ:Type}{p:Prop}[Decidable p]{x y:Option γ}{r:γ}(c:¬p)(h:(if p then x else y)=some r):y=some r:=by rw[cF c]at h;exact h
theorem bF{b:Bool}(h:¬b=true):b=false:=by cases b<;>simp_all
theorem gA{γ:Type}{x y:γ}(h:some x=some y):x=y:=Option.some.inj h
def MR{γ:Type}(o:Option (Unit))(f:Option γ):Option γ:=match o with | some ()=>f | none=>none
@[simp] theorem jm{γ:Type}(f:Option γ):MR (some ()) f=f:=rfl
@[simp] theorem ZX{γ:Type}(f:Option γ):MR none f=none:=rfl
theorem bd0{γ:Type}{o:Option (Unit)}{f:Option γ}{r:γ}(h:MR o f=some r):o=some ()/\f=some r:=by
 match o,h with | some (),h=>exact⟨rfl,h⟩
def xp{γ:Type}(o:Option ((Unit)⊕γ))(f:Option γ):Option γ:=match o with | some (.inl ())=>f | some (.inr r)=>some r | none=>none
@[simp] theorem eT{γ:Type}(f:Option γ):xp (some (.inl ())) f=f:=rfl
@[simp] theorem Jj{γ:Type}(r:γ)(f:Option γ):xp (some (.inr r)) f=some r:=rfl
@[simp] theorem ZY{γ:Type}(f:Option γ):xp none f=none:=rfl
def jc0{γ:Type}(o:(Unit)⊕γ)(f:Option γ)(r:γ):Prop:=match o with | .inl ()=>f=some r | .inr x=>x=r
theorem CZ{γ:Type}{o:Option ((Unit)⊕γ)}{f:Option γ}{r:γ}(h:xp o f=some r) :∃o',o=some o'/\jc0 o' f r:=by
 match o,h with | some (.inl ()),h=>exact⟨_,rfl,h⟩ | some (.inr x),h=>exact⟨_,rfl,gA h⟩
theorem tg{γ:Type}{o:(Unit)⊕γ}{f:Option γ}{r x:γ}(h:some (.inr x)=some o)(k:jc0 o f r):some x=some r:=by
 have e:=gA h;subst e;exact qG some k
def kc0{γ:Type}(o:Unit)(f:Option γ)(r:γ):Prop:=match o with | ()=>f=some r
theorem kd0{γ:Type}{o:Option (Unit)}{f:Option γ}{r:γ}(h:MR o f=some r) :∃o',o=some o'/\kc0 o' f r:=by
 match o,h with | some (),h=>exact⟨_,rfl,h⟩
theorem C0{γ:Type}{f:Option γ}{r:γ}(k:jc0 (γ:=γ) (.inl ()) f r):f=some r:=k
theorem kk0{γ:Type}{f:Option γ}{r:γ}(k:kc0 (γ:=γ) () f r):f=some r:=k
def eY{dJ:Type}{γ:Type}(o:Option (dJ))(f:dJ->Option γ):Option γ:=match o with | some x0=>f x0 | none=>none
@[simp] theorem ay{dJ:Type}{γ:Type}(x0:dJ)(f:dJ->Option γ):eY (some x0) f=f x0:=rfl
@[simp] theorem ZZ{dJ:Type}{γ:Type}(f:dJ->Option γ):eY none f=none:=rfl
theorem bd1{dJ:Type}{γ:Type}{o:Option (dJ)}{f:dJ->Option γ}{r:γ}(h:eY o f=some r) :∃x0,o=some x0/\f x0=some r:=by
 match o,h with | some x0,h=>exact⟨x0,rfl,h⟩
def Z0{dJ:Type}{γ:Type}(o:Option ((dJ)⊕γ))(f:dJ->Option γ):Option γ:=match o with | some (.inl x0)=>f x0 | some (.inr r)=>some r | none=>none
@[simp] theorem Oh{dJ:Type}{γ:Type}(x0:dJ)(f:dJ->Option γ):Z0 (some (.inl x0)) f=f x0:=rfl
@[simp] theorem acu{dJ:Type}{γ:Type}(r:γ)(f:dJ->Option γ):Z0 (some (.inr r)) f=some r:=rfl
@[simp] theorem Z1{dJ:Type}{γ:Type}(f:dJ->Option γ):Z0 none f=none:=rfl
def jc1{dJ:Type}{γ:Type}(o:(dJ)⊕γ)(f:dJ->Option γ)(r:γ):Prop:=match o with | .inl x0=>f x0=some r | .inr x=>x=r
theorem jd1{dJ:Type}{γ:Type}{o:Option ((dJ)⊕γ)}{f:dJ->Option γ}{r:γ}(h:Z0 o f=some r) :∃o',o=some o'/\jc1 o' f r:=by
 match o,h with | some (.inl x0),h=>exact⟨_,rfl,h⟩ | some (.inr x),h=>exact⟨_,rfl,gA h⟩
theorem jx1{dJ:Type}{γ:Type}{o:(dJ)⊕γ}{f:dJ->Option γ}{r x:γ}(h:some (.inr x)=some o)(k:jc1 o f r):some x=some r:=by
 have e:=gA h;subst e;exact qG some k
def Ze{dJ:Type}{γ:Type}(o:dJ)(f:dJ->Option γ)(r:γ):Prop:=match o with | x0=>f x0=some r
theorem kd1{dJ:Type}{γ:Type}{o:Option (dJ)}{f:dJ->Option γ}{r:γ}(h:eY o f=some r) :∃o',o=some o'/\Ze o' f r:=by
 match o,h with | some x0,h=>exact⟨_,rfl,h⟩
theorem jk1{dJ:Type}{γ:Type}{f:dJ->Option γ}{r:γ}{x0:dJ}(k:jc1 (γ:=γ) (.inl x0) f r):f x0=some r:=k
theorem DS{dJ:Type}{γ:Type}{f:dJ->Option γ}{r:γ}{x0:dJ}(k:Ze (γ:=γ) x0 f r):f x0=some r:=k
def sR{dJ eJ:Type}{γ:Type}(o:Option (dJ×eJ))(f:dJ->eJ->Option γ):Option γ:=match o with | some (x0,x1)=>f x0 x1 | none=>none
@[simp] theorem fh{dJ eJ:Type}{γ:Type}(x0:dJ)(x1:eJ)(f:dJ->eJ->Option γ):sR (some (x0,x1)) f=f x0 x1:=rfl
@[simp] theorem Z2{dJ eJ:Type}{γ:Type}(f:dJ->eJ->Option γ):sR none f=none:=rfl
theorem bd2{dJ eJ:Type}{γ:Type}{o:Option (dJ×eJ)}{f:dJ->eJ->Option γ}{r:γ}(h:sR o f=some r) :∃x0 x1,o=some (x0,x1)/\f x0 x1=some r:=by
 match o,h with | some (x0,x1),h=>exact⟨x0,x1,rfl,h⟩
def Z3{dJ eJ:Type}{γ:Type}(o:Option ((dJ×eJ)⊕γ))(f:dJ->eJ->Option γ):Option γ:=match o with | some (.inl (x0,x1))=>f x0 x1 | some (.inr r)=>some r | none=>none
@[simp] theorem Uw{dJ eJ:Type}{γ:Type}(x0:dJ)(x1:eJ)(f:dJ->eJ->Option γ):Z3 (some (.inl (x0,x1))) f=f x0 x1:=rfl
@[simp] theorem Ux{dJ eJ:Type}{γ:Type}(r:γ)(f:dJ->eJ->Option γ):Z3 (some (.inr r)) f=some r:=rfl
@[simp] theorem Z4{dJ eJ:Type}{γ:Type}(f:dJ->eJ->Option γ):Z3 none f=none:=rfl
def jc2{dJ eJ:Type}{γ:Type}(o:(dJ×eJ)⊕γ)(f:dJ->eJ->Option γ)(r:γ):Prop:=match o with | .inl (x0,x1)=>f x0 x1=some r | .inr x=>x=r
theorem jd2{dJ eJ:Type}{γ:Type}{o:Option ((dJ×eJ)⊕γ)}{f:dJ->eJ->Option γ}{r:γ}(h:Z3 o f=some r) :∃o',o=some o'/\jc2 o' f r:=by
 match o,h with | some (.inl (x0,x1)),h=>exact⟨_,rfl,h⟩ | some (.inr x),h=>exact⟨_,rfl,gA h⟩
theorem jx2{dJ eJ:Type}{γ:Type}{o:(dJ×eJ)⊕γ}{f:dJ->eJ->Option γ}{r x:γ}(h:some (.inr x)=some o)(k:jc2 o f r):some x=some r:=by
 have e:=gA h;subst e;exact qG some k
def Zf{dJ eJ:Type}{γ:Type}(o:dJ×eJ)(f:dJ->eJ->Option γ)(r:γ):Prop:=match o with | (x0,x1)=>f x0 x1=some r
theorem kd2{dJ eJ:Type}{γ:Type}{o:Option (dJ×eJ)}{f:dJ->eJ->Option γ}{r:γ}(h:sR o f=some r) :∃o',o=some o'/\Zf o' f r:=by
 match o,h with | some (x0,x1),h=>exact⟨_,rfl,h⟩
theorem jk2{dJ eJ:Type}{γ:Type}{f:dJ->eJ->Option γ}{r:γ}{x0:dJ}{x1:eJ}(k:jc2 (γ:=γ) (.inl (x0,x1)) f r):f x0 x1=some r:=k
theorem kk2{dJ eJ:Type}{γ:Type}{f:dJ->eJ->Option γ}{r:γ}{x0:dJ}{x1:eJ}(k:Zf (γ:=γ) (x0,x1) f r):f x0 x1=some r:=k
def pM{dJ eJ fS:Type}{γ:Type}(o:Option (dJ×eJ×fS))(f:dJ->eJ->fS->Option γ):Option γ:=match o with | some (x0,x1,x2)=>f x0 x1 x2 | none=>none
@[simp] theorem dz{dJ eJ fS:Type}{γ:Type}(x0:dJ)(x1:eJ)(x2:fS)(f:dJ->eJ->fS->Option γ):pM (some (x0,x1,x2)) f=f x0 x1 x2:=rfl
@[simp] theorem Z5{dJ eJ fS:Type}{γ:Type}(f:dJ->eJ->fS->Option γ):pM none f=none:=rfl
theorem bd3{dJ eJ fS:Type}{γ:Type}{o:Option (dJ×eJ×fS)}{f:dJ->eJ->fS->Option γ}{r:γ}(h:pM o f=some r) :∃x0 x1 x2,o=some (x0,x1,x2)/\f x0 x1 x2=some r:=by
 match o,h with | some (x0,x1,x2),h=>exact⟨x0,x1,x2,rfl,h⟩
def jn3{dJ eJ fS:Type}{γ:Type}(o:Option ((dJ×eJ×fS)⊕γ))(f:dJ->eJ->fS->Option γ):Option γ:=match o with | some (.inl (x0,x1,x2))=>f x0 x1 x2 | some (.inr r)=>some r | none=>none
@[simp] theorem acv{dJ eJ fS:Type}{γ:Type}(x0:dJ)(x1:eJ)(x2:fS)(f:dJ->eJ->fS->Option γ):jn3 (some (.inl (x0,x1,x2))) f=f x0 x1 x2:=rfl
@[simp] theorem acw{dJ eJ fS:Type}{γ:Type}(r:γ)(f:dJ->eJ->fS->Option γ):jn3 (some (.inr r)) f=some r:=rfl
@[simp] theorem Z6{dJ eJ fS:Type}{γ:Type}(f:dJ->eJ->fS->Option γ):jn3 none f=none:=rfl
def Zg{dJ eJ fS:Type}{γ:Type}(o:dJ×eJ×fS)(f:dJ->eJ->fS->Option γ)(r:γ):Prop:=match o with | (x0,x1,x2)=>f x0 x1 x2=some r
theorem kd3{dJ eJ fS:Type}{γ:Type}{o:Option (dJ×eJ×fS)}{f:dJ->eJ->fS->Option γ}{r:γ}(h:pM o f=some r) :∃o',o=some o'/\Zg o' f r:=by
 match o,h with | some (x0,x1,x2),h=>exact⟨_,rfl,h⟩
theorem kk3{dJ eJ fS:Type}{γ:Type}{f:dJ->eJ->fS->Option γ}{r:γ}{x0:dJ}{x1:eJ}{x2:fS}(k:Zg (γ:=γ) (x0,x1,x2) f r):f x0 x1 x2=some r:=k
def Hq{dJ eJ fS gR:Type}{γ:Type}(o:Option (dJ×eJ×fS×gR))(f:dJ->eJ->fS->gR->Option γ):Option γ:=match o with | some (x0,x1,x2,x3)=>f x0 x1 x2 x3 | none=>none
@[simp] theorem gp{dJ eJ fS gR:Type}{γ:Type}(x0:dJ)(x1:eJ)(x2:fS)(x3:gR)(f:dJ->eJ->fS->gR->Option γ):Hq (some (x0,x1,x2,x3)) f=f x0 x1 x2 x3:=rfl
@[simp] theorem Z7{dJ eJ fS gR:Type}{γ:Type}(f:dJ->eJ->fS->gR->Option γ):Hq none f=none:=rfl
theorem bd4{dJ eJ fS gR:Type}{γ:Type}{o:Option (dJ×eJ×fS×gR)}{f:dJ->eJ->fS->gR->Option γ}{r:γ}(h:Hq o f=some r) :∃x0 x1 x2 x3,o=some (x0,x1,x2,x3)/\f x0 x1 x2 x3=some r:=by
 match o,h with | some (x0,x1,x2,x3),h=>exact⟨x0,x1,x2,x3,rfl,h⟩
def jn4{dJ eJ fS gR:Type}{γ:Type}(o:Option ((dJ×eJ×fS×gR)⊕γ))(f:dJ->eJ->fS->gR->Option γ):Option γ:=match o with | some (.inl (x0,x1,x2,x3))=>f x0 x1 x2 x3 | some (.inr r)=>some r | none=>none
@[simp] theorem acy{dJ eJ fS gR:Type}{γ:Type}(x0:dJ)(x1:eJ)(x2:fS)(x3:gR)(f:dJ->eJ->fS->gR->Option γ):jn4 (some (.inl (x0,x1,x2,x3))) f=f x0 x1 x2 x3:=rfl
@[simp] theorem acz{dJ eJ fS gR:Type}{γ:Type}(r:γ)(f:dJ->eJ->fS->gR->Option γ):jn4 (some (.inr r)) f=some r:=rfl
@[simp] theorem Z8{dJ eJ fS gR:Type}{γ:Type}(f:dJ->eJ->fS->gR->Option γ):jn4 none f=none:=rfl
def kc4{dJ eJ fS gR:Type}{γ:Type}(o:dJ×eJ×fS×gR)(f:dJ->eJ->fS->gR->Option γ)(r:γ):Prop:=match o with | (x0,x1,x2,x3)=>f x0 x1 x2 x3=some r
def Z9{dJ eJ fS gR iF:Type}{γ:Type}(o:Option (dJ×eJ×fS×gR×iF))(f:dJ->eJ->fS->gR->iF->Option γ):Option γ:=match o with | some (x0,x1,x2,x3,x4)=>f x0 x1 x2 x3 x4 | none=>none
@[simp] theorem Ru{dJ eJ fS gR iF:Type}{γ:Type}(x0:dJ)(x1:eJ)(x2:fS)(x3:gR)(x4:iF)(f:dJ->eJ->fS->gR->iF->Option γ):Z9 (some (x0,x1,x2,x3,x4)) f=f x0 x1 x2 x3 x4:=rfl
@[simp] theorem aaa{dJ eJ fS gR iF:Type}{γ:Type}(f:dJ->eJ->fS->gR->iF->Option γ):Z9 none f=none:=rfl
theorem bd5{dJ eJ fS gR iF:Type}{γ:Type}{o:Option (dJ×eJ×fS×gR×iF)}{f:dJ->eJ->fS->gR->iF->Option γ}{r:γ}(h:Z9 o f=some r) :∃x0 x1 x2 x3 x4,o=some (x0,x1,x2,x3,x4)/\f x0 x1 x2 x3 x4=some r:=by
 match o,h with | some (x0,x1,x2,x3,x4),h=>exact⟨x0,x1,x2,x3,x4,rfl,h⟩
theorem C1{dJ eJ fS gR iF:Type}{x0 y0:dJ}{x1 y1:eJ}{x2 y2:fS}{x3 y3:gR}{x4 y4:iF}(h:some (x0,x1,x2,x3,x4)=some (y0,y1,y2,y3,y4)):x0=y0/\x1=y1/\x2=y2/\x3=y3/\x4=y4:=by
 simpa using h
def jn5{dJ eJ fS gR iF:Type}{γ:Type}(o:Option ((dJ×eJ×fS×gR×iF)⊕γ))(f:dJ->eJ->fS->gR->iF->Option γ):Option γ:=match o with | some (.inl (x0,x1,x2,x3,x4))=>f x0 x1 x2 x3 x4 | some (.inr r)=>some r | none=>none
@[simp] theorem acA{dJ eJ fS gR iF:Type}{γ:Type}(x0:dJ)(x1:eJ)(x2:fS)(x3:gR)(x4:iF)(f:dJ->eJ->fS->gR->iF->Option γ):jn5 (some (.inl (x0,x1,x2,x3,x4))) f=f x0 x1 x2 x3 x4:=rfl
@[simp] theorem acB{dJ eJ fS gR iF:Type}{γ:Type}(r:γ)(f:dJ->eJ->fS->gR->iF->Option γ):jn5 (some (.inr r)) f=some r:=rfl
@[simp] theorem aab{dJ eJ fS gR iF:Type}{γ:Type}(f:dJ->eJ->fS->gR->iF->Option γ):jn5 none f=none:=rfl
def kc5{dJ eJ fS gR iF:Type}{γ:Type}(o:dJ×eJ×fS×gR×iF)(f:dJ->eJ->fS->gR->iF->Option γ)(r:γ):Prop:=match o with | (x0,x1,x2,x3,x4)=>f x0 x1 x2 x3 x4=some r
def ob6{dJ eJ fS gR iF jU:Type}{γ:Type}(o:Option (dJ×eJ×fS×gR×iF×jU))(f:dJ->eJ->fS->gR->iF->jU->Option γ):Option γ:=match o with | some (x0,x1,x2,x3,x4,x5)=>f x0 x1 x2 x3 x4 x5 | none=>none
@[simp] theorem aac{dJ eJ fS gR iF jU:Type}{γ:Type}(x0:dJ)(x1:eJ)(x2:fS)(x3:gR)(x4:iF)(x5:jU)(f:dJ->eJ->fS->gR->iF->jU->Option γ):ob6 (some (x0,x1,x2,x3,x4,x5)) f=f x0 x1 x2 x3 x4 x5:=rfl
@[simp] theorem aad{dJ eJ fS gR iF jU:Type}{γ:Type}(f:dJ->eJ->fS->gR->iF->jU->Option γ):ob6 none f=none:=rfl
def jn6{dJ eJ fS gR iF jU:Type}{γ:Type}(o:Option ((dJ×eJ×fS×gR×iF×jU)⊕γ))(f:dJ->eJ->fS->gR->iF->jU->Option γ):Option γ:=match o with | some (.inl (x0,x1,x2,x3,x4,x5))=>f x0 x1 x2 x3 x4 x5 | some (.inr r)=>some r | none=>none
@[simp] theorem acC{dJ eJ fS gR iF jU:Type}{γ:Type}(x0:dJ)(x1:eJ)(x2:fS)(x3:gR)(x4:iF)(x5:jU)(f:dJ->eJ->fS->gR->iF->jU->Option γ):jn6 (some (.inl (x0,x1,x2,x3,x4,x5))) f=f x0 x1 x2 x3 x4 x5:=rfl
@[simp] theorem acD{dJ eJ fS gR iF jU:Type}{γ:Type}(r:γ)(f:dJ->eJ->fS->gR->iF->jU->Option γ):jn6 (some (.inr r)) f=some r:=rfl
@[simp] theorem aae{dJ eJ fS gR iF jU:Type}{γ:Type}(f:dJ->eJ->fS->gR->iF->jU->Option γ):jn6 none f=none:=rfl
def kc6{dJ eJ fS gR iF jU:Type}{γ:Type}(o:dJ×eJ×fS×gR×iF×jU)(f:dJ->eJ->fS->gR->iF->jU->Option γ)(r:γ):Prop:=match o with | (x0,x1,x2,x3,x4,x5)=>f x0 x1 x2 x3 x4 x5=some r
def ob7{dJ eJ fS gR iF jU lW:Type}{γ:Type}(o:Option (dJ×eJ×fS×gR×iF×jU×lW))(f:dJ->eJ->fS->gR->iF->jU->lW->Option γ):Option γ:=match o with | some (x0,x1,x2,x3,x4,x5,x6)=>f x0 x1 x2 x3 x4 x5 x6 | none=>none
@[simp] theorem aaf{dJ eJ fS gR iF jU lW:Type}{γ:Type}(x0:dJ)(x1:eJ)(x2:fS)(x3:gR)(x4:iF)(x5:jU)(x6:lW)(f:dJ->eJ->fS->gR->iF->jU->lW->Option γ):ob7 (some (x0,x1,x2,x3,x4,x5,x6)) f=f x0 x1 x2 x3 x4 x5 x6:=rfl
@[simp] theorem aag{dJ eJ fS gR iF jU lW:Type}{γ:Type}(f:dJ->eJ->fS->gR->iF->jU->lW->Option γ):ob7 none f=none:=rfl
def jn7{dJ eJ fS gR iF jU lW:Type}{γ:Type}(o:Option ((dJ×eJ×fS×gR×iF×jU×lW)⊕γ))(f:dJ->eJ->fS->gR->iF->jU->lW->Option γ):Option γ:=match o with | some (.inl (x0,x1,x2,x3,x4,x5,x6))=>f x0 x1 x2 x3 x4 x5 x6 | some (.inr r)=>some r | none=>none
@[simp] theorem acE{dJ eJ fS gR iF jU lW:Type}{γ:Type}(x0:dJ)(x1:eJ)(x2:fS)(x3:gR)(x4:iF)(x5:jU)(x6:lW)(f:dJ->eJ->fS->gR->iF->jU->lW->Option γ):jn7 (some (.inl (x0,x1,x2,x3,x4,x5,x6))) f=f x0 x1 x2 x3 x4 x5 x6:=rfl
@[simp] theorem acF{dJ eJ fS gR iF jU lW:Type}{γ:Type}(r:γ)(f:dJ->eJ->fS->gR->iF->jU->lW->Option γ):jn7 (some (.inr r)) f=some r:=rfl
@[simp] theorem aah{dJ eJ fS gR iF jU lW:Type}{γ:Type}(f:dJ->eJ->fS->gR->iF->jU->lW->Option γ):jn7 none f=none:=rfl
def kc7{dJ eJ fS gR iF jU lW:Type}{γ:Type}(o:dJ×eJ×fS×gR×iF×jU×lW)(f:dJ->eJ->fS->gR->iF->jU->lW->Option γ)(r:γ):Prop:=match o with | (x0,x1,x2,x3,x4,x5,x6)=>f x0 x1 x2 x3 x4 x5 x6=some r
def ob8{dJ eJ fS gR iF jU lW nJ:Type}{γ:Type}(o:Option (dJ×eJ×fS×gR×iF×jU×lW×nJ))(f:dJ->eJ->fS->gR->iF->jU->lW->nJ->Option γ):Option γ:=match o with | some (x0,x1,x2,x3,x4,x5,x6,x7)=>f x0 x1 x2 x3 x4 x5 x6 x7 | none=>none
@[simp] theorem aai{dJ eJ fS gR iF jU lW nJ:Type}{γ:Type}(x0:dJ)(x1:eJ)(x2:fS)(x3:gR)(x4:iF)(x5:jU)(x6:lW)(x7:nJ)(f:dJ->eJ->fS->gR->iF->jU->lW->nJ->Option γ):ob8 (some (x0,x1,x2,x3,x4,x5,x6,x7)) f=f x0 x1 x2 x3 x4 x5 x6 x7:=rfl
@[simp] theorem aaj{dJ eJ fS gR iF jU lW nJ:Type}{γ:Type}(f:dJ->eJ->fS->gR->iF->jU->lW->nJ->Option γ):ob8 none f=none:=rfl
def jn8{dJ eJ fS gR iF jU lW nJ:Type}{γ:Type}(o:Option ((dJ×eJ×fS×gR×iF×jU×lW×nJ)⊕γ))(f:dJ->eJ->fS->gR->iF->jU->lW->nJ->Option γ):Option γ:=match o with | some (.inl (x0,x1,x2,x3,x4,x5,x6,x7))=>f x0 x1 x2 x3 x4 x5 x6 x7 | some (.inr r)=>some r | none=>none
@[simp] theorem acG{dJ eJ fS gR iF jU lW nJ:Type}{γ:Type}(x0:dJ)(x1:eJ)(x2:fS)(x3:gR)(x4:iF)(x5:jU)(x6:lW)(x7:nJ)(f:dJ->eJ->fS->gR->iF->jU->lW->nJ->Option γ):jn8 (some (.inl (x0,x1,x2,x3,x4,x5,x6,x7))) f=f x0 x1 x2 x3 x4 x5 x6 x7:=rfl
@[simp] theorem acH{dJ eJ fS gR iF jU lW nJ:Type}{γ:Type}(r:γ)(f:dJ->eJ->fS->gR->iF->jU->lW->nJ->Option γ):jn8 (some (.inr r)) f=some r:=rfl
@[simp] theorem aak{dJ eJ fS gR iF jU lW nJ:Type}{γ:Type}(f:dJ->eJ->fS->gR->iF->jU->lW->nJ->Option γ):jn8 none f=none:=rfl
def kc8{dJ eJ fS gR iF jU lW nJ:Type}{γ:Type}(o:dJ×eJ×fS×gR×iF×jU×lW×nJ)(f:dJ->eJ->fS->gR->iF->jU->lW->nJ->Option γ)(r:γ):Prop:=match o with | (x0,x1,x2,x3,x4,x5,x6,x7)=>f x0 x1 x2 x3 x4 x5 x6 x7=some r
def ob9{dJ eJ fS gR iF jU lW nJ qP:Type}{γ:Type}(o:Option (dJ×eJ×fS×gR×iF×jU×lW×nJ×qP))(f:dJ->eJ->fS->gR->iF->jU->lW->nJ->qP->Option γ):Option γ:=match o with | some (x0,x1,x2,x3,x4,x5,x6,x7,x8)=>f x0 x1 x2 x3 x4 x5 x6 x7 x8 | none=>none
@[simp] theorem aal{dJ eJ fS gR iF jU lW nJ qP:Type}{γ:Type}(x0:dJ)(x1:eJ)(x2:fS)(x3:gR)(x4:iF)(x5:jU)(x6:lW)(x7:nJ)(x8:qP)(f:dJ->eJ->fS->gR->iF->jU->lW->nJ->qP->Option γ):ob9 (some (x0,x1,x2,x3,x4,x5,x6,x7,x8)) f=f x0 x1 x2 x3 x4 x5 x6 x7 x8:=rfl
@[simp] theorem aam{dJ eJ fS gR iF jU lW nJ qP:Type}{γ:Type}(f:dJ->eJ->fS->gR->iF->jU->lW->nJ->qP->Option γ):ob9 none f=none:=rfl
def jn9{dJ eJ fS gR iF jU lW nJ qP:Type}{γ:Type}(o:Option ((dJ×eJ×fS×gR×iF×jU×lW×nJ×qP)⊕γ))(f:dJ->eJ->fS->gR->iF->jU->lW->nJ->qP->Option γ):Option γ:=match o with | some (.inl (x0,x1,x2,x3,x4,x5,x6,x7,x8))=>f x0 x1 x2 x3 x4 x5 x6 x7 x8 | some (.inr r)=>some r | none=>none
@[simp] theorem acI{dJ eJ fS gR iF jU lW nJ qP:Type}{γ:Type}(x0:dJ)(x1:eJ)(x2:fS)(x3:gR)(x4:iF)(x5:jU)(x6:lW)(x7:nJ)(x8:qP)(f:dJ->eJ->fS->gR->iF->jU->lW->nJ->qP->Option γ):jn9 (some (.inl (x0,x1,x2,x3,x4,x5,x6,x7,x8))) f=f x0 x1 x2 x3 x4 x5 x6 x7 x8:=rfl
@[simp] theorem acJ{dJ eJ fS gR iF jU lW nJ qP:Type}{γ:Type}(r:γ)(f:dJ->eJ->fS->gR->iF->jU->lW->nJ->qP->Option γ):jn9 (some (.inr r)) f=some r:=rfl
@[simp] theorem aan{dJ eJ fS gR iF jU lW nJ qP:Type}{γ:Type}(f:dJ->eJ->fS->gR->iF->jU->lW->nJ->qP->Option γ):jn9 none f=none:=rfl
def kc9{dJ eJ fS gR iF jU lW nJ qP:Type}{γ:Type}(o:dJ×eJ×fS×gR×iF×jU×lW×nJ×qP)(f:dJ->eJ->fS->gR->iF->jU->lW->nJ->qP->Option γ)(r:γ):Prop:=match o with | (x0,x1,x2,x3,x4,x5,x6,x7,x8)=>f x0 x1 x2 x3 x4 x5 x6 x7 x8=some r
def aao{dJ eJ fS gR iF jU lW nJ qP tU:Type}{γ:Type}(o:Option (dJ×eJ×fS×gR×iF×jU×lW×nJ×qP×tU))(f:dJ->eJ->fS->gR->iF->jU->lW->nJ->qP->tU->Option γ):Option γ:=match o with | some (x0,x1,x2,x3,x4,x5,x6,x7,x8,x9)=>f x0 x1 x2 x3 x4 x5 x6 x7 x8 x9 | none=>none
@[simp] theorem Zh{dJ eJ fS gR iF jU lW nJ qP tU:Type}{γ:Type}(x0:dJ)(x1:eJ)(x2:fS)(x3:gR)(x4:iF)(x5:jU)(x6:lW)(x7:nJ)(x8:qP)(x9:tU)(f:dJ->eJ->fS->gR->iF->jU->lW->nJ->qP->tU->Option γ):aao (some (x0,x1,x2,x3,x4,x5,x6,x7,x8,x9)) f=f x0 x1 x2 x3 x4 x5 x6 x7 x8 x9:=rfl
@[simp] theorem Zi{dJ eJ fS gR iF jU lW nJ qP tU:Type}{γ:Type}(f:dJ->eJ->fS->gR->iF->jU->lW->nJ->qP->tU->Option γ):aao none f=none:=rfl
def Xk{dJ eJ fS gR iF jU lW nJ qP tU:Type}{γ:Type}(o:Option ((dJ×eJ×fS×gR×iF×jU×lW×nJ×qP×tU)⊕γ))(f:dJ->eJ->fS->gR->iF->jU->lW->nJ->qP->tU->Option γ):Option γ:=match o with | some (.inl (x0,x1,x2,x3,x4,x5,x6,x7,x8,x9))=>f x0 x1 x2 x3 x4 x5 x6 x7 x8 x9 | some (.inr r)=>some r | none=>none
@[simp] theorem aap{dJ eJ fS gR iF jU lW nJ qP tU:Type}{γ:Type}(x0:dJ)(x1:eJ)(x2:fS)(x3:gR)(x4:iF)(x5:jU)(x6:lW)(x7:nJ)(x8:qP)(x9:tU)(f:dJ->eJ->fS->gR->iF->jU->lW->nJ->qP->tU->Option γ):Xk (some (.inl (x0,x1,x2,x3,x4,x5,x6,x7,x8,x9))) f=f x0 x1 x2 x3 x4 x5 x6 x7 x8 x9:=rfl
@[simp] theorem aaq{dJ eJ fS gR iF jU lW nJ qP tU:Type}{γ:Type}(r:γ)(f:dJ->eJ->fS->gR->iF->jU->lW->nJ->qP->tU->Option γ):Xk (some (.inr r)) f=some r:=rfl
@[simp] theorem Zj{dJ eJ fS gR iF jU lW nJ qP tU:Type}{γ:Type}(f:dJ->eJ->fS->gR->iF->jU->lW->nJ->qP->tU->Option γ):Xk none f=none:=rfl
def Xl{dJ eJ fS gR iF jU lW nJ qP tU:Type}{γ:Type}(o:dJ×eJ×fS×gR×iF×jU×lW×nJ×qP×tU)(f:dJ->eJ->fS->gR->iF->jU->lW->nJ->qP->tU->Option γ)(r:γ):Prop:=match o with | (x0,x1,x2,x3,x4,x5,x6,x7,x8,x9)=>f x0 x1 x2 x3 x4 x5 x6 x7 x8 x9=some r
def aar{dJ eJ fS gR iF jU lW nJ qP tU rD:Type}{γ:Type}(o:Option (dJ×eJ×fS×gR×iF×jU×lW×nJ×qP×tU×rD))(f:dJ->eJ->fS->gR->iF->jU->lW->nJ->qP->tU->rD->Option γ):Option γ:=match o with | some (x0,x1,x2,x3,x4,x5,x6,x7,x8,x9,Ax)=>f x0 x1 x2 x3 x4 x5 x6 x7 x8 x9 Ax | none=>none
@[simp] theorem Zk{dJ eJ fS gR iF jU lW nJ qP tU rD:Type}{γ:Type}(x0:dJ)(x1:eJ)(x2:fS)(x3:gR)(x4:iF)(x5:jU)(x6:lW)(x7:nJ)(x8:qP)(x9:tU)(Ax:rD)(f:dJ->eJ->fS->gR->iF->jU->lW->nJ->qP->tU->rD->Option γ):aar (some (x0,x1,x2,x3,x4,x5,x6,x7,x8,x9,Ax)) f=f x0 x1 x2 x3 x4 x5 x6 x7 x8 x9 Ax:=rfl
@[simp] theorem Zl{dJ eJ fS gR iF jU lW nJ qP tU rD:Type}{γ:Type}(f:dJ->eJ->fS->gR->iF->jU->lW->nJ->qP->tU->rD->Option γ):aar none f=none:=rfl
def Xm{dJ eJ fS gR iF jU lW nJ qP tU rD:Type}{γ:Type}(o:Option ((dJ×eJ×fS×gR×iF×jU×lW×nJ×qP×tU×rD)⊕γ))(f:dJ->eJ->fS->gR->iF->jU->lW->nJ->qP->tU->rD->Option γ):Option γ:=match o with | some (.inl (x0,x1,x2,x3,x4,x5,x6,x7,x8,x9,Ax))=>f x0 x1 x2 x3 x4 x5 x6 x7 x8 x9 Ax | some (.inr r)=>some r | none=>none
@[simp] theorem aas{dJ eJ fS gR iF jU lW nJ qP tU rD:Type}{γ:Type}(x0:dJ)(x1:eJ)(x2:fS)(x3:gR)(x4:iF)(x5:jU)(x6:lW)(x7:nJ)(x8:qP)(x9:tU)(Ax:rD)(f:dJ->eJ->fS->gR->iF->jU->lW->nJ->qP->tU->rD->Option γ):Xm (some (.inl (x0,x1,x2,x3,x4,x5,x6,x7,x8,x9,Ax))) f=f x0 x1 x2 x3 x4 x5 x6 x7 x8 x9 Ax:=rfl
@[simp] theorem aat{dJ eJ fS gR iF jU lW nJ qP tU rD:Type}{γ:Type}(r:γ)(f:dJ->eJ->fS->gR->iF->jU->lW->nJ->qP->tU->rD->Option γ):Xm (some (.inr r)) f=some r:=rfl
@[simp] theorem Zm{dJ eJ fS gR iF jU lW nJ qP tU rD:Type}{γ:Type}(f:dJ->eJ->fS->gR->iF->jU->lW->nJ->qP->tU->rD->Option γ):Xm none f=none:=rfl
def Xn{dJ eJ fS gR iF jU lW nJ qP tU rD:Type}{γ:Type}(o:dJ×eJ×fS×gR×iF×jU×lW×nJ×qP×tU×rD)(f:dJ->eJ->fS->gR->iF->jU->lW->nJ->qP->tU->rD->Option γ)(r:γ):Prop:=match o with | (x0,x1,x2,x3,x4,x5,x6,x7,x8,x9,Ax)=>f x0 x1 x2 x3 x4 x5 x6 x7 x8 x9 Ax=some r
def aau{dJ eJ fS gR iF jU lW nJ qP tU rD AK:Type}{γ:Type}(o:Option (dJ×eJ×fS×gR×iF×jU×lW×nJ×qP×tU×rD×AK))(f:dJ->eJ->fS->gR->iF->jU->lW->nJ->qP->tU->rD->AK->Option γ):Option γ:=match o with | some (x0,x1,x2,x3,x4,x5,x6,x7,x8,x9,Ax,vX)=>f x0 x1 x2 x3 x4 x5 x6 x7 x8 x9 Ax vX | none=>none
@[simp] theorem Zn{dJ eJ fS gR iF jU lW nJ qP tU rD AK:Type}{γ:Type}(x0:dJ)(x1:eJ)(x2:fS)(x3:gR)(x4:iF)(x5:jU)(x6:lW)(x7:nJ)(x8:qP)(x9:tU)(Ax:rD)(vX:AK)(f:dJ->eJ->fS->gR->iF->jU->lW->nJ->qP->tU->rD->AK->Option γ):aau (some (x0,x1,x2,x3,x4,x5,x6,x7,x8,x9,Ax,vX)) f=f x0 x1 x2 x3 x4 x5 x6 x7 x8 x9 Ax vX:=rfl
@[simp] theorem Zo{dJ eJ fS gR iF jU lW nJ qP tU rD AK:Type}{γ:Type}(f:dJ->eJ->fS->gR->iF->jU->lW->nJ->qP->tU->rD->AK->Option γ):aau none f=none:=rfl
def Xo{dJ eJ fS gR iF jU lW nJ qP tU rD AK:Type}{γ:Type}(o:Option ((dJ×eJ×fS×gR×iF×jU×lW×nJ×qP×tU×rD×AK)⊕γ))(f:dJ->eJ->fS->gR->iF->jU->lW->nJ->qP->tU->rD->AK->Option γ):Option γ:=match o with | some (.inl (x0,x1,x2,x3,x4,x5,x6,x7,x8,x9,Ax,vX))=>f x0 x1 x2 x3 x4 x5 x6 x7 x8 x9 Ax vX | some (.inr r)=>some r | none=>none
@[simp] theorem aav{dJ eJ fS gR iF jU lW nJ qP tU rD AK:Type}{γ:Type}(x0:dJ)(x1:eJ)(x2:fS)(x3:gR)(x4:iF)(x5:jU)(x6:lW)(x7:nJ)(x8:qP)(x9:tU)(Ax:rD)(vX:AK)(f:dJ->eJ->fS->gR->iF->jU->lW->nJ->qP->tU->rD->AK->Option γ):Xo (some (.inl (x0,x1,x2,x3,x4,x5,x6,x7,x8,x9,Ax,vX))) f=f x0 x1 x2 x3 x4 x5 x6 x7 x8 x9 Ax vX:=rfl
@[simp] theorem aaw{dJ eJ fS gR iF jU lW nJ qP tU rD AK:Type}{γ:Type}(r:γ)(f:dJ->eJ->fS->gR->iF->jU->lW->nJ->qP->tU->rD->AK->Option γ):Xo (some (.inr r)) f=some r:=rfl
@[simp] theorem Zp{dJ eJ fS gR iF jU lW nJ qP tU rD AK:Type}{γ:Type}(f:dJ->eJ->fS->gR->iF->jU->lW->nJ->qP->tU->rD->AK->Option γ):Xo none f=none:=rfl
abbrev wi(x:Int):Int:=IntKind.i64.wrap x
theorem eF{x:Int}(h:-9223372036854775808<=x/\x<=9223372036854775807):wi x=x:=i64_in x h
abbrev bI(i:Int)(n:Nat):Prop:=0<=i/\i<(n:Int)
theorem aS{α:Type}[Inhabited α]{l:List α}{i:Int}(h:bI i l.length):l[i.toNat]? = some (J l i.toNat):=get_at (by have:=h.1;have:=h.2;omega)
theorem ff{α:Type}[Inhabited α]{l:List α}{i:Int}(h:bI i l.length):i.toNat<l.length:=by have:=h.1;have:=h.2;omega
def ck(x:Int):List Value:=[.int .i64 x]
theorem aE:sH ck 1:=⟨λ_=>rfl,λx afv h=>by simp only[ck,sN,sO,sP]at h;subst h;rfl,eL⟩
def Gc(x:Bool):List Value:=[.bool x]
def dA:fR->Nat | some a=>a.block | none=>0
def kg:fR->Nat | some a=>a.off | none=>0
section
variable {P:Program}{w0 w:World}{L:List bj}{α:Type}{E:TypeId}{sz n cc:Nat}{enc:α->List Value}{l:List α}{ca:fR}{o:Oper}{e:Nat->Value}{t:TypeId}{Df:List Deferred}
theorem _root_.Go.Proofs.YtaiffafelihaaaaGreatDoor.SL.Fit.sg(h:Fit w0 (aC (rowOf E sz enc (.slice ca n cc) l::L)) w)(hl:0<l.length):ca=some ⟨dA ca,0,none⟩/\Fit w0 (aC (slc E sz enc (dA ca) cc l::L)) w:=by
 obtain⟨g,e,h'⟩:=h.Uo hl;subst e;exact⟨rfl,h'⟩
theorem _root_.Go.Proofs.YtaiffafelihaaaaGreatDoor.SL.Fit.bE(he:sH enc sz)(h:Fit w0 (aC (rowOf E sz enc (.slice ca n cc) l::L)) w){i f:Nat}{x:α}{afv:Value}(hi:l[i]? = some x)(hf:(enc x)[f]? = some afv):w.cell? ⟨dA ca,i*sz+f,none⟩=some afv:=by
 have hlt:i<l.length:=(List.getElem?_eq_some_iff.1 hi).1;exact(h.sg aB).2.Od he i f x afv hi hf
theorem _root_.Go.Proofs.YtaiffafelihaaaaGreatDoor.SL.Fit.yC(h:Fit w0 (aC (slc E sz enc (dA ca) cc l::L)) w)(hca:ca=some ⟨dA ca,0,none⟩)(hn:n=l.length):Fit w0 (aC (rowOf E sz enc (.slice ca n cc) l::L)) w:=h.Up hca hn
theorem zg{w':World}{x y:Operand}{k:IntKind}{i:Int}(ho:o.op= .indexAddr t x y)(hx:eO e x= .slice ca n cc)(hy:eO e y= .int k i)
 (ht:P.underlying t=some (.slice E)) (hs:(P.info? E).map (·.size)=some sz) (hF:Fit w0 (aC (rowOf E sz enc (.slice ca n cc) l::L)) w) (hi:bI i l.length):(execOp (eO e) o).run P w'= .ok (.value (.pointer (some ⟨dA ca,i.toNat*sz,none⟩))) w':=by
 have hn:=hF.p6;have h0:=hi.1;have h1:=hi.2;have hca:=(hF.sg aB).1;exact Xf hca ho hx hy ht hs h0 aB
end
section
variable {P:Program}{ops:Array Oper}{Q:Exit->Act->World->Prop}{a:Act}{w w0 w1:World}{rest:List Oper}{o:Oper}{n d t:Nat}{v:Value}{l:List (Nat×Value)}{j e:Nat->Value}{L:List bj}{H:bj}{Df:List Deferred}
variable {α:Type}{E:TypeId}{sz n0 cc:Nat}{enc:α->List Value}{xs:List α}{ca:fR}
theorem oW{x y:Operand}(hw:tN o ops a)(hd:o.dst=none)(hr:cS Df n (lk l j) a)(ho:o.op= .store t x y)
 {i f:Nat} (hx:eO (lk l j) x= .pointer (some ⟨dA ca,i*sz+f,none⟩)) (hy:eO (lk l j) y=v) (hv:v.cells=#[v]) (h1:v.oneCell'=true) (hs:(P.info? t).map (·.size)=some 1)
 (he:sH enc sz) (hF:Fit w0 (aC (rowOf E sz enc (.slice ca n0 cc) xs::L)) w) {p q:α} (hp:xs[i]? = some p) (hf:f<sz) (hq:enc q=(enc p).set f v)
 (k:∀w1,Fit w0 (aC (rowOf E sz enc (.slice ca n0 cc) (xs.set i q)::L)) w1->wpList P ops Q rest a w1):wpList P ops Q (o::rest) a w:=by
 have hlt:i<xs.length:=(List.getElem?_eq_some_iff.1 hp).1;have hn:=hF.p6;obtain⟨hca,Ch⟩:=hF.sg aB;exact Jf hw hd hr ho hx hy hv h1 hs he Ch hp hf hq λw1 h=>k w1 (h.yC hca (by rw[hU];exact hn))
theorem xN{x y:Operand}{vs:List Value}(hw:tN o ops a)(hd:o.dst=none)(hr:cS Df n (lk l j) a)(ho:o.op= .store t x y)
 {i:Nat} (hx:eO (lk l j) x= .pointer (some ⟨dA ca,i*sz,none⟩)) (hy:eO (lk l j) y= .agg vs.toArray) (h1:vs.all (·.oneCell')=true) (hs:(P.info? t).map (·.size)=some vs.length)
 (he:sH enc sz) (hF:Fit w0 (aC (rowOf E sz enc (.slice ca n0 cc) xs::L)) w) {q:α} (hi:i<xs.length) (hq:enc q=vs)
 (k:∀w1,Fit w0 (aC (rowOf E sz enc (.slice ca n0 cc) (xs.set i q)::L)) w1->wpList P ops Q rest a w1):wpList P ops Q (o::rest) a w:=by
 have hn:=hF.p6;obtain⟨hca,Ch⟩:=hF.sg aB;exact Hw hw hd hr ho hx hy h1 hs he Ch hi hq λw1 h=>k w1 (h.yC hca (by rw[hU];exact hn))
theorem n3{x y:Operand}{i:Int}{bytes:Nat}{zc:Array Value}(z0:α)(hw:tN o ops a)(hd:o.dst=some d)(hn:Nat.blt d n=true)(hr:cS Df n (lk l j) a)
 (ho:o.op= .makeSlice t x y) (hx:eO (lk l j) x= .int .i64 i) (hy:eO (lk l j) y= .int .i64 i) (hi:0<=i/\i*bytes<=140737488355328) (he:sH enc sz) (hty:P.underlying t=some (.slice E))
 (qO:(P.info? E).map (λi=>(i.size,i.bytes,i.zero.map (·.cells)))=some (sz,bytes,some zc)) (hz:zc.toList=enc z0) (MB:Nat.blt 0 bytes=true) (hF:Fit w0 (aC L) w)
 (k:∀ca w1 a,Fit w0 (aC (rowOf E sz enc (.slice ca (List.replicate i.toNat z0).length i.toNat) (List.replicate i.toNat z0)::L)) w1->cS Df n (lk ((d,.slice ca (List.replicate i.toNat z0).length i.toNat)::l) j) a->wpList P ops Q rest a w1):wpList P ops Q (o::rest) a w:=by
 have hb:i.toNat*bytes<=140737488355328:=by
  have h2:=hi.2;have e:((i.toNat*bytes:Nat):Int)=i*bytes:=by rw[Int.natCast_mul,Int.toNat_of_nonneg hi.1]
  omega
 refine Ut (c:=i.toNat) z0 hw hd hn hr ho hx hy (by have:=hi.1;omega) he hty qO hz hb MB hF λg w1 a h IB => ?_;have hl:(List.replicate i.toNat z0).length=i.toNat:=lY;refine k (some ⟨g,0,none⟩) w1 a (h.Oc rfl) ?_;rw[hl];exact IB
theorem KJ{s x:Operand}{cb:fR}{n1 cd:Nat}{ys:List α}(hw:tN o ops a)(hd:o.dst=some d)(hn:Nat.blt d n=true)(hr:cS Df n (lk l j) a)
 (ho:o.op= .call {callee:=.builtin .copy,args:=#[s,x],argTypes:=#[t,t]}) (hs:eO (lk l j) s= .slice ca n0 cc) (hx:eO (lk l j) x= .slice cb n1 cd)
 (he:sH enc sz) (hty:P.underlying t=some (.slice E)) (hsz:(P.info? E).map (·.size)=some sz) (hlen:ys.length=xs.length)
 (hF:Fit w0 (aC (rowOf E sz enc (.slice ca n0 cc) xs::rowOf E sz enc (.slice cb n1 cd) ys::L)) w)
 (k:∀w1 a,Fit w0 (aC (rowOf E sz enc (.slice ca n0 cc) ys::rowOf E sz enc (.slice cb n1 cd) ys::L)) w1->cS Df n (lk ((d,.int .i64 ((xs.length:Nat):Int))::l) j) a->wpList P ops Q rest a w1):wpList P ops Q (o::rest) a w:=by
 have Ho:=hF.p6;have MC:=(hF.pick 1).p6;rcases hF.rows with ⟨e1,e2,Ch⟩ | ⟨g,cap,e1,_,Ch⟩
 ·simp only[Value.slice.injEq]at e1;obtain⟨rfl,rfl,rfl⟩:=e1;subst e2;obtain rfl:ys=[]:=FY hlen;subst MC;refine qW (w1:=w) (v:=.int .i64 0) hw hd hn hr ?_ (λa hr=>k w a hF (by simpa using hr));have hcells:(Builtin.firstCells sz 0 (.slice cb 0 cd)).run P w= .ok #[] w:=by
   have:=hF.pick 1;rcases(hF.pick 1).rows with ⟨e3,_,_⟩ | ⟨g',cap',e3,_,_⟩<;>simp only[Value.slice.injEq]at e3<;>rw[e3.1]
   ·have:=run_firstCells_none (P:=P) w sz 0 0 cd;simpa using this
   ·have:=run_firstCells_some (P:=P) w sz 0 ⟨g',0,none⟩ 0 cd [] (by simp) (by intro j afv hu;simp at hu);simpa using this
  unfold execOp;cases wI:P.info? E with
  | none=>simp[wI]at hsz
  | some q =>
   simp[wI]at hsz;simp only[ho,resolve,invoke,builtin,ng,sM,nh,EO,zT,AD,hs,hx];simp[Builtin.copy_,run_underlying hty,Builtin.lenOf,sizeOf,typeInfo,wI,hsz,hcells,goInt]
 ·simp only[Value.slice.injEq]at e1;obtain⟨rfl,_,rfl⟩:=e1;exact Uu hw hd hn hr ho hs hx Ho he hty hsz hlen Ch λw1 a h IB=>k w1 a (h.Oc aB) IB
theorem _root_.Go.Proofs.YtaiffafelihaaaaGreatDoor.SL.Fit.dn{w0 w:World}(k:Nat){L:List bj}(h:Fit w0 (aC L) w):Fit w0 (aC (L.drop k)) w:=by
 induction k generalizing L with
 | zero=>exact h
 | succ k ih =>
  cases L with
  | nil=>exact h
  | cons P L=>exact ih h.drop
def bL{α:Type}(L:List bj)(sz:Nat)(enc:α->List Value)(va:fR)(l:List α):Prop:=
 ∀i x,l[i]? = some x->va=some ⟨dA va,kg va,none⟩/\∀f afv,(enc x)[f]? = some afv->∀z w,Fit z (aC L) w->w.cell? ⟨dA va,kg va+i*sz+f,none⟩=some afv
theorem bL.nil{va:fR}:bL L sz enc va ([]:List α):=λi x h=>by simp at h
theorem bL.up(k:Nat){L':List bj}{va:fR}{l:List α}(h:bL (L'.drop k) sz enc va l):bL L' sz enc va l:=
 λi x hx=>⟨(h i x hx).1,λf afv hu z w hw=>(h i x hx).2 f afv hu z w (hw.dn k)⟩
theorem bL.Gd{z0:World}{L' L'' L3:List bj}{n cc:Nat}{l:List α}(he:sH enc sz)(h0:Fit z0 (aC (rowOf E sz enc (.slice ca n cc) l::L'')) w)
 (f:∀{z w},Fit z (aC L') w->Fit z (aC (rowOf E sz enc (.slice ca n cc) l::L3)) w):bL L' sz enc ca l:=by
 intro i x hx;have hlt:i<l.length:=(List.getElem?_eq_some_iff.1 hx).1;have hca:=(h0.sg aB).1;have ho:kg ca=0:=by rw[hca];rfl
 refine⟨by rw[ho];exact hca,λq afv hu z w hw => ?_⟩;rw[ho,Ae];exact(f hw).bE he hx hu
theorem bL.take{va:fR}{l:List α}(h:bL L sz enc va l)(k:Nat):bL L sz enc va (l.take k):=by
 intro i x hx;refine h i x ?_;rw[List.getElem?_take]at hx;split at hx
 ·exact hx
 ·cases hx
theorem Wj{x y:Operand}{k:IntKind}{i:Int}{n0:Nat}{L:List bj}{va:fR}[Inhabited α]{l:List α}(ho:o.op= .indexAddr t x y)(hx:eO e x= .slice va n0 cc)(hy:eO e y= .int k i)(Ho:n0=l.length)
 (ht:P.underlying t=some (.slice E)) (hs:(P.info? E).map (·.size)=some sz) (hF:bL L sz enc va l) (hi:bI i l.length):(execOp (eO e) o).run P w= .ok (.value (.pointer (some ⟨dA va,kg va+i.toNat*sz,none⟩))) w:=by
 have h0:=hi.1;have h1:=hi.2;exact rie (hF _ _ (aS hi)).1 ho hx hy ht hs h0 aB
theorem bL.cell{z:World}{L:List bj}{va:fR}[Inhabited α]{l:List α}{i:Int}(hF:bL L sz enc va l)(hi:bI i l.length)(h:Fit z (aC L) w)(f:Nat){afv:Value}(hu:(enc (J l i.toNat))[f]? = some afv):w.cell? ⟨dA va,kg va+i.toNat*sz+f,none⟩=some afv:=
 (hF _ _ (aS hi)).2 f afv hu z w h
theorem Ge:∀(n:Nat) (L:List bj),aC ((List.range n).map (λi=>L.getD i MA)++L.drop n)=aC L
 | 0,L=>by simp
 | n+1,[]=>by
  have e:∀n,aC ((List.range n).map (λi=>([]:List bj).getD i MA))=aC []:=by
   intro n
   induction n with
   | zero=>rfl
   | succ n ih =>
    rw[List.range_succ,FZ,AH,ih];show sep MA (sep MA MA)=MA;rw[FC,FC]
  simpa using e (n+1)
 | n+1,P::L=>by
  rw[List.range_succ_eq_map,zT,List.map_map];have ih:=Ge n L;show sep P (aC (List.map ((λi=>(P::L).getD i MA)∘Nat.succ) (List.range n)++L.drop n))=sep P (aC L);rw[<-ih]
  rfl
def aax(n:Nat)(is:List Nat):Bool:=(is++(List.range n).filter (λi => !is.contains i)).isPerm (List.range n)
theorem _root_.Go.Proofs.YtaiffafelihaaaaGreatDoor.SL.Fit.Zq{w0 w:World}{L L':List bj}(h:Fit w0 (aC L) w)(n:Nat)(is:List Nat)(hB:aax n is=true)(e:is.map (λi=>L.getD i MA)++L.drop n=L'):Fit w0 (aC L') w:=by
 subst e;have hp:=(List.isPerm_iff.1 hB).map (λi=>L.getD i MA);have h1:Fit w0 (aC ((List.range n).map (λi=>L.getD i MA)++L.drop n)) w:=h.eq (Ge n L).symm;rw[FZ]at hp;have h2:=h1.perm (hp.symm.append_right (L.drop n));have h3:=h2.perm (List.perm_append_comm.append_right (L.drop n));rw[pS]at h3;generalize ((List.range n).filter (λi => !is.contains i)).map (λi=>L.getD i MA)=X at h3;clear h h1 h2 hp hB
 induction X with
 | nil=>exact h3
 | cons x X ih=>exact ih h3.drop
theorem Cu{f:FuncId}{args:Array Value}(hw:tN o ops a)(hd:o.dst=some d)(hn:Nat.blt d n=true)(hr:cS Df n (lk l j) a)
 (hrun:(execOp (eO (lk l j)) o).run P w= .ok (.enter f args) w) (hc:Calls P f args w λe w1 =>∃v,e= .returned v/\∀a,cS Df n (lk ((d,v)::l) j) a->wpList P ops Q rest a w1):wpList P ops Q (o::rest) a w:=
 s7 hw hd hn hr hrun hc λe w1 h=>h
theorem Gf{fn:Func}{afw:Ending->World->Prop}{t1 t2 t3:Nat}{v1 v2 v3:Value}(hres:fn.results=#[.tmp t1,.tmp t2,.tmp t3])(hr:kH n e a)(h1:e t1=v1)(h2:e t2=v2)(h3:e t3=v3)(h:afw (.returned (.tuple #[v1,v2,v3])) w):bodyPost P fn afw .ret a w:=by
 refine bodyPost_ret ?_ hr.defers h;have g1:=hr.get t1;have g2:=hr.get t2;have g3:=hr.get t3;rw[h1,xm]at g1;rw[h2,xm]at g2;rw[h3,xm]at g3;simp[results,hres,g1,g2,g3]
variable {md:Region.Mode}
def eK(P:Program)(md:Region.Mode)(ops:Array Oper)(Q:Exit->Act->World->Prop)(D:World->Prop)(E:List Nat):Nat->Array Bool->Act->World->Prop
 | 0,aO,a,w=>Region.ready md ops aO=[]/\Q .normal a w
 | fuel+1,aO,a,w=>(Region.ready md ops aO=[]->Q .normal a w)/\
  ∀i∈Region.ready md ops aO,wpOp P ops Q i (λa w=>(i∈E->D w)/\eK P md ops Q D E fuel (aO.setIfInBounds i true) a w) a w
theorem Gg{D:World->Prop}{E:List Nat}:∀(fuel:Nat) (aO:Array Bool) (a:Act) (w:World),eK P md ops Q D E fuel aO a w->wpAny P md ops Q fuel aO a w
 | 0,_,_,_,h=>h
 | f+1,aO,a,w,h=>⟨h.1,λi hi=>wpOp_mono (λa w k=>Gg f _ a w k.2) (h.2 i hi)⟩
def Ck(md:Region.Mode)(ops:Array Oper)(E:List Nat)(aO:Array Bool)(i:Nat):Bool:=
 (List.range ops.size).all λk=>k==i||aO.getD k true || !KI md ops aO i ops.size k||E.contains k||match ops[k]? with | some ok=>D2 ok | none=>true
theorem PO{D D':World->Prop}{E E':List Nat}{k:Nat}{oi ok:Oper}(hk:ops[k]? = some ok)(hap:oi.apart ops ok=true)(T5:wK Q)
 (hsi:∀cs b,oi.op≠.select cs b) (hsk:∀cs b,ok.op≠.select cs b) (Q6:∀k∈E',k∈E/\∀w,D w->D' w) (hDk:∀w w',oV w w'->D' w->D' w') (KL:(∀w,D' w)∨D2 ok=true∨k∈E') (hD:D' w) {K:Act->World->Prop}
 (hy:YD P ops D' oi v a) (h:wpOp P ops Q k (λa w=>(k∈E->D w)/\K a w) (a.put oi.dst v) w):wpOp P ops Q k (λa w=>(k∈E->D w)/\D' w/\YD P ops D' oi v a/\K (a.put oi.dst v) w) a w:=by
 obtain⟨h1,h2,h3⟩:=Oper.apart_spec hap;have keep:∀(a:Act),YD P ops D' oi v a->∀afv,YD P ops D' oi v (a.put ok.dst afv):=λa hy afv=>hy.of_same (execOp_put oi hsi a ok.dst afv h3) (wanted_put oi a ok.dst afv h3);unfold wpOp at *;simp only[hk]at *;rw[wanted_put ok a oi.dst v h1]at h;by_cases hw:Region.wanted ok (yielded ops a.tmps)=true
 ·rw[aW hw]at h⊢;rcases h with h | h
  ·left
   unfold Oper.wp at *;rw[execOp_put ok hsk a oi.dst v h1]at h;have hkeep:=λ(hb:D2 ok=true) x w' hr=>KF (P:=P) hb a.eval w w' x hr;generalize (execOp a.eval ok).run P w=r at *;cases r with
   | ok x w' =>
    have hD':(k∈E->D w')->D' w':=by
     intro hE;rcases KL with yD | hb | hb
     ·exact yD w'
     ·exact hDk w w' (hkeep hb x w' rfl).2 hD
     ·exact(Q6 k hb).2 _ (hE (Q6 k hb).1)
    cases x<;>simp only[Oper.upon]at h⊢
    case value afv=>exact⟨h.1,hD' h.1,keep a hy afv,by rw[<-Act.put_comm a v afv h2];exact h.2⟩
    case skip=>exact⟨h.1,hD' h.1,keep a hy _,by rw[<-Act.put_comm a v undef h2];exact h.2⟩
    case defer df =>
     refine⟨h.1,hD' h.1,?_,?_⟩
     ·have:YD P ops D' oi v ({a with defers:=df::a.defers}:Act):=hy;exact keep _ this _
     ·have e:=Act.put_comm ({a with defers:=df::a.defers}:Act) v undef h2;rw[<-e];have e2:({(a.put oi.dst v)with defers:=df::(a.put oi.dst v).defers}:Act)=({a with defers:=df::a.defers}:Act).put oi.dst v:=by cases oi.dst<;>rfl
      rw[<-e2];exact h.2
    case enter f args =>
     have hpr:∀w'',(k∈E->D w'')->D' w'':=by
      intro w'' hE;rcases KL with yD | hb | hb
      ·exact yD w''
      ·obtain⟨⟨afv,hu⟩,_⟩:=hkeep hb _ _ rfl;cases hu
      ·exact(Q6 k hb).2 _ (hE (Q6 k hb).1)
     refine h.mono λe w'' he => ?_;cases e with
     | returned afv=>exact⟨he.1,hpr _ he.1,keep a hy afv,by rw[<-Act.put_comm a v afv h2];exact he.2⟩
     | panicked ch=>exact T5 ch a w'' _ _ he
     | outgrown=>exact he
    case row rw' args =>
     have hpr:∀w'',(k∈E->D w'')->D' w'':=by
      intro w'' hE;rcases KL with yD | hb | hb
      ·exact yD w''
      ·obtain⟨⟨afv,hu⟩,_⟩:=hkeep hb _ _ rfl;cases hu
      ·exact(Q6 k hb).2 _ (hE (Q6 k hb).1)
     refine h.mono λafv w'' he => ?_;exact⟨he.1,hpr _ he.1,keep a hy afv,by rw[<-Act.put_comm a v afv h2];exact he.2⟩
   | halt x w' =>
    cases x<;>simp only[Oper.upon]at h⊢;exact T5 _ a w' _ _ h
  ·right
   refine⟨?_,h.2⟩;have:=h.1;unfold Oper.asks at *;rw[execOp_put ok hsk a oi.dst v h1]at this;exact this
 ·rw[cF hw]at h⊢;exact⟨h.1,hD,keep a hy _,by rw[<-Act.put_comm a v undef h2];exact h.2⟩
theorem tV{D D':World->Prop}{E E':List Nat}{i:Nat}{oi:Oper}(hi:ops[i]? = some oi)(T5:wK Q)(hsel:∀(k:Nat) (o:Oper) cs b,ops[k]? = some o->o.op≠.select cs b)(hiD:i∈E->∀w,D' w->D w)(Q6:∀k∈E',k∈E/\∀w,D w->D' w)(hDk:∀w w',oV w w'->D' w->D' w')
 (sy:Array Bool) (KL:(∀w,D' w)∨Ck md ops E' sy i=true) :
 ∀(fuel:Nat) (aO:Array Bool) (a:Act) (w:World),
   (∀k ok,ops[k]? = some ok->k≠i->aO.getD k true=false->(∀e∈ok.after,Region.binds md e=true->e.on≠i)->oi.apart ops ok=true)->
   (∀k,aO.getD k true=false->sy.getD k true=false)->
   (∀k,aO.getD k false=true->sy.getD k false=true∨∀f,KI md ops sy i f k=true)->
   i∈Region.ready md ops aO->D' w->YD P ops D' oi v a->
   eK P md ops Q D E fuel (aO.setIfInBounds i true) (a.put oi.dst v) w->eK P md ops Q D E (fuel+1) aO a w:=by
 intro fuel;have hcan:∀(aO:Array Bool),(∀k,aO.getD k false=true->sy.getD k false=true∨∀f,KI md ops sy i f k=true)->∀k ok,ops[k]? = some ok->k≠i->(∀e∈ok.after,Region.binds md e=true->aO.getD e.on false=true)->∀f,KI md ops sy i f k=true:=by
  intro aO hl k ok hk ID yD f;cases f with
  | zero=>rfl
  | succ f =>
   simp only[KI,hk,lV,bne_iff_ne,ne_eq,ID,not_false_eq_true,true_and];rw[Array.all_eq_true_iff_forall_mem];intro e he;by_cases hb:Region.binds md e=true
   ·rcases hl _ (yD e he hb)with h | h
    ·simp[h]
    ·simp[h f]
   ·simp[hb]
 have hp:∀(aO:Array Bool),(∀k,aO.getD k true=false->sy.getD k true=false)->(∀k,aO.getD k false=true->sy.getD k false=true∨∀f,KI md ops sy i f k=true)->∀k ok,ops[k]? = some ok->k≠i->aO.getD k true=false->(∀e∈ok.after,Region.binds md e=true->aO.getD e.on false=true)->(∀w,D' w)∨D2 ok=true∨k∈E':=by
  intro aO hl0 hl k ok hk ID hun yD;rcases KL with h | h
  ·exact .inl h
  ·right
   have hc:=hcan aO hl k ok hk ID yD ops.size;have h1:=List.all_eq_true.1 h k (List.mem_range.2 (Array.getElem?_eq_some_iff.1 hk).1);simp only[hk,yw,wE,ID,false_or,hl0 k hun,Ix,hc,Bool.not_true,List.contains_iff_mem]at h1;exact h1.symm
 induction fuel with
 | zero =>
  intro aO a w _ _ _ hr hD hy H;refine⟨λh=>(by rw[h]at hr;cases hr),λk hk => ?_⟩;by_cases ID:k=i
  ·subst ID;exact hy.wpOp hi hD ⟨λh=>hiD h _ hD,H⟩
  ·have:=ready_mono hk ID;rw[H.1]at this;cases this
 | succ fuel ih =>
  intro aO a w hfree hl0 hl hr hD hy H;refine⟨λh=>(by rw[h]at hr;cases hr),λk hk => ?_⟩;by_cases ID:k=i
  ·subst ID;exact hy.wpOp hi hD ⟨λh=>hiD h _ hD,H⟩
  ·have h1:=H.2 k (ready_mono hk ID);obtain⟨Uy,ok,hok,yD⟩:=mem_ready.1 hk;have hnot:∀e∈ok.after,Region.binds md e=true->e.on≠i:=λe he hb heq=>by
    have h1:=yD e he hb;have h0:=(mem_ready.1 hr).1;rw[heq]at h1;rcases CV i aO.size with h' | h'
    ·simp[h']at h0 h1;rw[h0]at h1;cases h1
    ·simp[Array.getElem?_eq_none h']at h1
   have h2:=PO (D:=D) (E:=E) (E':=E') hok (hfree k ok hok ID Uy hnot) T5 (λcs b=>hsel i oi cs b hi) (λcs b=>hsel k ok cs b hok) Q6 hDk (hp aO hl0 hl k ok hok ID Uy yD) hD hy h1;have Xp:∀m om,ops[m]? = some om->m≠i->(aO.setIfInBounds k true).getD m true=false->
    (∀e∈om.after,Region.binds md e=true->e.on≠i)->oi.apart ops om=true:=λm om hm hmi hun hno=>by
    refine hfree m om hm hmi ?_ hno;by_cases hkm:k=m
    ·subst hkm;exact Uy
    ·rw[getD_set_ne true hkm]at hun;exact hun
   have acP:∀m,(aO.setIfInBounds k true).getD m true=false->sy.getD m true=false:=λm hm=>by
    by_cases hkm:k=m
    ·subst hkm;exact hl0 k Uy
    ·rw[getD_set_ne true hkm]at hm;exact hl0 m hm
   have hl':∀m,(aO.setIfInBounds k true).getD m false=true->sy.getD m false=true∨∀f,KI md ops sy i f m=true:=λm hm=>by
    by_cases hkm:k=m
    ·subst hkm;exact .inr (hcan aO hl k ok hok ID yD)
    ·rw[getD_set_ne false hkm]at hm;exact hl m hm
   refine wpOp_mono (λa' w' h3=>⟨h3.1,ih (aO.setIfInBounds k true) a' w' Xp acP hl' (ready_mono hr (Ne.symm ID)) h3.2.1 h3.2.2.1 ?_⟩) h2;rw[Array.setIfInBounds_comm _ _ ID];exact h3.2.2.2
theorem aay{id:Nat}{lo:List Oper}{H:bj}(D:World->Prop)(E:List Nat)(hF:Fit w0 H w)(hm:P.follows .mixedOrders=true)(k:∀w,Fit w0 H w->eK P .any lo.toArray Q D E lo.toArray.size (Array.replicate lo.toArray.size false) a w) :
 (Code.region id lo.toArray true).wp P Q a w:=Uv hF hm λw h=>Gg _ _ _ _ (k w h)
theorem e_val{D:World->Prop}{E:List Nat}{fuel i:Nat}{aO:Array Bool}(T5:wK Q)(hi:ops[i]? = some o)(PR:Region.noSelect ops=true)(hrd:(Region.ready .any ops aO).contains i=true)(hfr:Region.free .any ops aO i=true)
 (hiE:E.contains i=false) (hw:tN o ops a) (hd:o.dst=some d) (hn:Nat.blt d n=true) (hr:cS Df n (lk l j) a) (hrun:∀w,(execOp (eO (lk l j)) o).run P w= .ok (.value v) w)
 (k:∀a,cS Df n (lk ((d,v)::l) j) a->eK P .any ops Q D E fuel (aO.setIfInBounds i true) a w):eK P .any ops Q D E (fuel+1) aO a w:=by
 refine tV (D:=D) (D':=λ_=>True) (E:=E) (E':=[]) (v:=v) hi T5 (Ks PR) (λh=>absurd h (by simpa using hiE)) (λ_ h=>nomatch h) (λ_ _ _ _=>trivial) aO (.inl λ_=>trivial) fuel aO a w (Region.free_spec hi hfr) (λ_ h=>h) (λ_ h=>.inl h) (by simpa using hrd) trivial ?_ ?_
 ·exact .inl ⟨hw,λw _=>by rw[hr.eval];exact hrun w⟩
 ·rw[hd];exact k _ (hr.put d v hn)
theorem e_off{D:World->Prop}{E:List Nat}{fuel i:Nat}{aO:Array Bool}(T5:wK Q)(hi:ops[i]? = some o)(PR:Region.noSelect ops=true)(hrd:(Region.ready .any ops aO).contains i=true)(hfr:Region.free .any ops aO i=true)
 (hiE:E.contains i=false) (hw:Region.wanted o (yielded ops a.tmps)=false) (hd:o.dst=some d) (hn:Nat.blt d n=true) (hr:cS Df n (lk l j) a)
 (k:∀a,cS Df n (lk ((d,undef)::l) j) a->eK P .any ops Q D E fuel (aO.setIfInBounds i true) a w):eK P .any ops Q D E (fuel+1) aO a w:=by
 refine tV (D:=D) (D':=λ_=>True) (E:=E) (E':=[]) (v:=undef) hi T5 (Ks PR) (λh=>absurd h (by simpa using hiE)) (λ_ h=>nomatch h) (λ_ _ _ _=>trivial) aO (.inl λ_=>trivial) fuel aO a w (Region.free_spec hi hfr) (λ_ h=>h) (λ_ h=>.inl h) (by simpa using hrd) trivial ?_ ?_
 ·exact .inr ⟨hw,rfl⟩
 ·rw[hd];exact k _ (hr.put d undef hn)
theorem Gh:∀(cs:List Value) (b off:Nat) (w w':World),oV w w'->qK w b off cs->qK w' b off cs
 | [],_,_,_,_,_,_=>trivial
 | _::cs,b,off,w,w',hg,h=>⟨hg _ _ h.1,Gh cs b (off+1) w w' hg h.2⟩
theorem Xq{D:World->Prop}{E:List Nat}(E':List Nat){fuel i:Nat}{aO:Array Bool}{b off:Nat}{cs:List Value}(T5:wK Q)(Q6:∀k∈E',k∈E/\∀w,D w->qK w b off cs)(hi:ops[i]? = some o)(PR:Region.noSelect ops=true)(hrd:(Region.ready .any ops aO).contains i=true)(hfr:Region.free .any ops aO i=true)
 (hpr:Ck .any ops E' aO i=true) (hiE:E.contains i=false) (hw:tN o ops a) (hd:o.dst=some d) (hn:Nat.blt d n=true) (hr:cS Df n (lk l j) a)
 (hc:qK w b off cs) (hrun:∀w,qK w b off cs->(execOp (eO (lk l j)) o).run P w= .ok (.value v) w)
 (k:∀a,cS Df n (lk ((d,v)::l) j) a->eK P .any ops Q D E fuel (aO.setIfInBounds i true) a w):eK P .any ops Q D E (fuel+1) aO a w:=by
 refine tV (D:=D) (D':=λw=>qK w b off cs) (E:=E) (E':=E') (v:=v) hi T5 (Ks PR) (λh=>absurd h (by simpa using hiE)) Q6 (λw w'=>Gh cs b off w w') aO (.inr hpr) fuel aO a w (Region.free_spec hi hfr) (λ_ h=>h) (λ_ h=>.inl h) (by simpa using hrd) hc ?_ ?_
 ·exact .inl ⟨hw,λw h=>by rw[hr.eval];exact hrun w h⟩
 ·rw[hd];exact k _ (hr.put d v hn)
theorem mF{D:World->Prop}{E:List Nat}{fuel:Nat}{aO:Array Bool}(r:List Nat)(hrd:Region.ready .any ops aO=r)(hne:r.isEmpty=false)
 (k:Jh (λi =>∃o,ops[i]? = some o/\wpList P ops (Exit.then (λa w=>(i∈E->D w)/\eK P .any ops Q D E fuel (aO.setIfInBounds i true) a w) Q) [o] a w) r):eK P .any ops Q D E (fuel+1) aO a w:=by
 refine⟨(λh=>by rw[hrd]at h;rw[h]at hne;cases hne),λk' hk' => ?_⟩;rw[hrd]at hk';obtain⟨o,hi,k⟩:=Jh.mem k k' hk';unfold wpOp;simp only[hi];unfold wpList at k;have hlo:LetsOut (Exit.then (λa w=>(k'∈E->D w)/\eK P .any ops Q D E fuel (aO.setIfInBounds k' true) a w) Q)->LetsOut Q:=λ⟨a,w,h⟩=>⟨a,w,h⟩;have hmo:∀{x:Act} {y:World} {K:Act->World->Prop},o.wp P x y K (Exit.then (λa w=>(k'∈E->D w)/\eK P .any ops Q D E fuel (aO.setIfInBounds k' true) a w) Q)->o.wp P x y K Q:=by
  intro x y K h;unfold Oper.wp at *;generalize (execOp x.eval o).run P y=r at *;cases r with
  | ok z w' =>
   cases z<;>simp only[Oper.upon]at h⊢<;> first
    | exact h
    | (refine h.mono λe w'' he => ?_
       cases e with
       | returned afv=>exact he
       | panicked ch=>exact he
       | outgrown=>exact hlo he)
  | halt z w'=>cases z<;>simp only[Oper.upon]at h⊢<;> exact h
 split
 ·rename_i hw;rw[aW hw]at k;rcases k with k | k
  ·exact .inl (Oper.wp_mono (λ_ _ h=>h) (hmo k))
  ·exact .inr ⟨k.1,hlo k.2⟩
 ·rename_i hw;rw[cF hw]at k;exact k
theorem aaz{D:World->Prop}{E:List Nat}{fuel i:Nat}{aO:Array Bool}(hrd:Region.ready .any ops aO=[i])(hi:ops[i]? = some o)
 (k:wpList P ops (Exit.then (λa w=>(i∈E->D w)/\eK P .any ops Q D E fuel (aO.setIfInBounds i true) a w) Q) [o] a w):eK P .any ops Q D E (fuel+1) aO a w:=
 mF [i] hrd rfl (cX ⟨o,hi,k⟩ iE)
theorem aaA{D:World->Prop}{E:List Nat}{fuel:Nat}{aO:Array Bool}(hrd:Region.ready .any ops aO=[])(k:Q .normal a w):eK P .any ops Q D E fuel aO a w:=by
 cases fuel with
 | zero=>exact⟨hrd,k⟩
 | succ f=>exact⟨λ_=>k,λi hi=>by rw[hrd]at hi;cases hi⟩
theorem qY{c:Code}(afu:Act->World->Prop)(h:c.wp P (Exit.then afu Q) a w)(k:∀a w,afu a w->Q .normal a w):c.wp P Q a w:=
 Code.wp_mono (λe a w q=>by
  cases e with
  | normal=>exact k a w q
  | _=>exact q) h
class PI (Q:Exit->Act->World->Prop):Prop where
 pi:wK Q
instance acK {fn:Func} {afw:Ending->World->Prop}:PI (bodyPost P fn afw):=⟨KG⟩
instance acL {K:Act->World->Prop} [h:PI Q]:PI (Exit.then K Q):=⟨KH h.pi⟩
instance aaB {i:Nat} [h:PI Q]:PI (Exit.inBlock i Q):=⟨Jg h.pi⟩
def okB(ops:Array Oper)(E:List Nat)(aO:Array Bool)(i:Nat):Bool:=Region.noSelect ops&&(Region.ready .any ops aO).contains i&&Region.free .any ops aO i && !E.contains i
theorem Rv{E:List Nat}{aO:Array Bool}{i:Nat}(h:okB ops E aO i=true):Region.noSelect ops=true/\(Region.ready .any ops aO).contains i=true/\Region.free .any ops aO i=true/\E.contains i=false:=by
 unfold okB at h;simp only[lV,Bool.not_eq_true']at h;exact⟨h.1.1.1,h.1.1.2,h.1.2,h.2⟩
theorem ev{D:World->Prop}{E:List Nat}{aO:Array Bool}[hp:PI Q](fuel i:Nat)(hi:ops[i]? = some o)(hB:okB ops E aO i=true)(hw:tN o ops a)(hr:cS Df n (lk l j) a)(v:Value)
 (hrun:∀w,(execOp (eO (lk l j)) o).run P w= .ok (.value v) w) (k:∀a,cS Df n (lk ((d,v)::l) j) a->eK P .any ops Q D E fuel (aO.setIfInBounds i true) a w) (hd:o.dst=some d:=by rfl) (hn:Nat.blt d n=true:=by rfl) :
 eK P .any ops Q D E (fuel+1) aO a w:=
 have hb:=Rv hB
 e_val hp.pi hi hb.1 hb.2.1 hb.2.2.1 hb.2.2.2 hw hd hn hr hrun k
theorem eo{D:World->Prop}{E:List Nat}{aO:Array Bool}[hp:PI Q](fuel i:Nat)(hi:ops[i]? = some o)(hB:okB ops E aO i=true)(hw:Region.wanted o (yielded ops a.tmps)=false)(hr:cS Df n (lk l j) a)
 (k:∀a,cS Df n (lk ((d,undef)::l) j) a->eK P .any ops Q D E fuel (aO.setIfInBounds i true) a w) (hd:o.dst=some d:=by rfl) (hn:Nat.blt d n=true:=by rfl) :
 eK P .any ops Q D E (fuel+1) aO a w:=
 have hb:=Rv hB
 e_off hp.pi hi hb.1 hb.2.1 hb.2.2.1 hb.2.2.2 hw hd hn hr k
def okP(ops:Array Oper)(E:List Nat)(aO:Array Bool)(i:Nat):Bool:=Region.noSelect ops&&(Region.ready .any ops aO).contains i&&Region.free .any ops aO i&&Ck .any ops E aO i
theorem Wk{E:List Nat}{aO:Array Bool}{i:Nat}(h:okP ops E aO i=true):Region.noSelect ops=true/\(Region.ready .any ops aO).contains i=true/\Region.free .any ops aO i=true/\Ck .any ops E aO i=true:=by
 unfold okP at h;simp only[lV]at h;exact⟨h.1.1.1,h.1.1.2,h.1.2,h.2⟩
theorem evD{D:World->Prop}{E:List Nat}{aO:Array Bool}[hp:PI Q](hgo:∀w w',oV w w'->D w->D w')(hDw:D w)(fuel i:Nat)(hi:ops[i]? = some o)(hB:okP ops E aO i=true)(hw:tN o ops a)(hr:cS Df n (lk l j) a)(v:Value)
 (hrun:∀w,(execOp (eO (lk l j)) o).run P w= .ok (.value v) w) (k:∀a,cS Df n (lk ((d,v)::l) j) a->eK P .any ops Q D E fuel (aO.setIfInBounds i true) a w) (hd:o.dst=some d:=by rfl) (hn:Nat.blt d n=true:=by rfl) :
 eK P .any ops Q D E (fuel+1) aO a w:=by
 have hb:=Wk hB;refine tV (D:=D) (D':=D) (E:=E) (E':=E) (v:=v) hi hp.pi (Ks hb.1) (λ_ _ h=>h) (λk hk=>⟨hk,λ_ h=>h⟩) hgo aO (.inr hb.2.2.2) fuel aO a w (Region.free_spec hi hb.2.2.1) (λ_ h=>h) (λ_ h=>.inl h) (by simpa using hb.2.1) hDw ?_ ?_
 ·exact .inl ⟨hw,λw _=>by rw[hr.eval];exact hrun w⟩
 ·rw[hd];exact k _ (hr.put d v hn)
theorem eoD{D:World->Prop}{E:List Nat}{aO:Array Bool}[hp:PI Q](hgo:∀w w',oV w w'->D w->D w')(hDw:D w)(fuel i:Nat)(hi:ops[i]? = some o)(hB:okP ops E aO i=true)(hw:Region.wanted o (yielded ops a.tmps)=false)(hr:cS Df n (lk l j) a)
 (k:∀a,cS Df n (lk ((d,undef)::l) j) a->eK P .any ops Q D E fuel (aO.setIfInBounds i true) a w) (hd:o.dst=some d:=by rfl) (hn:Nat.blt d n=true:=by rfl) :
 eK P .any ops Q D E (fuel+1) aO a w:=by
 have hb:=Wk hB;refine tV (D:=D) (D':=D) (E:=E) (E':=E) (v:=undef) hi hp.pi (Ks hb.1) (λ_ _ h=>h) (λk hk=>⟨hk,λ_ h=>h⟩) hgo aO (.inr hb.2.2.2) fuel aO a w (Region.free_spec hi hb.2.2.1) (λ_ h=>h) (λ_ h=>.inl h) (by simpa using hb.2.1) hDw ?_ ?_
 ·exact .inr ⟨hw,rfl⟩
 ·rw[hd];exact k _ (hr.put d undef hn)
theorem el{D:World->Prop}{E:List Nat}{aO:Array Bool}(E':List Nat){b off:Nat}{cs:List Value}[hp:PI Q](Q6:∀k∈E',k∈E/\∀w,D w->qK w b off cs)(fuel i:Nat)(hi:ops[i]? = some o)(hB:(okB ops E aO i&&Ck .any ops E' aO i)=true)(hw:tN o ops a)(hr:cS Df n (lk l j) a)(v:Value)
 (hc:qK w b off cs) (hrun:∀w,qK w b off cs->(execOp (eO (lk l j)) o).run P w= .ok (.value v) w)
 (k:∀a,cS Df n (lk ((d,v)::l) j) a->eK P .any ops Q D E fuel (aO.setIfInBounds i true) a w) (hd:o.dst=some d:=by rfl) (hn:Nat.blt d n=true:=by rfl) :
 eK P .any ops Q D E (fuel+1) aO a w:=by
 rw[lV]at hB;have hb:=Rv hB.1;exact Xq E' hp.pi Q6 hi hb.1 hb.2.1 hb.2.2.1 hB.2 hb.2.2.2 hw hd hn hr hc hrun k
theorem ov(hr:cS Df n (lk l j) a)(v:Value)(hrun:(execOp (eO (lk l j)) o).run P w= .ok (.value v) w)(k:∀a,cS Df n (lk ((d,v)::l) j) a->wpList P ops Q rest a w)
 (hg:o.guard=none:=by rfl) (hd:o.dst=some d:=by rfl) (hn:Nat.blt d n=true:=by rfl):wpList P ops Q (o::rest) a w:=zd (wn hg) hd hn hr hrun k
def KM(P:Program):List Oper->List Value->List (Nat×Value)->(Nat->Value)->World->List (Option Nat×Option (Nat×Bool)×Result Next)
 | o::os,v::vs,l,j,w=>(o.dst,o.guard,(execOp (eO (lk l j)) o).run P w)::KM P os vs ((o.dst.getD 0,v)::l) j w
 | _,_,_,_,_=>[]
def KN:List Nat->List Value->World->List (Option Nat×Option (Nat×Bool)×Result Next)
 | d::ds,v::vs,w=>(some d,none,.ok (.value v) w)::KN ds vs w
 | _,_,_=>[]
def Rw:List Nat->List Value->List (Nat×Value)->List (Nat×Value)
 | d::ds,v::vs,l=>Rw ds vs ((d,v)::l)
 | _,_,l=>l
theorem ovs:∀(ds:List Nat) (vs:List Value) {os:List Oper} {a:Act} {l:List (Nat×Value)} (hr:cS Df n (lk l j) a) (hl:ds.length=vs.length/\ds.all (λd=>Nat.blt d n)=true) (hrun:KM P (os.take ds.length) vs l j w=KN ds vs w)
 (k:∀a,cS Df n (lk (Rw ds vs l) j) a->wpList P ops Q (os.drop ds.length) a w),wpList P ops Q os a w
 | [],[],os,a,l,hr,_,_,k=>k a hr
 | d::ds,v::vs,[],a,l,hr,hl,hrun,k=>by simp[KM,KN]at hrun
 | d::ds,v::vs,o::os,a,l,hr,hl,hrun,k=>by
  simp only[Ad,oJ,KM,KN,List.cons.injEq,Prod.mk.injEq]at hrun;obtain⟨⟨h1,h2,h3⟩,h4⟩:=hrun;obtain⟨Hl,E4⟩:=hl;simp only[List.all_cons,lV]at E4;refine zd (wn h2) h1 E4.1 hr h3 λa hr => ?_;rw[h1]at h4;exact ovs ds vs hr ⟨by simpa using Hl,E4.2⟩ h4 k
theorem _root_.Go.Proofs.YtaiffafelihaaaaGreatDoor.GX.cS.aaC{e:Nat->Value}(h:cS Df n e a)(l:List (Nat×Value))(hl:l.map (λp=>e p.1)=l.map (·.2)) :∃j,cS Df n (lk l j) a:=by
 refine h.fold l ?_
 induction l with
 | nil=>trivial
 | cons p l ih=>simp only[zT,List.cons.injEq]at hl;exact⟨hl.1,ih hl.2⟩
theorem dX{c:Operand}{x y:Code}{e:Nat->Value}(hr:cS Df n e a){b:Bool}(hb:b=true)(h:x.wp P Q a w)(hc:eO e c= .bool b:=by kernel_rfl):(Code.cond c x y).wp P Q a w:=F7 hr hc hb h
theorem iT{c:Operand}{x y:Code}{e:Nat->Value}(hr:cS Df n e a){b:Bool}(hb:b=false)(h:y.wp P Q a w)(hc:eO e c= .bool b:=by kernel_rfl):(Code.cond c x y).wp P Q a w:=F8 hr hc hb h
end
end GX
end
section
namespace SL
open Go Go.RowKit
structure mI(sz:Nat) where
 cs:List Value
 len:cs.length=sz
 one:∀afv∈cs,afv.oneCell'=true
theorem FE{sz:Nat}(h:0<sz):sH (mI.cs (sz:=sz)) sz:=⟨λx=>x.len,λx=>x.one,h⟩
def sA{α:Type}(e:TypeId)(sz:Nat)(own:α->List Value->bj)(v:Value)(l:List α):bj:=
 exs λcss:List (mI sz)=>aC (PF (css.length=l.length)::rowOf e sz mI.cs v css::List.zipWith (λx c=>own x c.cs) l css)
def AL{α:Type}(e:TypeId)(sz:Nat)(own:α->List Value->bj)(v:Value)(l:List α)(i:Nat)(cs:List Value):bj:=
 exs λcss:List (mI sz)=>aC (PF (css.length=l.length/\(css[i]?).map mI.cs=some cs)::rowOf e sz mI.cs v css::(List.zipWith (λx c=>own x c.cs) l css).eraseIdx i)
section
variable {w0 w:World}{L:List bj}{α:Type}{e:TypeId}{sz n cc i:Nat}{own:α->List Value->bj}{v:Value}{l:List α}{ca:fR}{cs:List Value}{x y:α}
theorem Fit.Bz(h:Fit w0 (aC (sA e sz own v l::L)) w) :∃css:List (mI sz),css.length=l.length/\Fit w0 (aC (rowOf e sz mI.cs v css::(List.zipWith (λx c=>own x c.cs) l css++L))) w:=by
 obtain⟨css,h⟩:=h.nj;have h:=h.sx;obtain⟨hl,h⟩:=h.yx;exact⟨css,hl,h⟩
theorem Fit.BA{css:List (mI sz)}(hl:css.length=l.length)(h:Fit w0 (aC (rowOf e sz mI.cs v css::(List.zipWith (λx c=>own x c.cs) l css++L))) w):Fit w0 (aC (sA e sz own v l::L)) w:=by
 refine Fit.jK css ?_;refine Fit.rL (PF (css.length=l.length)::rowOf e sz mI.cs v css::List.zipWith (λx c=>own x c.cs) l css) L ?_;exact h.wG hl
theorem Fit.BB(h:Fit w0 (aC (AL e sz own v l i cs::L)) w) :∃css:List (mI sz),css.length=l.length/\(css[i]?).map mI.cs=some cs/\Fit w0 (aC (rowOf e sz mI.cs v css::((List.zipWith (λx c=>own x c.cs) l css).eraseIdx i++L))) w:=by
 obtain⟨css,h⟩:=h.nj;have h:=h.sx;obtain⟨hl,h⟩:=h.yx;exact⟨css,hl.1,hl.2,h⟩
theorem Fit.Oi{css:List (mI sz)}(hl:css.length=l.length)(hi:(css[i]?).map mI.cs=some cs)(h:Fit w0 (aC (rowOf e sz mI.cs v css::((List.zipWith (λx c=>own x c.cs) l css).eraseIdx i++L))) w):Fit w0 (aC (AL e sz own v l i cs::L)) w:=by
 refine Fit.jK css ?_;refine Fit.rL (PF (css.length=l.length/\(css[i]?).map mI.cs=some cs)::rowOf e sz mI.cs v css::(List.zipWith (λx c=>own x c.cs) l css).eraseIdx i) L ?_;exact h.wG ⟨hl,hi⟩
theorem Fit.C2(h:Fit w0 (aC L) w):Fit w0 (aC (sA e sz own (.slice none 0 0) ([]:List α)::L)) w:=
 Fit.BA (css:=[]) rfl (Fit.fX h)
theorem Fit.MS(h:Fit w0 (aC (sA e sz own (.slice ca n cc) l::L)) w):n=l.length:=by
 obtain⟨css,hl,h⟩:=h.Bz;rw[<-hl];exact h.p6
theorem Fit.Xr(h:Fit w0 (aC (AL e sz own (.slice ca n cc) l i cs::L)) w):n=l.length:=by
 obtain⟨css,hl,_,h⟩:=h.BB;rw[<-hl];exact h.p6
theorem Fit.mu(h:Fit w0 (aC (sA e sz own v l::L)) w)(hi:l[i]? = some x) :∃cs,Fit w0 (aC (AL e sz own v l i cs::own x cs::L)) w:=by
 obtain⟨css,hl,h⟩:=h.Bz;have E3:i<css.length:=by rw[hl];exact(List.getElem?_eq_some_iff.1 hi).1
 have hc:css[i]? = some css[i]:=List.getElem?_eq_getElem E3;refine⟨css[i].cs,Fit.Oi hl (by rw[hc];rfl) ?_⟩;have hz:(List.zipWith (λx c=>own x c.cs) l css)[i]? = some (own x css[i].cs):=by
  rw[List.getElem?_zipWith,hi,hc]
 have h2:Fit w0 (aC (List.zipWith (λx c=>own x c.cs) l css++(rowOf e sz mI.cs v css::L))) w:=h.perm (by
  refine(wF (l₁:=List.zipWith (λx c=>own x c.cs) l css) (a:=rowOf e sz mI.cs v css) (l₂:=L)).symm)
 have h3:=Fit.rL _ _ h2;have h4:Fit w0 (aC (aC (own x css[i].cs::(List.zipWith (λx c=>own x c.cs) l css).eraseIdx i)::rowOf e sz mI.cs v css::L)) w:=by
  refine h3.head λq hq => ?_;have:=D0 i (List.zipWith (λx c=>own x c.cs) l css);unfold SL.pick at this;rw[hz]at this;show aC _ q;rw[this];exact hq
 have h5:=h4.sx;refine h5.perm ?_;simp only[sQ];refine((wF (l₁:=(List.zipWith (λx c=>own x c.cs) l css).eraseIdx i) (a:=rowOf e sz mI.cs v css) (l₂:=L)).cons _).trans ?_;refine(List.Perm.swap _ _ _).trans (List.Perm.cons _ ?_);exact(wF (l₁:=(List.zipWith (λx c=>own x c.cs) l css).eraseIdx i) (a:=own x css[i].cs) (l₂:=L)).symm
theorem Fit.Rx(hi:i<l.length)(h:Fit w0 (aC (AL e sz own v l i cs::own y cs::L)) w):Fit w0 (aC (sA e sz own v (l.set i y)::L)) w:=by
 obtain⟨css,hl,hc,h⟩:=h.BB;have E3:i<css.length:=by rw[hl];exact hi
 have IE:css[i]? = some css[i]:=List.getElem?_eq_getElem E3;rw[IE]at hc;simp only[ux,Option.some.injEq]at hc;refine Fit.BA (css:=css) (by rw[hU];exact hl) ?_;have hz:(List.zipWith (λx c=>own x c.cs) (l.set i y) css)[i]? = some (own y cs):=by
  rw[List.getElem?_zipWith,List.getElem?_set_self hi,IE,<-hc]
 have he:(List.zipWith (λx c=>own x c.cs) (l.set i y) css).eraseIdx i=(List.zipWith (λx c=>own x c.cs) l css).eraseIdx i:=by
  have h1:List.zipWith (λx c=>own x c.cs) (l.set i y) css=(List.zipWith (λx c=>own x c.cs) l css).set i (own y css[i].cs):=by
   apply yu
   intro k;rw[List.getElem?_zipWith];by_cases hk:i=k
   ·subst hk;rw[List.getElem?_set_self hi,IE,List.getElem?_set_self (by rw[List.length_zipWith];omega)]
   ·rw[List.getElem?_set_ne hk,List.getElem?_set_ne hk,List.getElem?_zipWith]
  rw[h1]
  apply yu
  intro k;rw[List.getElem?_eraseIdx,List.getElem?_eraseIdx];split
  ·rw[List.getElem?_set_ne aB]
  ·rw[List.getElem?_set_ne aB]
 have h2:Fit w0 (aC ((own y cs::(List.zipWith (λx c=>own x c.cs) (l.set i y) css).eraseIdx i)++(rowOf e sz mI.cs v css::L))) w:=by
  rw[he];refine h.perm ?_;simp only[sQ];refine(List.Perm.cons _ (wF (l₁:=(List.zipWith (λx c=>own x c.cs) l css).eraseIdx i) (a:=own y cs) (l₂:=L))).trans ?_;refine(List.Perm.swap _ _ _).trans (List.Perm.cons _ ?_);exact(wF (l₁:=(List.zipWith (λx c=>own x c.cs) l css).eraseIdx i) (a:=rowOf e sz mI.cs v css) (l₂:=L)).symm
 have h3:=Fit.rL _ _ h2;have h4:Fit w0 (aC (aC (List.zipWith (λx c=>own x c.cs) (l.set i y) css)::rowOf e sz mI.cs v css::L)) w:=by
  refine h3.head λq hq => ?_;have:=D0 i (List.zipWith (λx c=>own x c.cs) (l.set i y) css);unfold SL.pick at this;rw[hz]at this;rw[<-this];exact hq
 exact h4.sx.perm (wF (l₁:=List.zipWith (λx c=>own x c.cs) (l.set i y) css) (a:=rowOf e sz mI.cs v css) (l₂:=L))
theorem Fit.oO(h:Fit w0 (aC (AL e sz own (.slice ca n cc) l i cs::L)) w)(hp:0<sz){f:Nat}{afv:Value}(hf:cs[f]? = some afv):w.cell? ⟨GX.dA ca,i*sz+f,none⟩=some afv:=by
 obtain⟨css,hl,hc,h⟩:=h.BB;cases IE:css[i]? with
 | none=>rw[IE]at hc;simp at hc
 | some c =>
  rw[IE]at hc;simp only[ux,Option.some.injEq]at hc;exact h.bE (FE hp) IE (by rw[hc];exact hf)
theorem Fit.Oj(h:Fit w0 (aC (AL e sz own v l i cs::L)) w):i<l.length:=by
 obtain⟨css,hl,hc,_⟩:=h.BB;cases IE:css[i]? with
 | none=>rw[IE]at hc;simp at hc
 | some c=>have:=(List.getElem?_eq_some_iff.1 IE).1;omega
theorem Fit.yE(h:Fit w0 (aC (AL e sz own v l i cs::own y cs::L)) w):Fit w0 (aC (sA e sz own v (l.set i y)::L)) w:=h.Rx h.Oj
theorem Fit.iv[Inhabited α](h:Fit w0 (aC (AL e sz own v l i cs::own (GX.J l i) cs::L)) w):Fit w0 (aC (sA e sz own v l::L)) w:=by
 have hi:=h.Oj;have h:=h.yE;have e1:l.set i (GX.J l i)=l:=by
  apply yu
  intro k;by_cases hk:i=k
  ·subst hk;rw[List.getElem?_set_self hi,GX.get_at hi]
  ·rw[List.getElem?_set_ne hk]
 rw[e1]at h;exact h
theorem Fit.IF(h:Fit w0 (aC (sA e sz own (.slice ca n cc) l::L)) w)(hl:0<l.length):ca=some ⟨GX.dA ca,0,none⟩:=by
 obtain⟨css,hl',h⟩:=h.Bz;exact(h.sg aB).1
theorem Fit.PS(h:Fit w0 (aC (AL e sz own (.slice ca n cc) l i cs::L)) w):ca=some ⟨GX.dA ca,0,none⟩:=by
 obtain⟨css,hl',hc,h⟩:=h.BB;have:0<css.length:=by
  cases IE:css[i]? with
  | none=>rw[IE]at hc;simp at hc
  | some c=>have:=(List.getElem?_eq_some_iff.1 IE).1;omega
 exact(h.sg this).1
theorem Fit.BC{enc:α->List Value}{b:Nat}{cs:Array Value}{T:TypeId}(hl:l.length=n)(hc:cs.toList=l.flatMap enc)(he:sH enc sz)(hm:n<=maxLen)(h:Fit w0 (aC (pts b (.cells cs T)::L)) w) :
 Fit w0 (aC (rowOf T sz enc (.slice (some ⟨b,0,none⟩) n n) l::L)) w:=by
 subst hl;refine h.head λz hz=>.inr ⟨b,l.length,cs,rfl,j9 _,hm,?_,?_,hz⟩
 ·rw[<-tQ,hc,he.flat]
 ·rw[hc];exact EL (by rw[he.flat];exact j9 _)
end
end SL
namespace GX
open Go Go.RowKit SL
section
variable {P:Program}{ops:Array Oper}{Q:Exit->Act->World->Prop}{a:Act}{w w0 w1:World}{rest:List Oper}{o:Oper}{n d t:Nat}{v:Value}{l:List (Nat×Value)}{j e:Nat->Value}{L:List bj}{H:bj}{Df:List Deferred}
variable {α:Type}{E:TypeId}{sz n0 cc:Nat}{enc:α->List Value}{xs:List α}{ca:fR}{own:α->List Value->bj}
theorem FF{w':World}{x y:Operand}{k:IntKind}{i:Int}(ho:o.op= .indexAddr t x y)(hx:eO e x= .slice ca n cc)(hy:eO e y= .int k i)
 (ht:P.underlying t=some (.slice E)) (hs:(P.info? E).map (·.size)=some sz) (hF:Fit w0 (aC (sA E sz own (.slice ca n cc) xs::L)) w) (hi:bI i xs.length):(execOp (eO e) o).run P w'= .ok (.value (.pointer (some ⟨dA ca,i.toNat*sz,none⟩))) w':=by
 have hn:=hF.MS;have h0:=hi.1;have h1:=hi.2;exact Xf (hF.IF aB) ho hx hy ht hs h0 aB
theorem vY{w':World}{x y:Operand}{k:IntKind}{i:Int}{i0:Nat}{cs:List Value}(ho:o.op= .indexAddr t x y)(hx:eO e x= .slice ca n cc)(hy:eO e y= .int k i)
 (ht:P.underlying t=some (.slice E)) (hs:(P.info? E).map (·.size)=some sz) (hF:Fit w0 (aC (AL E sz own (.slice ca n cc) xs i0 cs::L)) w) (hi:bI i xs.length):(execOp (eO e) o).run P w'= .ok (.value (.pointer (some ⟨dA ca,i.toNat*sz,none⟩))) w':=by
 have hn:=hF.Xr;have h0:=hi.1;have h1:=hi.2;exact Xf hF.PS ho hx hy ht hs h0 aB
theorem MT{x y:Operand}{k:IntKind}{i:Int}{b N:Nat}{w':World}(ho:o.op= .indexAddr t x y)(hx:eO e x= .pointer (some ⟨b,0,none⟩))(hy:eO e y= .int k i)
 (ht:P.underlying t=some (.array N E)) (hs:(P.info? E).map (·.size)=some sz) (hN:xs.length=N) (hi:bI i xs.length):(execOp (eO e) o).run P w'= .ok (.value (.pointer (some ⟨dA (some ⟨b,0,none⟩),i.toNat*sz,none⟩))) w':=by
 unfold execOp;have h0:=hi.1;have h1:=hi.2;simp only[ho,hx,hy];subst hN;cases hq:P.info? E with
 | none=>simp[hq]at hs
 | some q =>
  simp[hq]at hs;simp[Instr.indexAt,Instr.sureAddr,run_underlying ht,asIntOf,h0,h1,sizeOf,typeInfo,hq,hs,u5,dA]
theorem Cl{x y:Operand}{i f:Nat}{cs:List Value}(hw:tN o ops a)(hd:o.dst=none)(hr:cS Df n (lk l j) a)(ho:o.op= .store t x y)
 (hx:eO (lk l j) x= .pointer (some ⟨dA ca,i*sz+f,none⟩)) (hy:eO (lk l j) y=v) (hv:v.cells=#[v]) (h1:v.oneCell'=true) (hs:(P.info? t).map (·.size)=some 1) (hp:Nat.blt 0 sz=true)
 (hF:Fit w0 (aC (AL E sz own (.slice ca n0 cc) xs i cs::L)) w) (hf:f<sz)
 (k:∀w1,Fit w0 (aC (AL E sz own (.slice ca n0 cc) xs i (cs.set f v)::L)) w1->wpList P ops Q rest a w1):wpList P ops Q (o::rest) a w:=by
 obtain⟨css,hl,hc,h⟩:=hF.BB;have hp':0<sz:=oI hp;cases IE:css[i]? with
 | none=>rw[IE]at hc;simp at hc
 | some c =>
  rw[IE]at hc;simp only[ux,Option.some.injEq]at hc;have hlt:i<css.length:=(List.getElem?_eq_some_iff.1 IE).1
  let q:mI sz:=⟨c.cs.set f v,by rw[hU];exact c.len,λafv hu=>by
   rcases List.mem_or_eq_of_mem_set hu with h | h
   ·exact c.one afv h
   ·subst h;exact h1⟩
  refine oW hw hd hr ho hx hy hv h1 hs (FE hp') h (p:=c) (q:=q) IE hf rfl λw1 h=>k w1 ?_;refine Fit.Oi (css:=css.set i q) (by rw[hU];exact hl) (by rw[List.getElem?_set_self hlt,<-hc];rfl) ?_;have he:(List.zipWith (λx c=>own x c.cs) xs (css.set i q)).eraseIdx i=(List.zipWith (λx c=>own x c.cs) xs css).eraseIdx i:=by
   apply yu
   intro k;rw[List.getElem?_eraseIdx,List.getElem?_eraseIdx];split
   ·rw[List.getElem?_zipWith,List.getElem?_zipWith,List.getElem?_set_ne aB]
   ·rw[List.getElem?_zipWith,List.getElem?_zipWith,List.getElem?_set_ne aB]
  rw[he];exact h
theorem AM{bytes:Nat}{s x:Operand}{ad:Addr}{c:Nat}{y:α}{cs:List Value}(hw:tN o ops a)(hd:o.dst=some d)(hn:Nat.blt d n=true)(hr:cS Df n (lk l j) a)
 (ho:o.op= .call {callee:=.builtin .append,args:=#[s,x],argTypes:=#[t,t]}) (hs:eO (lk l j) s= .slice ca n0 cc) (hx:eO (lk l j) x= .slice (some ad) 1 c)
 (hty:P.underlying t=some (.slice E)) (qO:(P.info? E).map (λi=>(i.size,i.bytes,i.zero.map (·.cells.size)))=some (sz,bytes,some sz))
 (hsz:cs.length=sz) (hone:cs.all (·.oneCell')=true) (hp:Nat.blt 0 sz=true)
 (hF:Fit w0 (aC (sA E sz own (.slice ca n0 cc) xs::own y cs::L)) w) (hnews:∀j afv,cs[j]? = some afv->w.cell? (ad.add j)=some afv)
 (hb:(xs.length+1)*bytes<=140737488355328) (MB:Nat.blt 0 bytes=true)
 (k:∀ca cc w1 a,Fit w0 (aC (sA E sz own (.slice ca (xs++[y]).length cc) (xs++[y])::L)) w1->cS Df n (lk ((d,.slice ca (xs++[y]).length cc)::l) j) a->wpList P ops Q rest a w1):wpList P ops Q (o::rest) a w:=by
 obtain⟨css,hl,h⟩:=hF.Bz;have hp':0<sz:=oI hp
 let c0:mI sz:=⟨cs,hsz,by simpa using hone⟩
 have hlen:(css++[c0]).length=(xs++[y]).length:=by rw[jP,jP,hl];rfl
 refine kY (m:=1) (c:=c) (bytes:=bytes) hw hd hn hr ho hs hx (FE hp') (E:=E) (xs:=css) hty qO h (news:=[c0]) rfl (by simpa using hnews) (by rw[hl];exact hb) MB λca cc w1 a h IB => ?_;rw[hlen]at h IB;refine k ca cc w1 a (Fit.BA (css:=css++[c0]) hlen ?_) IB;rw[List.zipWith_append (by rw[hl])];simp only[List.zipWith_cons_cons,List.zipWith_nil_right,pS,sQ,zb];exact h
theorem zh{bytes:Nat}{s x:Operand}{va:fR}{m0 c:Nat}(hw:tN o ops a)(hd:o.dst=some d)(hn:Nat.blt d n=true)(hr:cS Df n (lk l j) a)
 (ho:o.op= .call {callee:=.builtin .append,args:=#[s,x],argTypes:=#[t,t]}) (hs:eO (lk l j) s= .slice ca n0 cc) {news:List α} (hx:eO (lk l j) x= .slice va news.length c)
 (he:sH enc sz) (hty:P.underlying t=some (.slice E)) (qO:(P.info? E).map (λi=>(i.size,i.bytes,i.zero.map (·.cells.size)))=some (sz,bytes,some sz))
 (hF:Fit w0 (aC (rowOf E sz enc (.slice ca n0 cc) xs::L)) w) (hnews:bL L sz enc va news)
 (hb:(xs.length+news.length)*bytes<=140737488355328) (MB:Nat.blt 0 bytes=true)
 (k:∀ca cc w1 a,Fit w0 (aC (rowOf E sz enc (.slice ca (xs++news).length cc) (xs++news)::L)) w1->cS Df n (lk ((d,.slice ca (xs++news).length cc)::l) j) a->wpList P ops Q rest a w1):wpList P ops Q (o::rest) a w:=by
 by_cases h0:news.length=0
 ·have Ho:news=[]:=FY h0;subst Ho;have Xs:=hF.p6;simp only[zU]at k;obtain⟨q,z,hq,h1,h2,h3,h4⟩ :∃i z,P.info? E=some i/\i.size=sz/\i.bytes=bytes/\i.zero=some z/\z.cells.size=sz:=by
   cases hi:P.info? E with
   | none=>simp[hi]at qO
   | some i =>
    simp only[hi,ux,Option.some.injEq,Prod.mk.injEq]at qO;cases hz:i.zero with
    | none=>simp[hz]at qO
    | some z=>exact⟨i,z,rfl,qO.1,qO.2.1,hz,by simpa [hz]using qO.2.2⟩
  obtain⟨a',c',e1,_,Q7⟩:=hF.FD;simp only[Value.slice.injEq]at e1;obtain⟨rfl,_,rfl⟩:=e1;refine qW (w1:=w) (v:=.slice ca xs.length cc) hw hd hn hr ?_ (λa hr=>k ca cc w a (Xs▸ hF) hr);unfold execOp;have hle:n0<=cc:=by omega
  simp only[ho,resolve,invoke,builtin,ng,sM,nh,EO,zT,AD,hs,hx];subst Xs;cases ca with
  | none=>cases va<;>simp[Builtin.append_,run_underlying hty,sizeOf,typeInfo,hq,Builtin.lenOf,Builtin.firstCells,loadCells,loadCellsFrom,Q7]
  | some ac=>cases va<;>simp[Builtin.append_,run_underlying hty,sizeOf,typeInfo,hq,Builtin.lenOf,Builtin.firstCells,loadCells,loadCellsFrom,Q7,storeCells]
 ·obtain⟨y,hy⟩ :∃y,news[0]? = some y:=⟨_,List.getElem?_eq_getElem aB⟩;have hva:=(hnews 0 y hy).1;rw[hva]at hx;refine kY (m:=news.length) (c:=c) (bytes:=bytes) hw hd hn hr ho hs hx he hty qO hF (news:=news) rfl (λi afv hu => ?_) hb MB k;have hlt:=(List.getElem?_eq_some_iff.1 hu).1;rw[he.flat]at hlt;have hp:=he.pos;have hdiv:i/sz<news.length:=(Nat.div_lt_iff_lt_mul hp).2 hlt;have hm:i%sz<sz:=Nat.mod_lt _ hp;have hyi:news[i/sz]? = some (news[i/sz]'hdiv):=List.getElem?_eq_getElem hdiv;have hg:=he.get news (i/sz) (i%sz) _ hyi hm;rw[show i/sz*sz+i%sz=i by rw[Nat.mul_comm];exact Nat.div_add_mod i sz,hu]at hg;have:=(hnews _ _ hyi).2 (i%sz) afv hg.symm w0 w hF.drop;rw[u5];rw[show kg va+i=kg va+i/sz*sz+i%sz by rw[Nat.add_assoc,Nat.mul_comm,Nat.div_add_mod]];exact this
end
end GX
end
section
namespace Ar
open Go Go.RowKit SL GX
structure Acc where
 who:Int
 kind:Int
 addr:Int
 a:Int
 b:Int
 ok:Bool
deriving Inhabited,DecidableEq
def iX(x:Int):List Value:=[.int .i64 x]
def Gi(x:Acc):List Value:=[.int .i64 x.who,.int .i64 x.kind,.int .i64 x.addr,.int .i64 x.a,.int .i64 x.b,.bool x.ok]
structure DU where
 size:Int
 cells:List Int
 log:List Acc
 sF:Int
 on:Bool
def acQ(on:Bool)(log:List Acc)(x:Acc):List Acc:=if on=true then log++[x]else log
def DU.note(S:DU)(k i x y:Int)(ok:Bool):DU:={S with log:=acQ S.on S.log ⟨S.sF,k,i,x,y,ok⟩}
def Uz(mk ad:Int):Bool:=decide (ad>=0)&&decide (ad<mk)
def DU.load(S:DU)(i:Int):(Int×Int)×DU:=
 if Uz S.cells.length i=true then((J S.cells i.toNat,0),S.note 0 i (J S.cells i.toNat) 0 true)else((0,20),S)
def DU.store(S:DU)(i v:Int):Int×DU:=
 if Uz S.cells.length i=true then(0,{S with cells:=S.cells.set i.toNat v}.note 1 i v 0 true)else(20,S)
def DU.cas(S:DU)(i x y:Int):(Bool×Int)×DU:=
 if Uz S.cells.length i=true then
  if J S.cells i.toNat=x then((true,0),{S with cells:=S.cells.set i.toNat y}.note 2 i x y true)
  else ((false,0),S.note 2 i x y false)
 else ((false,20),S)
def DU.add(S:DU)(i d:Int):(Int×Int)×DU:=
 if Uz S.cells.length i=true then
  ((IntKind.i64.wrap (J S.cells i.toNat+d),0),{S with cells:=S.cells.set i.toNat (IntKind.i64.wrap (J S.cells i.toNat+d))}.note 3 i d (IntKind.i64.wrap (J S.cells i.toNat+d)) true)
 else ((0,20),S)
def DU.reserve(S:DU)(n:Int):(Int×Int)×DU:=
 if n<1 then((0,21),S)
 else if n>S.size-S.cells.length then((0,22),S)
 else ((((S.cells.length:Nat):Int),0),{S with cells:=S.cells++List.replicate n.toNat 0}.note 4 S.cells.length n 0 true)
def DU.done(S:DU)(k i x y:Int):(Int×Bool×Int)×DU:=
 if k=0 then(((S.load i).1.1,(S.load i).1.2==0,(S.load i).1.2),(S.load i).2)
 else if k=1 then((0,(S.store i x).1==0,(S.store i x).1),(S.store i x).2)
 else if k=2 then((0,(S.cas i x y).1.1,(S.cas i x y).1.2),(S.cas i x y).2)
 else if k=3 then(((S.add i x).1.1,(S.add i x).1.2==0,(S.add i x).1.2),(S.add i x).2)
 else (((S.reserve x).1.1,(S.reserve x).1.2==0,(S.reserve x).1.2),(S.reserve x).2)
def DU.new(n:Int):DU:={size:=n,cells:=[],log:=[],sF:=0,on:=false}
def Ok(S:DU)(ca:fR)(cc:Nat)(la:fR)(lc:Nat):Obj:=
 .cells #[.int .i64 S.size,.int .i64 ((S.cells.length:Nat):Int),.slice ca S.cells.length cc,.slice la S.log.length lc,.int .i64 S.sF,.bool S.on] 78
def Cv(A:Nat)(S:DU):bj:=exs λca=>exs λcc=>exs λla=>exs λlc =>
 aC [pts A (Ok S ca cc la lc),rowOf 2 1 iX (.slice ca S.cells.length cc) S.cells,rowOf 269 6 Gi (.slice la S.log.length lc) S.log]
section
variable {z w:World}{L:List bj}{A:Nat}{S:DU}
theorem Cv.op(h:Fit z (aC (Cv A S::L)) w) :∃ca cc la lc,Fit z (aC (pts A (Ok S ca cc la lc)::rowOf 2 1 iX (.slice ca S.cells.length cc) S.cells::rowOf 269 6 Gi (.slice la S.log.length lc) S.log::L)) w:=by
 obtain⟨ca,h⟩:=h.nj;obtain⟨cc,h⟩:=h.nj;obtain⟨la,h⟩:=h.nj;obtain⟨lc,h⟩:=h.nj;exact⟨ca,cc,la,lc,h.sx⟩
theorem Cv.sh{n m:Nat}{q:Int}{ca cc la lc}(h:Fit z (aC (pts A (.cells #[.int .i64 S.size,.int .i64 q,.slice ca n cc,.slice la m lc,.int .i64 S.sF,.bool S.on] 78)::rowOf 2 1 iX (.slice ca n cc) S.cells::rowOf 269 6 Gi (.slice la m lc) S.log::L)) w)
 (hq:q=((n:Nat):Int)) (hn:n=S.cells.length) (hm:m=S.log.length):Fit z (aC (Cv A S::L)) w:=by
 subst hq;subst hn;subst hm;exact Fit.jK ca (Fit.jK cc (Fit.jK la (Fit.jK lc (Fit.rL [_,_,_] L h))))
theorem Cv.mk{n:Int}(h:Fit z (aC (pts A (.cells #[.int .i64 n,.int .i64 0,.slice none 0 0,.slice none 0 0,.int .i64 0,.bool false] 78)::L)) w):Fit z (aC (Cv A (DU.new n)::L)) w:=by
 have h1:Fit z (aC (rowOf 269 6 Gi (.slice none 0 0) ([]:List Acc)::pts A _::L)) w:=h.fX;have h2:Fit z (aC (rowOf 2 1 iX (.slice none 0 0) ([]:List Int)::rowOf 269 6 Gi (.slice none 0 0) ([]:List Acc)::pts A _::L)) w:=h1.fX;exact Cv.sh (S:=DU.new n) (h2.pick 2) rfl rfl rfl
end
end Ar
end
section
namespace RK
open Go Go.RowKit Go.ChangeShapes Go.WideShapes Go.Deep SL GX Ar
section
variable {H:Type}{enc:TypeId×Value->H}{P:Program}{w W:World}{base:Nat}{spare:Nat->Bool}{held:Bool}{r:Reach}{b0:Nat}{t e:TypeId}{v:Value}{d:DataW H}{ps:List MemPlace}
theorem Cm(hl:laidOutB P=true){W':World}(hb:Below W.heap.size W W'):∀{ts:List TypeId} {vs:List Value} {ds:List (DataW H)} {ps:List MemPlace},
 ts.all (λt=>P.readableRec t&&decide (t<P.types.size))=true->DataW.TrodAll enc P W 0 (λ_=>true) true ts vs ds ps->DataW.TrodAll enc P W' 0 (λb=>decide (b<W.heap.size)) true ts vs ds ps
 | [],[],[],_,_,h=>h
 | t::ts,v::vs,d::ds,_,hts,⟨p,q,h1,h2,e⟩=>by
  simp only[List.all_cons,lV,AE]at hts;refine⟨p,q,Below.trod hl hts.1.1 hts.1.2 h1 hb ?_,Cm hl hb hts.2 h2,e⟩;obtain⟨n,hn⟩:=h1;exact DataW.trod_lt n _ _ _ hn
theorem wf_i64{x:Int}(h:(Lit.int .i64 x).wf=true):-9223372036854775808<=x/\x<=9223372036854775807:=by
 simp only[Lit.wf,lV,AE]at h;exact⟨h.1,h.2⟩
end
open Go Go.RowKit Go.ChangeShapes Go.WideShapes Go.Deep SL GX
theorem KO{H:Type}(d:DataW H):1<=Rows.uptoBulk d:=by
 cases d with
 | lit l=>cases l<;>simp[Rows.uptoBulk]
 | nil=>simp[Rows.uptoBulk]
 | ptr d=>simp[Rows.uptoBulk]
 | slice elems spare=>simp[Rows.uptoBulk]
 | agg parts=>simp[Rows.uptoBulk]
 | iface t d=>simp[Rows.uptoBulk]
 | map entries=>simp[Rows.uptoBulk]
 | held h=>simp[Rows.uptoBulk]
theorem IG{H:Type}{d:DataW H}{l:List (DataW H)}(h:d∈l):Rows.uptoBulk d<=Rows.uptoBulkAll l:=by
 induction l with
 | nil=>cases h
 | cons x r ih =>
  simp only[Rows.uptoBulkAll];cases List.mem_cons.1 h with
  | inl e=>subst e;omega
  | inr e=>have:=ih e;omega
theorem Ry{H:Type}(l:List (DataW H)):l.length<=Rows.uptoBulkAll l:=by
 induction l with
 | nil=>simp
 | cons x r ih=>have:=KO x;simp only[Rows.uptoBulkAll,Ad];omega
def Gj(x:Int):Prop:=-9223372036854775808<=x/\x<=9223372036854775807
end RK
end
section
namespace GX
open Go Go.RowKit SL
abbrev Z(x:Int):Value:=.int .i64 x
abbrev R(x:Bool):Value:=.bool x
abbrev pN:Value:=.pointer none
abbrev u(b off:Nat):Value:=.pointer (some ⟨b,off,none⟩)
section
variable {P:Program}{ops:Array Oper}{Q:Exit->Act->World->Prop}{a:Act}{w w0 w1:World}{rest:List Oper}{o:Oper}{n d t T:Nat}{v afv:Value}{l:List (Nat×Value)}{j e:Nat->Value}{L:List bj}{Df:List Deferred}
theorem aX{i:Nat}{b x c r:Bool}(hr:cS Df n e a)(pf:x=c)(hg:o.guard=some (i,b):=by rfl)(hi:(ops[i]?).bind (·.dst)=some t:=by rfl)(ht:Nat.blt t n=true:=by rfl)(he:e t= .bool x:=by kernel_rfl)(hc:(c==b)=r:=by rfl) :
 Region.wanted o (yielded ops a.tmps)=r:=by
 subst pf hc;exact wg hr hg hi ht he
theorem acR(hw:Region.wanted o (yielded ops a.tmps)=false)(hr:cS Df n (lk l j) a)(k:∀a,cS Df n (lk ((d,undef)::l) j) a->wpList P ops Q rest a w)(hd:o.dst=some d:=by rfl)(hn:Nat.blt d n=true:=by rfl):wpList P ops Q (o::rest) a w:=MP hw hd hn hr k
theorem Rz(hw:tN o ops a)(hr:cS Df n (lk l j) a)(v:Value)(hrun:(execOp (eO (lk l j)) o).run P w= .ok (.value v) w)(k:∀a,cS Df n (lk ((d,v)::l) j) a->wpList P ops Q rest a w)(hd:o.dst=some d:=by rfl)(hn:Nat.blt d n=true:=by rfl):wpList P ops Q (o::rest) a w:=zd hw hd hn hr hrun k
theorem ld{x:Operand}{ad:Addr}(hw:tN o ops a)(hr:cS Df n (lk l j) a)(v:Value)(hc:w.cell? ad=some v)(k:∀a,cS Df n (lk ((d,v)::l) j) a->wpList P ops Q rest a w)
 (hd:o.dst=some d:=by rfl) (hn:Nat.blt d n=true:=by rfl) (ho:o.op= .load T x:=by rfl) (hx:eO (lk l j) x= .pointer (some ad):=by kernel_rfl) (hu:wH (P.underlying T)=true:=by kernel_rfl):wpList P ops Q (o::rest) a w:=zd hw hd hn hr (rl ho hx hu hc) k
theorem ldm{x:Operand}{b off:Nat}{cs:List Value}(hw:tN o ops a)(hr:cS Df n (lk l j) a)(v:Value)(hc:qK w b off cs)(k:∀a,cS Df n (lk ((d,v)::l) j) a->wpList P ops Q rest a w)(hv: .agg cs.toArray=v:=by rfl)
 (hd:o.dst=some d:=by rfl) (hn:Nat.blt d n=true:=by rfl) (ho:o.op= .load T x:=by rfl) (hx:eO (lk l j) x= .pointer (some ⟨b,off,none⟩):=by kernel_rfl) (hu:tS (P.underlying T)=true:=by kernel_rfl) (hs:(P.info? T).map (·.size)=some cs.length:=by kernel_rfl):wpList P ops Q (o::rest) a w:=by
 subst hv;exact zd hw hd hn hr (rlm ho hx hu hs hc) k
theorem _root_.Go.Proofs.YtaiffafelihaaaaGreatDoor.SL.Fit.held{z:World}{b:Nat}{cs:Array Value}{t:TypeId}{q:Nat×Nat}(h:Fit z (aC (pts b (.cells cs t q)::L)) w)(off:Nat){xs:List Value}(hx:(cs.toList.drop off).take xs.length=xs):qK w b off xs:=by
 have hg:∀k afv,xs[k]? = some afv->w.cell? ⟨b,off+k,none⟩=some afv:=by
  intro k afv hk;refine h.cell (off+k) ?_;rw[<-hx,List.getElem?_take]at hk;split at hk
  ·rw[List.getElem?_drop]at hk;simpa using hk
  ·cases hk
 clear hx
 induction xs generalizing off with
 | nil=>trivial
 | cons x xs ih =>
  refine⟨hg 0 x rfl,ih (off+1) λk afv hk => ?_⟩;have:=hg (k+1) afv (by simpa using hk);rw[show off+1+k=off+(k+1) by omega];exact this
theorem sr{RA:Nat}{y:Code}{os:List Oper}(h:wpList P os.toArray (Exit.then (y.wp P Q) Q) os a w):(Code.seq (.region RA os.toArray false) y).wp P Q a w:=wp_seq (wp_region_lit h)
theorem evs{D:World->Prop}{E:List Nat}{aO:Array Bool}[hp:PI Q](fuel i:Nat)(hi:ops[i]? = some o)(hw:tN o ops a)(hr:cS Df n (lk l j) a)(v:Value)
 (k:∀a,cS Df n (lk ((d,v)::l) j) a->eK P .any ops Q D E fuel (aO.setIfInBounds i true) a w) (hB:okB ops E aO i=true:=by kernel_rfl)
 (hrun:∀w,(execOp (eO (lk l j)) o).run P w= .ok (.value v) w:=by intro w;kernel_rfl) (hd:o.dst=some d:=by rfl) (hn:Nat.blt d n=true:=by rfl) :
 eK P .any ops Q D E (fuel+1) aO a w:=ev fuel i hi hB hw hr v hrun k hd hn
theorem Wl{D:World->Prop}{E:List Nat}{aO:Array Bool}[hp:PI Q](fuel i:Nat)(hi:ops[i]? = some o)(hw:Region.wanted o (yielded ops a.tmps)=false)(hr:cS Df n (lk l j) a)
 (k:∀a,cS Df n (lk ((d,undef)::l) j) a->eK P .any ops Q D E fuel (aO.setIfInBounds i true) a w) (hB:okB ops E aO i=true:=by kernel_rfl) (hd:o.dst=some d:=by rfl) (hn:Nat.blt d n=true:=by rfl) :
 eK P .any ops Q D E (fuel+1) aO a w:=eo fuel i hi hB hw hr k hd hn
abbrev nb(b:Nat):Value:=u b 0
theorem o1(hr:cS Df n (lk l j) a)(v:Value)(k:∀a,cS Df n (lk ((d,v)::l) j) a->wpList P ops Q rest a w)(hrun:(execOp (eO (lk l j)) o).run P w= .ok (.value v) w:=by kernel_rfl)(hg:o.guard=none:=by rfl)(hd:o.dst=some d:=by rfl)(hn:Nat.blt d n=true:=by rfl):wpList P ops Q (o::rest) a w:=ov hr v hrun k hg hd hn
theorem oo(ds:List Nat)(vs:List Value){os:List Oper}(hr:cS Df n (lk l j) a)(k:∀a,cS Df n (lk (Rw ds vs l) j) a->wpList P ops Q (os.drop ds.length) a w)(hl:ds.length=vs.length/\ds.all (λd=>Nat.blt d n)=true:=by exact⟨rfl,rfl⟩)(hrun:KM P (os.take ds.length) vs l j w=KN ds vs w:=by kernel_rfl):wpList P ops Q os a w:=ovs ds vs hr hl hrun k
theorem cl{f:FuncId}{args:Array Value}{afw:Ending->World->Prop}(hw:tN o ops a)(hr:cS Df n (lk l j) a)(hc:Calls P f args w afw)
 (k:∀e w1,afw e w1->∃v,e= .returned v/\∀a,cS Df n (lk ((d,v)::l) j) a->wpList P ops Q rest a w1) (hrun:(execOp (eO (lk l j)) o).run P w= .ok (.enter f args) w:=by kernel_rfl) (hd:o.dst=some d:=by rfl) (hn:Nat.blt d n=true:=by rfl):wpList P ops Q (o::rest) a w:=s7 hw hd hn hr hrun hc k
theorem Xt(hw:tN o ops a)(hr:cS Df n (lk l j) a)(hF:Fit w0 (aC L) w)(vf:Nat->Value)(cs:Array Value)(T:TypeId)
 (k:∀b w1 a,Fit w0 (aC (pts b (.cells cs T)::L)) w1->cS Df n (lk ((d,vf b)::l) j) a->wpList P ops Q rest a w1) (hrun:(execOp (eO (lk l j)) o).run P w= .ok (.value (vf w.heap.size)) (w.alloc (.cells cs T)):=by kernel_rfl) (hd:o.dst=some d:=by rfl) (hn:Nat.blt d n=true:=by rfl):wpList P ops Q (o::rest) a w:=MQ hw hd hn hr hF hrun k
theorem BM{α:Type}{E:TypeId}{sz n0 cc:Nat}{enc:α->List Value}{xs:List α}{ca:fR}{x y:Operand}(hw:tN o ops a)(hr:cS Df n (lk l j) a)(he:sH enc sz)(hF:Fit w0 (aC (rowOf E sz enc (.slice ca n0 cc) xs::L)) w)(i f:Nat)(v:Value)(p q:α)(hp:xs[i]? = some p)
 (k:∀w1,Fit w0 (aC (rowOf E sz enc (.slice ca n0 cc) (xs.set i q)::L)) w1->wpList P ops Q rest a w1) (hd:o.dst=none:=by rfl) (ho:o.op= .store T x y:=by rfl) (hx:eO (lk l j) x= .pointer (some ⟨dA ca,i*sz+f,none⟩):=by kernel_rfl) (hy:eO (lk l j) y=v:=by kernel_rfl)
 (hv:v.cells=#[v]:=by rfl) (h1:v.oneCell'=true:=by rfl) (hs:(P.info? T).map (·.size)=some 1:=by kernel_rfl) (hf:f<sz:=by decide) (hq:enc q=(enc p).set f v:=by rfl):wpList P ops Q (o::rest) a w:=oW hw hd hr ho hx hy hv h1 hs he hF hp hf hq k
theorem ln{K:Act->World->Prop}(h:K a w):wpList P ops (Exit.then K Q) [] a w:=wpList_nil (KA h)
end
end GX
end
section
namespace SL
open Go Go.RowKit
section
variable {z w:World}{L L':List bj}
theorem Fit.m1{A0 A1:bj}(h:Fit z (aC (A0::A1::L)) w):Fit z (aC (A1::A0::L)) w:=h.pick 1
theorem Fit.m2{A0 A1 A2:bj}(h:Fit z (aC (A0::A1::A2::L)) w):Fit z (aC (A2::A0::A1::L)) w:=h.pick 2
theorem Fit.m3{A0 A1 A2 A3:bj}(h:Fit z (aC (A0::A1::A2::A3::L)) w):Fit z (aC (A3::A0::A1::A2::L)) w:=h.pick 3
theorem Fit.m4{A0 A1 A2 A3 A4:bj}(h:Fit z (aC (A0::A1::A2::A3::A4::L)) w):Fit z (aC (A4::A0::A1::A2::A3::L)) w:=h.pick 4
theorem Fit.m5{A0 A1 A2 A3 A4 A5:bj}(h:Fit z (aC (A0::A1::A2::A3::A4::A5::L)) w):Fit z (aC (A5::A0::A1::A2::A3::A4::L)) w:=h.pick 5
theorem Fit.m6{A0 A1 A2 A3 A4 A5 A6:bj}(h:Fit z (aC (A0::A1::A2::A3::A4::A5::A6::L)) w):Fit z (aC (A6::A0::A1::A2::A3::A4::A5::L)) w:=h.pick 6
theorem Fit.m7{A0 A1 A2 A3 A4 A5 A6 A7:bj}(h:Fit z (aC (A0::A1::A2::A3::A4::A5::A6::A7::L)) w):Fit z (aC (A7::A0::A1::A2::A3::A4::A5::A6::L)) w:=h.pick 7
theorem Fit.m8{A0 A1 A2 A3 A4 A5 A6 A7 A8:bj}(h:Fit z (aC (A0::A1::A2::A3::A4::A5::A6::A7::A8::L)) w):Fit z (aC (A8::A0::A1::A2::A3::A4::A5::A6::A7::L)) w:=h.pick 8
theorem Fit.m9{A0 A1 A2 A3 A4 A5 A6 A7 A8 A9:bj}(h:Fit z (aC (A0::A1::A2::A3::A4::A5::A6::A7::A8::A9::L)) w):Fit z (aC (A9::A0::A1::A2::A3::A4::A5::A6::A7::A8::L)) w:=h.pick 9
theorem Fit.MD{A0 A1 A2 A3 A4 A5 A6 A7 A8 A9 A10:bj}(h:Fit z (aC (A0::A1::A2::A3::A4::A5::A6::A7::A8::A9::A10::L)) w):Fit z (aC (A10::A0::A1::A2::A3::A4::A5::A6::A7::A8::A9::L)) w:=h.pick 10
theorem Fit.m11{A0 A1 A2 A3 A4 A5 A6 A7 A8 A9 A10 A11:bj}(h:Fit z (aC (A0::A1::A2::A3::A4::A5::A6::A7::A8::A9::A10::A11::L)) w):Fit z (aC (A11::A0::A1::A2::A3::A4::A5::A6::A7::A8::A9::A10::L)) w:=h.pick 11
theorem Fit.Gk{n m:Nat}(e:n=m)(F:Nat->bj)(h:Fit z (aC (F n::L)) w):Fit z (aC (F m::L)) w:=e▸ h
theorem Fit.Om{α:Type}{e sz cc n:Nat}{enc:α->List Value}{ca:fR}{l:List α}{P:bj}(h:Fit z (aC (rowOf e sz enc (.slice ca n cc) l::P::L)) w)(f:Nat->bj)(hp:P=f n:=by rfl):Fit z (aC (rowOf e sz enc (.slice ca l.length cc) l::f l.length::L)) w:=by
 have hn:=h.p6;subst hn;exact hp▸ h
theorem Fit.se(h:Fit z (aC L) w)(n:Nat)(is:List Nat)(hB:GX.aax n is=true:=by kernel_rfl)(e:is.map (λi=>L.getD i MA)++L.drop n=L':=by kernel_rfl):Fit z (aC L') w:=h.Zq n is hB e
end
end SL
namespace GX
open Go Go.RowKit SL
section
variable {P:Program}{ops:Array Oper}{Q:Exit->Act->World->Prop}{a:Act}{w w0 w1:World}{rest os:List Oper}{o:Oper}{n d t T:Nat}{v afv:Value}{l:List (Nat×Value)}{j e:Nat->Value}{L:List bj}{Df:List Deferred}
theorem cS.fj{X:Prop}(h:cS Df n e a)(hX:X)(hl:l.map (λp=>e p.1)=l.map (·.2):=by kernel_rfl) :∃j,cS Df n (lk l j) a/\X:=let ⟨j,h⟩:=h.aaC l hl;⟨j,h,hX⟩
theorem cS.re(h:cS Df n (lk l j) a)(t:Nat){v v':Value}(e:v=v')(hv:lk l j t=v:=by kernel_rfl):cS Df n (lk ((t,v')::l) j) a:=by
 obtain⟨h1,h2,h3⟩:=h;refine⟨h1,λq => ?_,h3⟩;rw[h2 q];show lk l j q=bif Nat.beq q t then v' else lk l j q;cases hb:Nat.beq q t with
 | false=>rfl
 | true=>have:=N8 hb;subst this;rw[hv,e];rfl
def HL:List (Nat×Nat×List Value)->World->Prop
 | [],_=>True
 | p::r,w=>qK w p.1 p.2.1 p.2.2/\HL r w
theorem RB:∀D w w',oV w w'->HL D w->HL D w'
 | [],_,_,_,_=>trivial
 | p::r,w,w',g,h=>⟨Gh _ _ _ _ _ g h.1,RB r w w' g h.2⟩
theorem Gl:∀{D:List (Nat×Nat×List Value)} {k:Nat} {p:Nat×Nat×List Value},D[k]? = some p->HL D w->qK w p.1 p.2.1 p.2.2
 | [],k,p,e,_=>by simp at e
 | q::r,0,p,e,h=>by simp at e;subst e;exact h.1
 | q::r,k+1,p,e,h=>Gl (D:=r) (k:=k) (by simpa using e) h.2
variable {D:List (Nat×Nat×List Value)}{E:List Nat}{aO:Array Bool}{N:Nat}
theorem vZ{id:Nat}{lo:List Oper}{H:bj}(D:List (Nat×Nat×List Value))(E:List Nat)(N:Nat)(hF:Fit w0 H w)(hd:∀{w},Fit w0 H w->HL D w)
 (k:∀w,Fit w0 H w->HL D w->eK P .any lo.toArray Q (HL D) E N (Array.replicate N false) a w) (hm:P.follows .mixedOrders=true:=by kernel_rfl) (hN:lo.toArray.size=N:=by rfl) :
 (Code.region id lo.toArray true).wp P Q a w:=by
 subst hN;exact aay (HL D) E hF hm λw h=>k w h (hd h)
def Wm(ops:Array Oper)(E:List Nat)(aO:Array Bool)(i:Nat):Bool:=okB ops E aO i||okP ops E aO i
theorem e1[hp:PI Q](hd:HL D w)(fuel i:Nat)(hi:ops[i]? = some o)(hB:Wm ops E aO i=true)(hw:tN o ops a)(hr:cS Df n (lk l j) a)(v:Value)
 (hrun:∀w,(execOp (eO (lk l j)) o).run P w= .ok (.value v) w) (k:∀a,cS Df n (lk ((d,v)::l) j) a->eK P .any ops Q (HL D) E fuel (aO.setIfInBounds i true) a w) (h1:o.dst=some d) (hn:Nat.blt d n=true) :
 eK P .any ops Q (HL D) E (fuel+1) aO a w:=by
 unfold Wm at hB;rw[yw]at hB;rcases hB with hB | hB
 ·exact ev fuel i hi hB hw hr v hrun k h1 hn
 ·exact evD (RB D) hd fuel i hi hB hw hr v hrun k h1 hn
theorem e0[hp:PI Q](hd:HL D w)(fuel i:Nat)(hi:ops[i]? = some o)(hB:Wm ops E aO i=true)(hw:Region.wanted o (yielded ops a.tmps)=false)(hr:cS Df n (lk l j) a)
 (k:∀a,cS Df n (lk ((d,undef)::l) j) a->eK P .any ops Q (HL D) E fuel (aO.setIfInBounds i true) a w) (h1:o.dst=some d) (hn:Nat.blt d n=true) :
 eK P .any ops Q (HL D) E (fuel+1) aO a w:=by
 unfold Wm at hB;rw[yw]at hB;rcases hB with hB | hB
 ·exact eo fuel i hi hB hw hr k h1 hn
 ·exact eoD (RB D) hd fuel i hi hB hw hr k h1 hn
theorem eof[hp:PI Q](hd:HL D w)(f i:Nat)(hi:ops[i]? = some o)(hw:Region.wanted o (yielded ops a.tmps)=false)(hr:cS Df n (lk l j) a)
 (k:∀a,cS Df n (lk ((d,undef)::l) j) a->eK P .any ops Q (HL D) E f (aO.setIfInBounds i true) a w) (hB:Wm ops E aO i=true:=by kernel_rfl) (h1:o.dst=some d:=by rfl) (hn:Nat.blt d n=true:=by rfl) :
 eK P .any ops Q (HL D) E (f+1) aO a w:=e0 hd f i hi hB hw hr k h1 hn
theorem fV[hp:PI Q](hd:HL D w)(f i:Nat)(hi:ops[i]? = some o)(hw:tN o ops a)(hr:cS Df n (lk l j) a)(v:Value)
 (k:∀a,cS Df n (lk ((d,v)::l) j) a->eK P .any ops Q (HL D) E f (aO.setIfInBounds i true) a w) (hB:Wm ops E aO i=true:=by kernel_rfl) (hrun:∀w,(execOp (eO (lk l j)) o).run P w= .ok (.value v) w:=by intro w;kernel_rfl) (h1:o.dst=some d:=by rfl) (hn:Nat.blt d n=true:=by rfl) :
 eK P .any ops Q (HL D) E (f+1) aO a w:=e1 hd f i hi hB hw hr v hrun k h1 hn
def RC:List (Nat×Nat×Value)->Array Bool->Array Bool
 | [],s=>s
 | p::r,s=>RC r (s.setIfInBounds p.1 true)
def RD:List (Nat×Nat×Value)->List (Nat×Value)->List (Nat×Value)
 | [],l=>l
 | p::r,l=>RD r ((p.2.1,p.2.2)::l)
def Jk(P:Program)(ops:Array Oper):List (Nat×Nat×Value)->List (Nat×Value)->(Nat->Value)->World->List (Option (Option Nat×Option (Nat×Bool))×Result Next)
 | [],_,_,_=>[]
 | p::r,l,j,w=>((ops[p.1]?).map λo=>(o.dst,o.guard),(match ops[p.1]? with | some o=>(execOp (eO (lk l j)) o).run P w | none=>.ok .skip w))::Jk P ops r ((p.2.1,p.2.2)::l) j w
def C3:List (Nat×Nat×Value)->World->List (Option (Option Nat×Option (Nat×Bool))×Result Next)
 | [],_=>[]
 | p::r,w=>(some (some p.2.1,none),.ok (.value p.2.2) w)::C3 r w
def Zr(ops:Array Oper)(E:List Nat)(n:Nat):List (Nat×Nat×Value)->Array Bool->Bool
 | [],_=>true
 | p::r,s=>Wm ops E s p.1&&Nat.blt p.2.1 n&&Zr ops E n r (s.setIfInBounds p.1 true)
theorem evl[hp:PI Q](hd:HL D w)(f:Nat):∀(is:List (Nat×Nat×Value)) {aO:Array Bool} {a:Act} {l:List (Nat×Value)} (hr:cS Df n (lk l j) a)
 (k:∀a,cS Df n (lk (RD is l) j) a->eK P .any ops Q (HL D) E f (RC is aO) a w) (hB:Zr ops E n is aO=true:=by kernel_rfl) (hrun:∀w,Jk P ops is l j w=C3 is w:=by intro w;kernel_rfl),
 eK P .any ops Q (HL D) E (f+is.length) aO a w
 | [],aO,a,l,hr,k,_,_=>k a hr
 | p::is,aO,a,l,hr,k,hB,hrun=>by
  simp only[Zr,lV]at hB;obtain⟨⟨h1,h2⟩,h3⟩:=hB;have aaD:∀w,Jk P ops is ((p.2.1,p.2.2)::l) j w=C3 is w:=λw=>by have:=hrun w;simp only[Jk,C3,List.cons.injEq]at this;exact this.2
  cases ho:ops[p.1]? with
  | none=>have:=hrun w;simp only[Jk,C3,ho,List.cons.injEq]at this;simp at this
  | some o =>
   have h4:∀w,(o.dst=some p.2.1/\o.guard=none)/\(execOp (eO (lk l j)) o).run P w= .ok (.value p.2.2) w:=λw=>by
    have:=hrun w;simp only[Jk,C3,ho,List.cons.injEq,ux,Prod.mk.injEq,Option.some.injEq]at this;exact this.1
   have h5:=(h4 w).1;exact e1 hd (f+is.length) p.1 ho h1 (wn h5.2) hr p.2.2 (λw=>(h4 w).2) (λa hr=>evl hd f is hr k h3 aaD) h5.1 h2
theorem acS[hp:PI Q](hd:HL D w)(f:Nat)(is:List (Nat×Nat×Value))(hr:cS Df n (lk l j) a)(k:∀a,cS Df n (lk (RD is l) j) a->eK P .any ops Q (HL D) E f (RC is aO) a w)
 (hN:f+is.length=N:=by rfl) (hB:Zr ops E n is aO=true:=by kernel_rfl) (hrun:∀w,Jk P ops is l j w=C3 is w:=by intro w;kernel_rfl):eK P .any ops Q (HL D) E N aO a w:=by
 subst hN;exact evl hd f is hr k hB hrun
theorem mT[hp:PI Q](hd:HL D w)(q f i:Nat){b off:Nat}{x:Operand}(hr:cS Df n (lk l j) a)(hw:tN o ops a)(hi:ops[i]? = some o)(hq:D[q]? = some (b,off,[v]))
 (k:∀a,cS Df n (lk ((d,v)::l) j) a->eK P .any ops Q (HL D) E f (aO.setIfInBounds i true) a w) (hB:(okB ops E aO i&&Ck .any ops E aO i)=true:=by kernel_rfl)
 (ho:o.op= .load T x:=by rfl) (hx:eO (lk l j) x= .pointer (some ⟨b,off,none⟩):=by kernel_rfl) (hu:wH (P.underlying T)=true:=by kernel_rfl) (h1:o.dst=some d:=by rfl) (hn:Nat.blt d n=true:=by rfl) :
 eK P .any ops Q (HL D) E (f+1) aO a w:=
 el E (b:=b) (off:=off) (cs:=[v]) (λ_ hk=>⟨hk,λw h=>Gl hq h⟩) f i hi hB hw hr v (Gl hq hd) (λw hc=>rl ho hx hu hc.1) k h1 hn
theorem elm[hp:PI Q](hd:HL D w)(q f i:Nat){b off:Nat}{cs:List Value}{x:Operand}(hr:cS Df n (lk l j) a)(hw:tN o ops a)(hi:ops[i]? = some o)(hq:D[q]? = some (b,off,cs))
 (k:∀a,cS Df n (lk ((d,.agg cs.toArray)::l) j) a->eK P .any ops Q (HL D) E f (aO.setIfInBounds i true) a w) (hB:(okB ops E aO i&&Ck .any ops E aO i)=true:=by kernel_rfl)
 (ho:o.op= .load T x:=by rfl) (hx:eO (lk l j) x= .pointer (some ⟨b,off,none⟩):=by kernel_rfl) (hu:tS (P.underlying T)=true:=by kernel_rfl) (hs:(P.info? T).map (·.size)=some cs.length:=by kernel_rfl) (h1:o.dst=some d:=by rfl) (hn:Nat.blt d n=true:=by rfl) :
 eK P .any ops Q (HL D) E (f+1) aO a w:=
 el E (b:=b) (off:=off) (cs:=cs) (λ_ hk=>⟨hk,λw h=>Gl hq h⟩) f i hi hB hw hr _ (Gl hq hd) (λw hc=>rlm ho hx hu hs hc) k h1 hn
theorem eE{p X afr:Prop}(hd:afr)(k:afr->X):(p->afr)/\X:=⟨λ_=>hd,k hd⟩
theorem xE{i:Nat}{X afr:Prop}(k:X)(hB:¬i∈E:=by decide):(i∈E->afr)/\X:=⟨λh=>absurd h hB,k⟩
theorem lI(i:Nat){D:World->Prop}{fuel:Nat}(hi:ops[i]? = some o)(k:wpList P ops (Exit.then (λa w=>(i∈E->D w)/\eK P .any ops Q D E fuel (aO.setIfInBounds i true) a w) Q) [o] a w)
 (hrd:Region.ready .any ops aO=[i]:=by kernel_rfl):eK P .any ops Q D E (fuel+1) aO a w:=aaz hrd hi k
theorem yl{D:World->Prop}{fuel:Nat}(k:Q .normal a w)(hrd:Region.ready .any ops aO=[]:=by kernel_rfl):eK P .any ops Q D E fuel aO a w:=aaA hrd k
section
variable {β:Type}{p:Prop}[Decidable p]{X afr r:Option β}{c:Operand}{x y:Code}
theorem cD(hr:cS Df n e a)(H:(if p then X else afr)=r)(k1:p->X=r->x.wp P Q a w)(k2:¬p->afr=r->y.wp P Q a w)(hc:eO e c= .bool (decide p):=by kernel_rfl):(Code.cond c x y).wp P Q a w:=by
 by_cases h:p
 ·rw[aW h]at H;exact F7 hr hc (tR h) (k1 h H)
 ·rw[cF h]at H;exact F8 hr hc (Iy h) (k2 h H)
theorem cN(hr:cS Df n e a)(H:(if p then X else afr)=r)(k1:p->X=r->y.wp P Q a w)(k2:¬p->afr=r->x.wp P Q a w)(hc:eO e c= .bool (!decide p):=by kernel_rfl):(Code.cond c x y).wp P Q a w:=by
 by_cases h:p
 ·rw[aW h]at H;exact F8 hr hc (by simp[h]) (k1 h H)
 ·rw[cF h]at H;exact F7 hr hc (by simp[h]) (k2 h H)
theorem cV{b:Bool}(hr:cS Df n e a)(H:(if b=true then X else afr)=r)(k1:b=true->X=r->x.wp P Q a w)(k2:¬b=true->afr=r->y.wp P Q a w)(hc:eO e c= .bool b:=by kernel_rfl):(Code.cond c x y).wp P Q a w:=by
 by_cases h:b=true
 ·rw[aW h]at H;exact F7 hr hc h (k1 h H)
 ·rw[cF h]at H;exact F8 hr hc (by simpa using h) (k2 h H)
theorem cM{b:Bool}(hr:cS Df n e a)(H:(if b=true then X else afr)=r)(k1:b=true->X=r->y.wp P Q a w)(k2:¬b=true->afr=r->x.wp P Q a w)(hc:eO e c= .bool (!b):=by kernel_rfl):(Code.cond c x y).wp P Q a w:=by
 by_cases h:b=true
 ·rw[aW h]at H;exact F8 hr hc (by simp[h]) (k1 h H)
 ·rw[cF h]at H;exact F7 hr hc (by simpa using h) (k2 h H)
end
def RE(P:Program)(ops:Array Oper)(n:Nat):List Oper->List Value->List (Nat×Value)->(Nat->Value)->World->List (Option Nat×Option (Bool×Option (Bool×Value))×Result Next)
 | o::os,v::vs,l,j,w=>(o.dst,o.guard.map (λg=>(g.2,((ops[g.1]?).bind (·.dst)).map λt=>(Nat.blt t n,lk l j t))),(execOp (eO (lk l j)) o).run P w)::RE P ops n os vs ((o.dst.getD 0,v)::l) j w
 | _,_,_,_,_=>[]
def KP(x c:Bool):List Nat->List Value->World->List (Option Nat×Option (Bool×Option (Bool×Value))×Result Next)
 | d::ds,v::vs,w=>(some d,some (c,some (true,.bool x)),.ok (.value v) w)::KP x c ds vs w
 | _,_,_=>[]
theorem wgx{i:Nat}{b x c:Bool}(hr:cS Df n e a)(pf:x=c)(h:o.guard.map (λg=>(g.2,((ops[g.1]?).bind (·.dst)).map λt=>(Nat.blt t n,e t)))=some (b,some (true,.bool x))):Region.wanted o (yielded ops a.tmps)=(c==b):=by
 subst pf;cases hg:o.guard with
 | none=>rw[hg]at h;cases h
 | some g =>
  obtain⟨i,b'⟩:=g;simp only[hg,ux,Option.some.injEq,Prod.mk.injEq]at h;obtain⟨rfl,h⟩:=h;cases ht:(ops[i]?).bind (·.dst)with
  | none=>rw[ht]at h;cases h
  | some t =>
   simp only[ht,ux,Option.some.injEq,Prod.mk.injEq]at h;exact wg hr hg ht h.1 h.2
theorem onl{x c:Bool}(pf:x=c):∀(ds:List Nat) (vs:List Value) {os:List Oper} {a:Act} {l:List (Nat×Value)} (hr:cS Df n (lk l j) a) (k:∀a,cS Df n (lk (Rw ds vs l) j) a->wpList P ops Q (os.drop ds.length) a w)
 (hl:ds.length=vs.length/\ds.all (λd=>Nat.blt d n)=true:=by exact⟨rfl,rfl⟩) (hrun:RE P ops n (os.take ds.length) vs l j w=KP x c ds vs w:=by kernel_rfl),wpList P ops Q os a w
 | [],[],os,a,l,hr,k,_,_=>k a hr
 | [],v::vs,os,a,l,hr,k,hl,_=>by simp at hl
 | d::ds,[],os,a,l,hr,k,hl,_=>by simp at hl
 | d::ds,v::vs,[],a,l,hr,k,hl,hrun=>by simp[RE,KP]at hrun
 | d::ds,v::vs,o::os,a,l,hr,k,hl,hrun=>by
  simp only[Ad,oJ,RE,KP,List.cons.injEq,Prod.mk.injEq]at hrun;obtain⟨⟨h1,h2,h3⟩,h4⟩:=hrun;obtain⟨Hl,E4⟩:=hl;simp only[List.all_cons,lV]at E4;refine zd (by unfold tN;rw[wgx (i:=0) hr pf h2];simp) h1 E4.1 hr h3 λa hr => ?_;rw[h1]at h4;exact onl pf ds vs hr k ⟨by simpa using Hl,E4.2⟩ h4
def Jl(ops:Array Oper)(n:Nat):List Oper->List (Nat×Value)->(Nat->Value)->List (Option Nat×Option (Bool×Option (Bool×Value)))
 | o::os,l,j=>(o.dst,o.guard.map (λg=>(g.2,((ops[g.1]?).bind (·.dst)).map λt=>(Nat.blt t n,lk l j t))))::Jl ops n os ((o.dst.getD 0,undef)::l) j
 | _,_,_=>[]
def C4(b:Bool)(gv:Value):List Nat->List (Option Nat×Option (Bool×Option (Bool×Value)))
 | d::ds=>(some d,some (b,some (true,gv)))::C4 b gv ds
 | _=>[]
def RF:List Nat->List (Nat×Value)->List (Nat×Value)
 | d::ds,l=>RF ds ((d,undef)::l)
 | _,l=>l
theorem aaE{x c:Bool}(pf:x=c):∀(ds:List Nat) {os:List Oper} {a:Act} {l:List (Nat×Value)} (hr:cS Df n (lk l j) a) (k:∀a,cS Df n (lk (RF ds l) j) a->wpList P ops Q (os.drop ds.length) a w)
 (hl:ds.all (λd=>Nat.blt d n)=true:=by rfl) (hrun:Jl ops n (os.take ds.length) l j=C4 (!c) (.bool x) ds:=by kernel_rfl),wpList P ops Q os a w
 | [],os,a,l,hr,k,_,_=>k a hr
 | d::ds,[],a,l,hr,k,hl,hrun=>by simp[Jl,C4]at hrun
 | d::ds,o::os,a,l,hr,k,hl,hrun=>by
  simp only[Ad,oJ,Jl,C4,List.cons.injEq,Prod.mk.injEq]at hrun;obtain⟨⟨h1,h2⟩,h4⟩:=hrun;simp only[List.all_cons,lV]at hl;refine MP (by rw[wgx (i:=0) hr pf h2];cases c<;>rfl) h1 hl.1 hr λa hr => ?_;rw[h1]at h4;exact aaE pf ds hr k hl.2 h4
theorem wux{b:Bool}(hr:cS Df n e a)(h:o.guard.map (λg=>(g.2,((ops[g.1]?).bind (·.dst)).map λt=>(Nat.blt t n,e t)))=some (b,some (true,undef))):Region.wanted o (yielded ops a.tmps)=false:=by
 cases hg:o.guard with
 | none=>rw[hg]at h;cases h
 | some g =>
  obtain⟨i,b'⟩:=g;simp only[hg,ux,Option.some.injEq,Prod.mk.injEq]at h;obtain⟨rfl,h⟩:=h;cases ht:(ops[i]?).bind (·.dst)with
  | none=>rw[ht]at h;cases h
  | some t =>
   simp only[ht,ux,Option.some.injEq,Prod.mk.injEq]at h;exact dG hr hg ht h.1 h.2
theorem aaF(b:Bool):∀(ds:List Nat) {os:List Oper} {a:Act} {l:List (Nat×Value)} (hr:cS Df n (lk l j) a) (k:∀a,cS Df n (lk (RF ds l) j) a->wpList P ops Q (os.drop ds.length) a w)
 (hl:ds.all (λd=>Nat.blt d n)=true:=by rfl) (hrun:Jl ops n (os.take ds.length) l j=C4 b undef ds:=by kernel_rfl),wpList P ops Q os a w
 | [],os,a,l,hr,k,_,_=>k a hr
 | d::ds,[],a,l,hr,k,hl,hrun=>by simp[Jl,C4]at hrun
 | d::ds,o::os,a,l,hr,k,hl,hrun=>by
  simp only[Ad,oJ,Jl,C4,List.cons.injEq,Prod.mk.injEq]at hrun;obtain⟨⟨h1,h2⟩,h4⟩:=hrun;simp only[List.all_cons,lV]at hl;refine MP (wux hr h2) h1 hl.1 hr λa hr => ?_;rw[h1]at h4;exact aaF b ds hr k hl.2 h4
theorem st1{x y:Operand}{b:Nat}{cs:Array Value}{T':TypeId}(hw:tN o ops a)(hr:cS Df n (lk l j) a)(hF:Fit w0 (aC (pts b (.cells cs T')::L)) w)(i:Nat)(v:Value)(A:bj)
 (k:∀w1,Fit w0 (aC (A::L)) w1->wpList P ops Q rest a w1) (hd:o.dst=none:=by rfl) (ho:o.op= .store T x y:=by rfl) (hx:eO (lk l j) x= .pointer (some ⟨b,i,none⟩):=by kernel_rfl) (hy:eO (lk l j) y=v:=by kernel_rfl)
 (hv:v.cells=#[v]:=by rfl) (h1:v.oneCell'=true:=by rfl) (hs:(P.info? T).map (·.size)=some 1:=by kernel_rfl) (hc:(cs[i]?).isSome=true:=by kernel_rfl) (hA:pts b (.cells (cs.setIfInBounds i v) T')=A:=by kernel_rfl):wpList P ops Q (o::rest) a w:=by
 subst hA;cases hu:cs[i]? with
 | none=>rw[hu]at hc;cases hc
 | some afv=>exact Rt hw hd hr ho hx hy hv h1 hs hF hu k
theorem UA{x y:Operand}{b:Nat}{cs:Array Value}{T':TypeId}(hw:tN o ops a)(hr:cS Df n (lk l j) a)(hF:Fit w0 (aC (pts b (.cells cs T')::L)) w)(i:Nat)(vs:List Value)(A:bj)
 (k:∀w1,Fit w0 (aC (A::L)) w1->wpList P ops Q rest a w1) (hd:o.dst=none:=by rfl) (ho:o.op= .store T x y:=by rfl) (hx:eO (lk l j) x= .pointer (some ⟨b,i,none⟩):=by kernel_rfl) (hy:eO (lk l j) y= .agg vs.toArray:=by kernel_rfl)
 (h1:vs.all (·.oneCell')=true:=by rfl) (hfit:Nat.ble (i+vs.length) cs.size=true:=by rfl) (hs:(P.info? T).map (·.size)=some vs.length:=by kernel_rfl) (hA:pts b (.cells (cs.toList.take i++vs++cs.toList.drop (i+vs.length)).toArray T')=A:=by kernel_rfl):wpList P ops Q (o::rest) a w:=by
 subst hA;exact IC hw hd hr ho hx hy h1 hfit hs hF rfl k
end
end GX
end
section
namespace GX
open Go Go.RowKit SL
section
variable {P:Program}{w w0 w1 z:World}{ops:Array Oper}{a:Act}{rest:List Oper}{e:Nat->Value}{o:Oper}{t E:TypeId}{n d cc sz rY:Nat}{α β:Type}{l:List (Nat×Value)}{j:Nat->Value}{Df:List Deferred}{L:List bj}
def ym(L:List bj)(sz rY:Nat)(enc:fR->Nat->α->List Value)(iX:β->List Value)(uq:α->List β)(va:fR)(hs:Nat->Option Addr×Nat)(l:List α):Prop:=
 ∀i x,l[i]? = some x->va=some ⟨dA va,kg va,none⟩/\(∀f afv,(enc (hs i).1 (hs i).2 x)[f]? = some afv->∀z w,Fit z (aC L) w->w.cell? ⟨dA va,kg va+i*sz+f,none⟩=some afv)/\bL L rY iX (hs i).1 (uq x)
section
variable {enc:fR->Nat->α->List Value}{iX:β->List Value}{uq:α->List β}{va:fR}{hs:Nat->Option Addr×Nat}{l:List α}
theorem ym.nil{L:List bj}:ym L sz rY enc iX uq va hs ([]:List α):=λi x h=>by simp at h
theorem ym.up(k:Nat){L':List bj}(h:ym (L'.drop k) sz rY enc iX uq va hs l):ym L' sz rY enc iX uq va hs l:=
 λi x hx=>⟨(h i x hx).1,λf afv hu z w hw=>(h i x hx).2.1 f afv hu z w (hw.dn k),(h i x hx).2.2.up k⟩
theorem ym.take{L:List bj}(h:ym L sz rY enc iX uq va hs l)(k:Nat):ym L sz rY enc iX uq va hs (l.take k):=by
 intro i x hx;refine h i x ?_;rw[List.getElem?_take]at hx;split at hx
 ·exact hx
 ·cases hx
theorem ym.cell{z:World}{L:List bj}[Inhabited α]{i:Int}(hF:ym L sz rY enc iX uq va hs l)(hi:bI i l.length)(h:Fit z (aC L) w)(f:Nat){afv:Value}(hu:(enc (hs i.toNat).1 (hs i.toNat).2 (J l i.toNat))[f]? = some afv):w.cell? ⟨dA va,kg va+i.toNat*sz+f,none⟩=some afv:=
 (hF _ _ (aS hi)).2.1 f afv hu z w h
theorem ym.u7{L:List bj}[Inhabited α]{i:Int}(hF:ym L sz rY enc iX uq va hs l)(hi:bI i l.length):bL L rY iX (hs i.toNat).1 (uq (J l i.toNat)):=(hF _ _ (aS hi)).2.2
theorem ym.cast{L:List bj}{l2:List α}(h:ym L sz rY enc iX uq va hs l)(e:l=l2):ym L sz rY enc iX uq va hs l2:=e▸ h
theorem ym.ne{L:List bj}(hF:ym L sz rY enc iX uq va hs l)(h:0<l.length):va=some ⟨dA va,kg va,none⟩:=(hF 0 _ (List.getElem?_eq_getElem h)).1
end
theorem bL.ne{L:List bj}{enc:α->List Value}{va:fR}{l:List α}(hF:bL L sz enc va l)(h:0<l.length):va=some ⟨dA va,kg va,none⟩:=(hF 0 _ (List.getElem?_eq_getElem h)).1
theorem bL.Gm{z:World}{L:List bj}{enc:α->List Value}{b:Nat}[Inhabited α]{l:List α}{i:Int}(hF:bL L sz enc (some ⟨b,0,none⟩) l)(hi:bI i l.length)(h:Fit z (aC L) w)(f:Nat){afv:Value}(hu:(enc (J l i.toNat))[f]? = some afv):w.cell? ⟨dA (some ⟨b,0,none⟩),i.toNat*sz+f,none⟩=some afv:=by
 have e:=(hF _ _ (aS hi)).2 f afv hu z w h;have o:kg (some ⟨b,0,none⟩:fR)=0:=rfl;rw[o,Ae]at e;exact e
theorem aaG{x y:Operand}{k:IntKind}{i:Int}{n0:Nat}{L:List bj}{enc:fR->Nat->α->List Value}{iX:β->List Value}{uq:α->List β}{va:fR}{hs:Nat->Option Addr×Nat}[Inhabited α]{l:List α}(ho:o.op= .indexAddr t x y)(hx:eO e x= .slice va n0 cc)(hy:eO e y= .int k i)(Ho:n0=l.length)
 (ht:P.underlying t=some (.slice E)) (hs':(P.info? E).map (·.size)=some sz) (hF:ym L sz rY enc iX uq va hs l) (hi:bI i l.length):(execOp (eO e) o).run P w= .ok (.value (.pointer (some ⟨dA va,kg va+i.toNat*sz,none⟩))) w:=by
 have h0:=hi.1;have h1:=hi.2;exact rie (hF _ _ (aS hi)).1 ho hx hy ht hs' h0 aB
theorem II(d:Nat){T:TypeId}(b:Addr)(m c n' c':Nat)(h:P.underlying T=some (.slice E)):(Op.equalIn (d+1) T (.slice (some b) m c) (.slice none n' c')).run P w= .ok false w:=by
 simp[Op.equalIn,run_underlying h]
theorem UB{x y:Operand}{T T':TypeId}{n0:Nat}{va:fR}(ho:o.op= .binOp .eql T x y T')(hx:eO e x= .slice va n0 cc)(hy:eO e y= .slice none 0 0)(ht:P.underlying T=some (.slice E))(hv:va=some ⟨dA va,kg va,none⟩):(execOp (eO e) o).run P w= .ok (.value (.bool false)) w:=by
 rw[hv]at hx;have h:=II (P:=P) (w:=w) 9999 ⟨dA va,kg va,none⟩ n0 cc 0 0 ht;unfold execOp;simp only[ho,hx,hy,eqGuard,binOp,Op.equal,Op.maxDepth];simp[h]
theorem RH{x y:Operand}{T T':TypeId}{n0:Nat}{va:fR}(ho:o.op= .binOp .neq T x y T')(hx:eO e x= .slice va n0 cc)(hy:eO e y= .slice none 0 0)(ht:P.underlying T=some (.slice E))(hv:va=some ⟨dA va,kg va,none⟩):(execOp (eO e) o).run P w= .ok (.value (.bool true)) w:=by
 rw[hv]at hx;have h:=II (P:=P) (w:=w) 9999 ⟨dA va,kg va,none⟩ n0 cc 0 0 ht;unfold execOp;simp only[ho,hx,hy,eqGuard,binOp,Op.equal,Op.maxDepth];simp[h]
def iN(x y:Int):Int:=IntKind.i64.wrap ((BitVec.ofInt 64 x &&& BitVec.ofInt 64 y).toNat)
def Q8(x y:Int):Int:=IntKind.i64.wrap ((BitVec.ofInt 64 x ||| BitVec.ofInt 64 y).toNat)
theorem rand{x y:Operand}{p q:Int}{T T':TypeId}(ho:o.op= .binOp .and T x y T')(hx:eO e x= .int .i64 p)(hy:eO e y= .int .i64 q):(execOp (eO e) o).run P w= .ok (.value (.int .i64 (iN p q))) w:=by
 unfold execOp;simp[ho,hx,hy,eqGuard,binOp,Op.intBits];rfl
theorem ror{x y:Operand}{p q:Int}{T T':TypeId}(ho:o.op= .binOp .or T x y T')(hx:eO e x= .int .i64 p)(hy:eO e y= .int .i64 q):(execOp (eO e) o).run P w= .ok (.value (.int .i64 (Q8 p q))) w:=by
 unfold execOp;simp[ho,hx,hy,eqGuard,binOp,Op.intBits];rfl
theorem Fit.Wn{Q:bj}(hz:∀{z w:World} {L:List bj},Fit z (aC L) w->Fit z (aC (Q::L)) w){L:List bj}(h:Fit w0 (aC L) w):∀n,Fit w0 (aC (List.replicate n Q++L)) w
 | 0=>h
 | n+1=>by rw[List.replicate_succ];exact hz (Fit.Wn hz h n)
theorem _root_.Go.Proofs.YtaiffafelihaaaaGreatDoor.SL.Fit.PT{own:α->List Value->bj}{v:Value}{z0:α}{c:mI sz}{L:List bj}(hz:∀{z w:World} {L:List bj},Fit z (aC L) w->Fit z (aC (own z0 c.cs::L)) w)(n:Nat)(h:Fit w0 (aC (rowOf E sz mI.cs v (List.replicate n c)::L)) w):Fit w0 (aC (sA E sz own v (List.replicate n z0)::L)) w:=by
 refine Fit.BA (css:=List.replicate n c) (by simp) ?_;have e:List.zipWith (λx c=>own x c.cs) (List.replicate n z0) (List.replicate n c)=List.replicate n (own z0 c.cs):=by simp[List.zipWith_replicate']
 rw[e];exact(Fit.Wn hz h n).perm wF
variable {Q:Exit->Act->World->Prop}
theorem C5{x y:Operand}{i:Int}{bytes:Nat}{zc:Array Value}{own:α->List Value->bj}(z0:α)(hw:tN o ops a)(hd:o.dst=some d)(hn:Nat.blt d n=true)(hr:cS Df n (lk l j) a)
 (ho:o.op= .makeSlice t x y) (hx:eO (lk l j) x= .int .i64 i) (hy:eO (lk l j) y= .int .i64 i) (hi:0<=i/\i*bytes<=140737488355328) (hlen:zc.toList.length=sz) (hone:∀afv∈zc.toList,afv.oneCell'=true) (hsz:0<sz) (hty:P.underlying t=some (.slice E))
 (qO:(P.info? E).map (λi=>(i.size,i.bytes,i.zero.map (·.cells)))=some (sz,bytes,some zc)) (MB:Nat.blt 0 bytes=true) (hz:∀{z w:World} {L:List bj},Fit z (aC L) w->Fit z (aC (own z0 zc.toList::L)) w) (hF:Fit w0 (aC L) w)
 (k:∀ca w1 a,Fit w0 (aC (sA E sz own (.slice ca (List.replicate i.toNat z0).length i.toNat) (List.replicate i.toNat z0)::L)) w1->cS Df n (lk ((d,.slice ca (List.replicate i.toNat z0).length i.toNat)::l) j) a->wpList P ops Q rest a w1):wpList P ops Q (o::rest) a w:=
 n3 (⟨zc.toList,hlen,hone⟩:mI sz) hw hd hn hr ho hx hy hi (FE hsz) hty qO rfl MB hF λca w1 a h IB=>by
  have e:(List.replicate i.toNat (⟨zc.toList,hlen,hone⟩:mI sz)).length=(List.replicate i.toNat z0).length:=by simp
  rw[e]at h IB;exact k ca w1 a (h.PT hz) IB
theorem Cw{β:Type}(F vs:List β)(a s f:Nat)(hf:f+vs.length<=s)(hs:a+s<=F.length) :
 F.take a++(((F.drop a).take s).take f++vs++((F.drop a).take s).drop (f+vs.length))++F.drop (a+s)=F.take (a+f)++vs++F.drop (a+f+vs.length):=by
 have e1:F.take a++((F.drop a).take s).take f=F.take (a+f):=by
  rw[List.take_take,zR aB,List.take_add]
 have e2:((F.drop a).take s).drop (f+vs.length)++F.drop (a+s)=F.drop (a+f+vs.length):=by
  have h:=F1 s (F.drop a);rw[List.drop_drop]at h;have h2:=qG (List.drop (f+vs.length)) h;rw[Is (by rw[tP,AB];omega),List.drop_drop]at h2;rw[h2];congr 1;omega
 rw[<-e1,<-e2];simp only[pS]
theorem gN{x y:Operand}{vs:List Value}{f:Nat}{α:Type}{sz n0 cc:Nat}{enc:α->List Value}{xs:List α}{ca:fR}(hw:tN o ops a)(hd:o.dst=none)(hr:cS Df n (lk l j) a)(ho:o.op= .store t x y)
 {i:Nat} (hx:eO (lk l j) x= .pointer (some ⟨dA ca,i*sz+f,none⟩)) (hy:eO (lk l j) y= .agg vs.toArray) (h1:vs.all (·.oneCell')=true) (hs:(P.info? t).map (·.size)=some vs.length)
 (he:sH enc sz) (hF:Fit w0 (aC (rowOf E sz enc (.slice ca n0 cc) xs::L)) w) {p q:α} (hp:xs[i]? = some p) (hfit:f+vs.length<=sz) (hq:enc q=(enc p).take f++vs++(enc p).drop (f+vs.length))
 (k:∀w1,Fit w0 (aC (rowOf E sz enc (.slice ca n0 cc) (xs.set i q)::L)) w1->wpList P ops Q rest a w1):wpList P ops Q (o::rest) a w:=by
 have hi:i<xs.length:=(List.getElem?_eq_some_iff.1 hp).1;have hn:=hF.p6;obtain⟨hca,Ch⟩:=hF.sg aB;obtain⟨Hl,E4⟩:=Ch.xo;obtain⟨cur,Wg,Q5,hP⟩:=Ch.oN;have hle:i*sz+sz<=xs.length*sz:=by
  have:(i+1)*sz<=xs.length*sz:=ru _ hi;rw[tO]at this;omega
 have Xh:xs.length*sz<=cc*sz:=ru _ Hl;have hst:=run_storeCells_at P (dA ca) (i*sz+f) E vs 0 cur w hP.block aB (by simpa using h1);simp only[EN]at hst;refine CW (w1:=w.setRow (dA ca) (cur.toList.take (i*sz+f)++vs++cur.toList.drop (i*sz+f+vs.length)).toArray) hw hd hr ?_ (k _ (Fit.yC ?_ hca (by rw[hU];exact hn)))
 ·unfold execOp;cases wI:P.info? t with
  | none=>simp[wI]at hs
  | some q =>
   simp[wI]at hs;simp only[ho,hx,hy,Instr.storeAt,Instr.sureAddr,storeVar,ng,sM,nh,sizeOf,typeInfo,run_program,wI,Value.cells];simp[hs,hst]
 ·refine(hP.turn (w':=w.setRow (dA ca) (cur.toList.take (i*sz+f)++vs++cur.toList.drop (i*sz+f+vs.length)).toArray) (setRow_heap w (dA ca) cur _ E (0,0) hP.block) (λk hk _=>setRow_other w (dA ca) k _ hk) rfl rfl rfl (by simp)).head λz hz=>⟨by simpa using Hl,E4,_,?_,?_,hz⟩
  ·simp only[Cd,jP,tP,AB,tQ];omega
  ·have Wo:((xs.flatMap enc).drop (i*sz)).take sz=enc p:=by
    apply yu
    intro k;rw[List.getElem?_take];by_cases hk:k<sz
    ·rw[aW hk,List.getElem?_drop];exact he.get xs i k p hp hk
    ·rw[cF hk,List.getElem?_eq_none (by rw[he.len];omega)]
   rw[hU,he.set xs i q hi,hq,<-Wo,Cw _ _ _ _ _ hfit (by rw[he.flat];exact hle),<-Q5];have hA:(cur.toList.take (i*sz+f)).length=i*sz+f:=by rw[tP,tQ];omega
   have e1:(cur.toList.take (i*sz+f)++vs++cur.toList.drop (i*sz+f+vs.length)).take (xs.length*sz)=cur.toList.take (i*sz+f)++vs++(cur.toList.drop (i*sz+f+vs.length)).take (xs.length*sz-(i*sz+f+vs.length)):=by
    rw[It,EL (by rw[jP,hA];omega),jP,hA]
   rw[Iu,e1,List.take_take,zR aB,Iv]
structure yF(l:List Value)(n:Nat):Prop where
 len:l.length=n
 one:∀afv∈l,afv.oneCell'=true
theorem yF.lit{l:List Value}(n:Nat)(h:(Nat.beq l.length n&&l.all (·.oneCell'))=true):yF l n:=by
 simp only[lV,List.all_eq_true]at h;exact⟨N8 h.1,h.2⟩
theorem yF.app{a b:List Value}{m n:Nat}(h:yF a m)(k:yF b n):yF (a++b) (m+n):=
 ⟨by rw[jP,h.len,k.len],λafv hu=>(List.mem_append.1 hu).elim (h.one afv) (k.one afv)⟩
theorem _root_.Go.Proofs.YtaiffafelihaaaaGreatDoor.SL.sH.p{enc:α->List Value}(he:sH enc sz)(x:α):yF (enc x) sz:=⟨he.len x,he.one x⟩
theorem yF.enc{enc:α->List Value}{N:Nat}(h:∀x,yF (enc x) N)(hp:0<N)(e:N=sz):sH enc sz:=by
 subst e;exact⟨λx=>(h x).len,λx=>(h x).one,hp⟩
def kW[Inhabited α](N:Nat)(enc:α->List Value)(l:List α):List Value:=(List.range N).flatMap (λi=>enc (J l i))
theorem FG[Inhabited α](N:Nat){enc:α->List Value}(he:sH enc sz)(l:List α):yF (kW N enc l) (N*sz):=by
 unfold kW;refine⟨?_,λafv hu => ?_⟩
 ·have e:(List.range N).flatMap (λi=>enc (J l i))=((List.range N).map (λi=>J l i)).flatMap enc:=by rw[List.flatMap_map]
  rw[e,he.flat];simp
 ·obtain⟨i,_,hi⟩:=List.mem_flatMap.1 hu;exact he.one _ afv hi
theorem Gn{b:Nat}:∀(xs:List Value) (off:Nat),(∀k afv,xs[k]? = some afv->w.cell? ⟨b,off+k,none⟩=some afv)->qK w b off xs
 | [],_,_=>trivial
 | x::xs,off,h=>⟨by simpa using h 0 x rfl,Gn xs (off+1) λk afv hu=>by have:=h (k+1) afv (by simpa using hu);rw[show off+1+k=off+(k+1) by omega];exact this⟩
theorem _root_.Go.Proofs.YtaiffafelihaaaaGreatDoor.SL.Fit.Gp{L:List bj}{enc:α->List Value}{ca:fR}{n i f:Nat}{l:List α}{x:α}{xs:List Value}(h:Fit w0 (aC (rowOf E sz enc (.slice ca n cc) l::L)) w)(he:sH enc sz)(hx:l[i]? = some x)(hxs:((enc x).drop f).take xs.length=xs):qK w (dA ca) (i*sz+f) xs:=by
 refine Gn xs _ λk afv hu => ?_;rw[<-hxs,List.getElem?_take]at hu;split at hu
 ·rw[List.getElem?_drop]at hu;rw[show i*sz+f+k=i*sz+(f+k) by omega];exact h.bE he hx hu
 ·cases hu
def C6[Inhabited α](N:Nat)(ys l:List α):List α:=(List.range N).map (λi=>if i<ys.length then J ys i else J l i)
def qz[Inhabited α](N:Nat)(l:List α)(k:Nat)(y:α):List α:=(List.range N).map (λi=>if i=k then y else J l i)
theorem RJ[Inhabited α]{l:List α}{i:Nat}(h:i<l.length):J l i=l[i]:=by
 have:=get_at h;rw[List.getElem?_eq_getElem h]at this;exact(Option.some.inj this).symm
theorem Wp[Inhabited α]{N i:Nat}(f:Nat->α)(h:i<N):J ((List.range N).map f) i=f i:=by
 rw[RJ (by simpa using h)];simp
theorem BE[Inhabited α](N:Nat)(enc:α->List Value)(l:List α):kW N enc l=((List.range N).map (λi=>J l i)).flatMap enc:=by unfold kW;rw[List.flatMap_map]
theorem Jm[Inhabited α]{N:Nat}{enc:α->List Value}(he:sH enc sz){ys l:List α}(h:ys.length<=N):kW N enc (C6 N ys l)=ys.flatMap enc++(kW N enc l).drop (ys.length*sz):=by
 have e1:(List.range N).map (λi=>J (C6 N ys l) i)=ys++((List.range N).map (λi=>J l i)).drop ys.length:=by
  apply Kt
  ·simp;omega
  ·intro i h1 h2;have hi:i<N:=by simpa using h1
   simp only[List.getElem_map,List.getElem_range];unfold C6;rw[Wp _ hi,List.getElem_append];by_cases c:i<ys.length
   ·rw[aW c,dif_pos c,RJ c]
   ·rw[cF c,dif_neg c];simp only[List.getElem_drop,List.getElem_map,List.getElem_range]
    congr 1;omega
 have e2:∀(m:List α) (k:Nat),(m.drop k).flatMap enc=(m.flatMap enc).drop (k*sz):=by
  intro m k;by_cases hk:k<=m.length
  ·have e:(m.take k).flatMap enc++(m.drop k).flatMap enc=m.flatMap enc:=by rw[<-CU,F1]
   have hl:((m.take k).flatMap enc).length=k*sz:=by rw[he.flat,tP,zR hk]
   rw[<-e,<-hl,List.drop_left]
  ·rw[N9 aB,N9 (by rw[he.flat];exact ru _ aB)];rfl
 rw[BE,e1,CU,e2,<-BE]
theorem RL[Inhabited α]{N k:Nat}{enc:α->List Value}(he:sH enc sz){l:List α}{y:α}(h:k<N):kW N enc (qz N l k y)=(kW N enc l).take (k*sz)++enc y++(kW N enc l).drop (k*sz+sz):=by
 have e1:(List.range N).map (λi=>J (qz N l k y) i)=((List.range N).map (λi=>J l i)).set k y:=by
  apply Kt
  ·simp
  ·intro i h1 h2;have hi:i<N:=by simpa using h1
   simp only[List.getElem_map,List.getElem_range];unfold qz;rw[Wp _ hi,List.getElem_set];by_cases c:i=k
   ·rw[aW c,aW c.symm]
   ·rw[cF c,cF (λe=>c e.symm)];simp
 rw[BE,e1,he.set _ _ _ (by simpa using h),<-BE]
theorem RM{A E ys:List Value}{f k:Nat}(hA:A.length=f):A++(ys++E.drop k)=(A++E).take f++ys++(A++E).drop (f+k):=by
 subst hA;rw[EM,pS,List.drop_append];simp
theorem Gq{s x:Operand}{α β:Type}{sz rY n0 cc i f N cv:Nat}{enc:α->List Value}{iX:β->List Value}{xs:List α}{ca va:fR}{ys:List β}{E afu:TypeId}{p q:α}(hw:tN o ops a)(hd:o.dst=some d)(hn:Nat.blt d n=true)(hr:cS Df n (lk l j) a)
 (ho:o.op= .call {callee:=.builtin .copy,args:=#[s,x],argTypes:=#[t,t]}) (hs:eO (lk l j) s= .slice (some ⟨dA ca,i*sz+f,none⟩) N N) (hx:eO (lk l j) x= .slice va ys.length cv)
 (he:sH enc sz) (hi:sH iX rY) (hty:P.underlying t=some (.slice afu)) (hsz:(P.info? afu).map (·.size)=some rY) (hlen:ys.length<=N)
 (hF:Fit w0 (aC (rowOf E sz enc (.slice ca n0 cc) xs::L)) w) (hv:bL L rY iX va ys) (hp:xs[i]? = some p) (hfit:f+ys.length*rY<=sz) (hq:enc q=(enc p).take f++ys.flatMap iX++(enc p).drop (f+ys.length*rY))
 (k:∀w1 a,Fit w0 (aC (rowOf E sz enc (.slice ca n0 cc) (xs.set i q)::L)) w1->cS Df n (lk ((d,.int .i64 ((ys.length:Nat):Int))::l) j) a->wpList P ops Q rest a w1):wpList P ops Q (o::rest) a w:=by
 have E3:i<xs.length:=(List.getElem?_eq_some_iff.1 hp).1;have hn':=hF.p6;obtain⟨hca,Ch⟩:=hF.sg aB;obtain⟨Hl,E4⟩:=Ch.xo;obtain⟨cur,Wg,Q5,hP⟩:=Ch.oN;have hle:i*sz+sz<=xs.length*sz:=by
  have:(i+1)*sz<=xs.length*sz:=ru _ E3;rw[tO]at this;omega
 have Xh:xs.length*sz<=cc*sz:=ru _ Hl;have hfl:(ys.flatMap iX).length=ys.length*rY:=hi.flat ys;have hmin:Nat.min ys.length N=ys.length:=zR hlen;have hcells:(Builtin.firstCells rY ys.length (.slice va ys.length cv)).run P w= .ok (ys.flatMap iX).toArray w:=by
  rcases Nat.eq_zero_or_pos ys.length with h0 | h0
  ·have e:ys=[]:=FY h0;subst e;cases va with
   | none=>exact run_firstCells_none (P:=P) w rY _ _ _
   | some ad=>exact run_firstCells_some (P:=P) w rY 0 _ _ _ [] (by simp) (by simp)
  ·have hva:=hv.ne h0;rw[hva];refine run_firstCells_some (P:=P) w rY ys.length _ _ _ (ys.flatMap iX) hfl ?_;intro jj afv hu;have hj:jj<ys.length*rY:=by rw[<-hfl];exact(List.getElem?_eq_some_iff.1 hu).1
   have hpos:0<rY:=hi.pos;have h1:jj/rY<ys.length:=Nat.div_lt_of_lt_mul (by rw[Nat.mul_comm];exact hj);have h2:jj%rY<rY:=Nat.mod_lt _ hpos;have h3:jj/rY*rY+jj%rY=jj:=by rw[Nat.mul_comm];exact Nat.div_add_mod jj rY
   have h4:=hi.get ys (jj/rY) (jj%rY) ys[jj/rY] (List.getElem?_eq_getElem h1) h2;rw[h3,hu]at h4;have h5:=(hv _ _ (List.getElem?_eq_getElem h1)).2 _ _ h4.symm _ _ hF.drop;rw[u5,show kg va+jj=kg va+jj/rY*rY+jj%rY by omega];exact h5
 have hst:=run_storeCells_at P (dA ca) (i*sz+f) E (ys.flatMap iX) 0 cur w hP.block (by rw[hfl];omega) (hi.yy ys);simp only[EN]at hst;refine qW (w1:=w.setRow (dA ca) (cur.toList.take (i*sz+f)++ys.flatMap iX++cur.toList.drop (i*sz+f+(ys.flatMap iX).length)).toArray) (v:=.int .i64 ((ys.length:Nat):Int)) hw hd hn hr ?_ (λa hr=>k _ a (Fit.yC ?_ hca (by rw[hU];exact hn')) hr)
 ·unfold execOp;cases wI:P.info? afu with
  | none=>simp[wI]at hsz
  | some q =>
   simp[wI]at hsz;simp only[ho,resolve,invoke,builtin,ng,sM,nh,EO,zT,AD,hs,hx];simp[Builtin.copy_,run_underlying hty,Builtin.lenOf,sizeOf,typeInfo,wI,hsz,hmin,hcells,hst,goInt]
 ·refine(hP.turn (w':=w.setRow (dA ca) (cur.toList.take (i*sz+f)++ys.flatMap iX++cur.toList.drop (i*sz+f+(ys.flatMap iX).length)).toArray) (setRow_heap w (dA ca) cur _ E (0,0) hP.block) (λk hk _=>setRow_other w (dA ca) k _ hk) rfl rfl rfl (by simp)).head λz hz=>⟨by simpa using Hl,E4,_,?_,?_,hz⟩
  ·simp only[Cd,jP,tP,AB,tQ];omega
  ·have Wo:((xs.flatMap enc).drop (i*sz)).take sz=enc p:=by
    apply yu
    intro k;rw[List.getElem?_take];by_cases hk:k<sz
    ·rw[aW hk,List.getElem?_drop];exact he.get xs i k p hp hk
    ·rw[cF hk,List.getElem?_eq_none (by rw[he.len];omega)]
   rw[<-hfl]at hq hfit;generalize ys.flatMap iX=vs at hq hfit hst⊢;rw[hU,he.set xs i q E3,hq,<-Wo,Cw _ _ _ _ _ hfit (by rw[he.flat];exact hle),<-Q5];have hA:(cur.toList.take (i*sz+f)).length=i*sz+f:=by rw[tP,tQ];omega
   have e1:(cur.toList.take (i*sz+f)++vs++cur.toList.drop (i*sz+f+vs.length)).take (xs.length*sz)=cur.toList.take (i*sz+f)++vs++(cur.toList.drop (i*sz+f+vs.length)).take (xs.length*sz-(i*sz+f+vs.length)):=by
    rw[It,EL (by rw[jP,hA];omega),jP,hA]
   rw[Iu,e1,List.take_take,zR aB,Iv]
def Gr(cn:fR->Nat->α->List Value)(afu:TypeId)(rY:Nat)(iX:β->List Value)(uq:α->List β)(p:α×(Option Addr×Nat))(cs:List Value):bj:=
 aC [PF (cs=cn p.2.1 p.2.2 p.1),rowOf afu rY iX (.slice p.2.1 (uq p.1).length p.2.2) (uq p.1)]
section
variable {cn:fR->Nat->α->List Value}{afu:TypeId}{iX:β->List Value}{uq:α->List β}{own:α->List Value->bj}{v:Value}
theorem FH{p:α×(Option Addr×Nat)}{cs:List Value}{L:List bj}(h:Fit z (aC (Gr cn afu rY iX uq p cs::L)) w):cs=cn p.2.1 p.2.2 p.1/\Fit z (aC (rowOf afu rY iX (.slice p.2.1 (uq p.1).length p.2.2) (uq p.1)::L)) w:=by
 have h:=h.sx;obtain⟨e,h⟩:=h.yx;exact⟨e,h⟩
theorem UC{p:α×(Option Addr×Nat)}{L:List bj}(h:Fit z (aC (rowOf afu rY iX (.slice p.2.1 (uq p.1).length p.2.2) (uq p.1)::L)) w):Fit z (aC (Gr cn afu rY iX uq p (cn p.2.1 p.2.2 p.1)::L)) w:=by
 refine Fit.rL (PF (cn p.2.1 p.2.2 p.1=cn p.2.1 p.2.2 p.1)::[rowOf afu rY iX (.slice p.2.1 (uq p.1).length p.2.2) (uq p.1)]) L ?_;exact h.wG rfl
theorem On(hown:∀{z w:World} {L:List bj} {x:α} {cs:List Value},Fit z (aC (own x cs::L)) w->∃(ca:fR) (cc:Nat),cs=cn ca cc x/\Fit z (aC (rowOf afu rY iX (.slice ca (uq x).length cc) (uq x)::L)) w) :
 ∀(l:List α) (css:List (mI sz)) (M:List bj),css.length=l.length->Fit z (aC (List.zipWith (λx c=>own x c.cs) l css++M)) w->∃l':List (α×(Option Addr×Nat)),l'.map Prod.fst=l/\l'.length=css.length/\Fit z (aC (List.zipWith (λx c=>Gr cn afu rY iX uq x c.cs) l' css++M)) w
 | [],css,M,hl,h=>⟨[],rfl,by simpa using hl.symm,by simpa using h⟩
 | x::l,[],M,hl,h=>by simp at hl
 | x::l,c::css,M,hl,h=>by
  obtain⟨ca,cc,e,h⟩:=hown h;have h:=UC (cn:=cn) (p:=(x,(ca,cc))) h;rw[<-e]at h;have h2:=h.perm (wF (l₁:=List.zipWith (λx c=>own x c.cs) l css) (a:=Gr cn afu rY iX uq (x,(ca,cc)) c.cs) (l₂:=M)).symm;obtain⟨l',e1,e2,h3⟩:=On (λh=>hown h) l css _ (by simpa using hl) h2;exact⟨(x,(ca,cc))::l',by simp[e1],by simp[e2],h3.perm wF⟩
theorem IJ(hsh:∀{z w:World} {L:List bj} {x:α} {ca:fR} {cc:Nat},Fit z (aC (rowOf afu rY iX (.slice ca (uq x).length cc) (uq x)::L)) w->Fit z (aC (own x (cn ca cc x)::L)) w) :
 ∀(l':List (α×(Option Addr×Nat))) (css:List (mI sz)) (M:List bj),css.length=l'.length->Fit z (aC (List.zipWith (λx c=>Gr cn afu rY iX uq x c.cs) l' css++M)) w->Fit z (aC (List.zipWith (λx c=>own x c.cs) (l'.map Prod.fst) css++M)) w
 | [],css,M,hl,h=>by simpa using h
 | p::l,[],M,hl,h=>by simp at hl
 | p::l,c::css,M,hl,h=>by
  obtain⟨e,h⟩:=FH h;have h:=hsh h;rw[<-e]at h;have h2:=h.perm (wF (l₁:=List.zipWith (λx c=>Gr cn afu rY iX uq x c.cs) l css) (a:=own p.1 c.cs) (l₂:=M)).symm;have h3:=IJ (λh=>hsh h) l css _ (by simpa using hl) h2;exact h3.perm wF
theorem RN(hown:∀{z w:World} {L:List bj} {x:α} {cs:List Value},Fit z (aC (own x cs::L)) w->∃(ca:fR) (cc:Nat),cs=cn ca cc x/\Fit z (aC (rowOf afu rY iX (.slice ca (uq x).length cc) (uq x)::L)) w){l:List α}{L:List bj}
 (h:Fit z (aC (sA E sz own v l::L)) w) :∃l':List (α×(Option Addr×Nat)),l'.map Prod.fst=l/\Fit z (aC (sA E sz (Gr cn afu rY iX uq) v l'::L)) w:=by
 obtain⟨css,hl,h⟩:=h.Bz;have h:=h.perm (wF (l₁:=List.zipWith (λx c=>own x c.cs) l css) (a:=rowOf E sz mI.cs v css) (l₂:=L)).symm;obtain⟨l',e1,e2,h⟩:=On (own:=own) (cn:=cn) (λh=>hown h) l css _ hl h;exact⟨l',e1,Fit.BA (css:=css) e2.symm (h.perm wF)⟩
theorem MU(hsh:∀{z w:World} {L:List bj} {x:α} {ca:fR} {cc:Nat},Fit z (aC (rowOf afu rY iX (.slice ca (uq x).length cc) (uq x)::L)) w->Fit z (aC (own x (cn ca cc x)::L)) w){l':List (α×(Option Addr×Nat))}{L:List bj}
 (h:Fit z (aC (sA E sz (Gr cn afu rY iX uq) v l'::L)) w) {l:List α} (e:l'.map Prod.fst=l):Fit z (aC (sA E sz own v l::L)) w:=by
 subst e;obtain⟨css,hl,h⟩:=h.Bz;have h:=h.perm (wF (l₁:=List.zipWith (λx c=>Gr cn afu rY iX uq x c.cs) l' css) (a:=rowOf E sz mI.cs v css) (l₂:=L)).symm;have h:=IJ (own:=own) (λh=>hsh h) l' css _ hl h;exact Fit.BA (css:=css) (by simpa using hl) (h.perm wF)
theorem ym.UD[Inhabited α]{l':List (α×(Option Addr×Nat))}{L' L'' L3:List bj}{ca:fR}{n cc:Nat}(heI:sH iX rY)(hsz:0<sz)(h0:Fit z (aC (sA E sz (Gr cn afu rY iX uq) (.slice ca n cc) l'::L'')) w)
 (f:∀{z w:World},Fit z (aC L') w->Fit z (aC (sA E sz (Gr cn afu rY iX uq) (.slice ca n cc) l'::L3)) w):ym L' sz rY cn iX uq ca (λi=>(J l' i).2) (l'.map Prod.fst):=by
 intro i x hx;rw[List.getElem?_map]at hx;cases hp:l'[i]? with
 | none=>simp[hp]at hx
 | some p =>
  simp[hp]at hx;subst hx;have E3:i<l'.length:=(List.getElem?_eq_some_iff.1 hp).1;have hat:J l' i=p:=by
   have:=get_at E3;rw[hp]at this;exact(Option.some.inj this).symm
  have hca:=h0.IF aB;have ho:kg ca=0:=by rw[hca];rfl
  simp only[hat];refine⟨by rw[ho];exact hca,λg afv hu z w hw => ?_,?_⟩
  ·rw[ho,Ae];obtain⟨cs,h⟩:=(f hw).mu hp;obtain⟨e,_⟩:=FH (h.pick 1);subst e;exact h.oO hsz hu
  ·intro k y hy;have main:∀{z w:World},Fit z (aC L') w->∃M,Fit z (aC (rowOf afu rY iX (.slice p.2.1 (uq p.1).length p.2.2) (uq p.1)::M)) w:=λhw=>by
    obtain⟨cs,h⟩:=(f hw).mu hp;obtain⟨_,h⟩:=FH (h.pick 1);exact⟨_,h⟩
   have hkl:k<(uq p.1).length:=(List.getElem?_eq_some_iff.1 hy).1;have h1 :∃M,Fit z (aC (rowOf afu rY iX (.slice p.2.1 (uq p.1).length p.2.2) (uq p.1)::M)) w:=by
    obtain⟨cs,h⟩:=h0.mu hp;obtain⟨_,h⟩:=FH (h.pick 1);exact⟨_,h⟩
   obtain⟨M,h1⟩:=h1;have hc:=(h1.sg aB).1;have ho2:kg p.2.1=0:=by rw[hc];rfl
   refine⟨by rw[ho2];exact hc,λg afv hu z w hw => ?_⟩;obtain⟨M,h2⟩:=main hw;rw[ho2,Ae];exact h2.bE heI hy hu
end
end
end GX
end
section
namespace RK
open Go Go.RowKit Go.ChangeShapes Go.WideShapes Go.Deep SL GX
section
variable {H:Type}{D3:TypeId×Value->H}{P:Program}{W:World}{base:Nat}{spare:Nat->Bool}{held:Bool}{t e:TypeId}{n:Nat}{cs:List Value}{y:DataW H×List MemPlace}
theorem Oo{l:List (DataW H)}{d:DataW H}(h:d∈l):Rows.uptoBulk d<=Rows.uptoBulkAll l:=IG h
theorem p9{fs:Array Field}(hs:P.underlying t=some (.struct fs))(h:DataW.trod D3 P W base spare held n t cs=some y)(i:Nat){f:Field}(hf:fs[i]? = some f) :
 ∃m z,DataW.trod D3 P W base spare held m f.type ((cs.drop f.offset).take (P.cellsOf f.type))=some z/\Rows.uptoBulk z.1<=Rows.uptoBulk y.1:=by
 obtain⟨xs,m,_,hx,_,hl,hg⟩:=DataW.trod_struct hs h;have hi:i<fs.size:=(Array.getElem?_eq_some_iff.1 hf).1;have hg:=hg i f hf;rw[List.getElem?_eq_getElem aB]at hg;refine⟨m,_,hg,?_⟩;rw[hx];simp only[Rows.uptoBulk];have:=Oo (l:=xs.map (·.1)) (List.mem_map.2 ⟨_,List.getElem_mem (show i<xs.length by omega),rfl⟩);omega
theorem Xu{fs:Array Field}(hs:P.underlying t=some (.struct fs))(h:DataW.trod D3 P W base spare held n t cs=some y):cs.length=P.cellsOf t:=by
 obtain⟨xs,m,_,hx,hl,_⟩:=DataW.trod_struct hs h;exact hl
theorem uD(ht:P.underlying t=some (.int .i64))(h:DataW.trod D3 P W base spare held n t cs=some y) :∃x:Int,cs=[.int .i64 x]/\Gj x:=by
 obtain⟨x,hx,_,hw⟩:=DataW.trod_int ht h;exact⟨x,hx,wf_i64 hw⟩
theorem MV{α:Type}{Q:α->DataW H->Prop}{enc:α->List Value}{sz:Nat}(he:sH enc sz)(ht:P.underlying t=some (.slice e))(hC:P.cellsOf e=sz)
 (RP:∀n cs y,DataW.trod D3 P W base spare held n e cs=some y->cs.length=sz->∃x:α,cs=enc x/\Q x y.1) (h:DataW.trod D3 P W base spare held n t cs=some y) :
 ∃(va:fR) (l:List α) (cap:Nat),cs=[.slice va l.length cap]/\bL [old W] sz enc va l/\(∀x∈l,∃d,Q x d/\Rows.uptoBulk d<=Rows.uptoBulk y.1)/\l.length+1<=Rows.uptoBulk y.1/\l.length<=cap:=by
 rcases open_slice ht h with ⟨h0,_⟩ | ⟨a',len,cap,m,n,D,Pl,hcs,_,hl,hm,Zd,hx,hi⟩
 ·exact⟨none,[],0,h0,bL.nil,λx h=>by simp at h,by simpa using KO y.1,by simp⟩
 ·have hlm:len<=m:=by rw[Zd];split<;>omega
  rw[hC]at hi;have hex:∀i,i<m->∃x:α,W.cells? base (a'.add (i*sz)) sz=some (enc x)/\Q x (D i):=λi him=>by
   obtain⟨cs',h1,h2⟩:=hi i him;obtain⟨_,h3,_⟩:=World.cells?_some h1;obtain⟨x,hx,hq⟩:=RP n cs' _ h2 h3;exact⟨x,by rw[h1,hx],hq⟩
  have hlen:∀k,k<=m->∃l:List α,l.length=k/\∀i x,l[i]? = some x->W.cells? base (a'.add (i*sz)) sz=some (enc x)/\Q x (D i):=by
   intro k
   induction k with
   | zero=>intro _;exact⟨[],rfl,λi x h=>by simp at h⟩
   | succ k ih =>
    intro hk;obtain⟨l,h1,h2⟩:=ih aB;obtain⟨x,hx⟩:=hex k aB;refine⟨l++[x],by simp[h1],λi y hy => ?_⟩;by_cases hik:i<l.length
    ·rw[List.getElem?_append_left hik]at hy;exact h2 i y hy
    ·rw[List.getElem?_append_right aB]at hy;have gU:i=k:=by
      have:=(List.getElem?_eq_some_iff.1 hy).1;simp at this;omega
     subst gU;rw[h1,Nat.sub_self]at hy;simp at hy;subst hy;exact hx
  obtain⟨l,Hl,E4⟩:=hlen len hlm;have hd:y.1= .slice ((List.range len).map D) ((List.range (m-len)).map λj=>D (len+j)):=qG Prod.fst hx;refine⟨some a',l,cap,by rw[Hl];exact hcs,λi x hx => ?_,λx hx => ?_,?_,aB⟩
  ·have hc:=(E4 i x hx).1;obtain⟨_,_,hat⟩:=World.cells?_some hc;have hcell:∀f afv,(enc x)[f]? = some afv->W.cell? ((a'.add (i*sz)).add f)=some afv:=λf afv hu=>by
    have hf:f<sz:=by rw[<-he.len x];exact(List.getElem?_eq_some_iff.1 hu).1
    rw[hat f hf,hu]
   have hsp:a'.spot=none:=by
    have hp:=he.pos;have E3:i<l.length:=(List.getElem?_eq_some_iff.1 hx).1;have hx0:l[0]? = some (l[0]' aB):=List.getElem?_eq_getElem aB;obtain⟨_,_,acT⟩:=World.cells?_some (E4 0 _ hx0).1;have h0:0<(enc (l[0]' aB)).length:=by rw[he.len];exact hp
    have h1:W.cell? ((a'.add (0*sz)).add 0)=some _:=(acT 0 hp).trans (List.getElem?_eq_getElem h0);have h2:=World.cell?_spot h1;rw[Nat.zero_mul,Addr.add,aW rfl,Addr.add,aW rfl]at h2;exact h2
   obtain⟨ab,ao,asp⟩:=a';simp only at hsp;subst hsp;refine⟨rfl,λf afv hu z w hw => ?_⟩;refine hw.Kz ?_;have:=hcell f afv hu;rw[u5,u5]at this;exact this
  ·obtain⟨i,hi,rfl⟩:=List.getElem_of_mem hx;obtain⟨_,hq⟩:=E4 i _ (List.getElem?_eq_getElem hi);refine⟨D i,hq,?_⟩;rw[hd];simp only[Rows.uptoBulk];have:=Oo (l:=(List.range len).map D) (List.mem_map.2 ⟨i,List.mem_range.2 aB,rfl⟩);omega
  ·rw[hd,Hl];simp only[Rows.uptoBulk];have:=Ry ((List.range len).map D);simp only[Ce,List.length_range]at this;omega
theorem Jn(ht:P.underlying t=some (.slice e))(he:P.underlying e=some (.int .i64))(hC:P.cellsOf e=1)(h:DataW.trod D3 P W base spare held n t cs=some y) :
 ∃(va:fR) (l:List Int) (cap:Nat),cs=[.slice va l.length cap]/\bL [old W] 1 ck va l/\(∀x∈l,Gj x)/\l.length+1<=Rows.uptoBulk y.1/\l.length<=cap:=by
 obtain⟨va,l,cap,h1,h2,h3,h4,h5⟩:=MV (Q:=λx _=>Gj x) aE ht hC (λn cs y h hl=>by
  obtain⟨x,hx,hi⟩:=uD he h;exact⟨x,by rw[hx];rfl,hi⟩) h
 exact⟨va,l,cap,h1,h2,λx hx=>by obtain⟨_,h,_⟩:=h3 x hx;exact h,h4,h5⟩
theorem UE{α β:Type}{Q:α->DataW H->Prop}{enc:fR->Nat->α->List Value}{iX:β->List Value}{uq:α->List β}{sz rY:Nat}(he:∀a c,sH (enc a c) sz)(ht:P.underlying t=some (.slice e))(hC:P.cellsOf e=sz)
 (RP:∀n cs y,DataW.trod D3 P W base spare held n e cs=some y->cs.length=sz->∃(a:fR) (c:Nat) (x:α),cs=enc a c x/\bL [old W] rY iX a (uq x)/\Q x y.1) (h:DataW.trod D3 P W base spare held n t cs=some y) :
 ∃(va:fR) (hs:Nat->Option Addr×Nat) (l:List α) (cap:Nat),cs=[.slice va l.length cap]/\ym [old W] sz rY enc iX uq va hs l/\(∀x∈l,∃d,Q x d/\Rows.uptoBulk d<=Rows.uptoBulk y.1)/\l.length+1<=Rows.uptoBulk y.1/\l.length<=cap:=by
 obtain⟨va,l,cap,h1,h2,h3,h4,h5⟩:=MV (α:=(Option Addr×Nat)×α) (Q:=λp d=>bL [old W] rY iX p.1.1 (uq p.2)/\Q p.2 d) (enc:=λp=>enc p.1.1 p.1.2 p.2)
  ⟨λp=>(he _ _).len _,λp afv h=>(he _ _).one _ afv h,(he none 0).pos⟩ ht hC (λn cs y h hl=>by
   obtain⟨a,c,x,e1,e2,e3⟩:=RP n cs y h hl;exact⟨((a,c),x),e1,e2,e3⟩) h
 refine⟨va,λi=>(l[i]?.map (·.1)).getD (none,0),l.map (·.2),cap,by rw[Ce];exact h1,λi x hx => ?_,λx hx => ?_,by rw[Ce];exact h4,by rw[Ce];exact h5⟩
 ·rw[List.getElem?_map]at hx;cases hq:l[i]? with
  | none=>rw[hq]at hx;cases hx
  | some p =>
   rw[hq]at hx;simp only[ux,Option.some.injEq]at hx;subst hx;obtain⟨a1,a2⟩:=h2 i p hq;obtain⟨_,a3,_⟩:=h3 p (List.mem_of_getElem? hq);simp only[hq,ux,qH];exact⟨a1,a2,a3.1⟩
 ·obtain⟨p,hp,rfl⟩:=List.mem_map.1 hx;obtain⟨d,a,b⟩:=h3 p hp;exact⟨d,a.2,b⟩
end
theorem KQ{P:Program}{W:World}{α:Type}{enc:α->List Value}{dE:α->DataW Unit}{sz:Nat}{name:String}{g:Nat}{t e:TypeId}{N:Nat}{l:List α}{rest:List (String×DataW Unit)}{ps:List MemPlace}(hsz:0<sz)
 (hg:P.globalNamed name=some g) (hty:(P.globals[g]?).map (·.type)=some t) (ht:P.underlying t=some (.array N e)) (hC:P.cellsOf e=sz) (hCt:P.cellsOf t=N*sz) (hN:N=l.length)
 (hlen:∀x,(enc x).length=sz) (RP:∀m cs y x,DataW.trod (λ_=>()) P W 0 (λ_=>true) false m e cs=some y->cs.length=sz->y.1=dE x->cs=enc x)
 (h:DataW.LaidVars P W ((name,.agg (l.map dE))::rest) ps):bL [old W] sz enc (some ⟨g,0,none⟩) l/\∃qs,DataW.LaidVars P W rest qs:=by
 obtain⟨g',t',cs,fuel,p,q,Oe,ht',acU,hd,hr,_⟩:=h;obtain rfl:=Option.some.inj (hg.symm.trans Oe);obtain rfl:=Option.some.inj (hty.symm.trans ht');refine⟨λi x hx => ?_,_,hr⟩;have hi:i<l.length:=(List.getElem?_eq_some_iff.1 hx).1;refine⟨rfl,λf afv hu z w hw=>hw.Kz ?_⟩;obtain⟨xs,m,_,ex,hlc,hl,hel⟩:=DataW.trod_array ht hd;have hf:f<sz:=by rw[<-hlen x];exact(List.getElem?_eq_some_iff.1 hu).1
 have h1:=hel i aB;rw[hC,List.getElem?_eq_getElem aB]at h1;have h2:(xs[i]' aB).1=dE x:=by
  simp only[Prod.mk.injEq,DataW.agg.injEq]at ex;have:=qG (·[i]?) ex.1;simp only[List.getElem?_map,hx,ux,List.getElem?_eq_getElem (show i<xs.length by omega),Option.some.injEq]at this;exact this.symm
 have hlt:cs.toList.length=N*sz:=by rw[hlc,hCt]
 have h4:i*sz+sz<=N*sz:=by
  have:=ru sz (show i+1<=N by omega);rw[EP]at this;exact this
 have h3:=RP m _ _ x h1 (by rw[tP,AB,hlt];omega) h2;have:=World.var?_cell hg acU (i*sz+f);rw[show(kg (some ⟨g,0,none⟩:fR))=0 from rfl,Ae];show W.cell? ⟨g,i*sz+f,none⟩=some afv;rw[this,<-Array.getElem?_toList];rw[<-h3,List.getElem?_take,aW hf,List.getElem?_drop]at hu;exact hu
end RK
end
section
namespace GX
open Go Go.RowKit SL
def UF(x y:Int):Int:=IntKind.i64.wrap ((BitVec.ofInt 64 x ^^^ BitVec.ofInt 64 y).toNat)
def UG(x y:Int):Int:=IntKind.i64.wrap (x*2 ^ (min y.toNat 64))
def UH(x y:Int):Int:=x.fdiv (2 ^ (min y.toNat 64))
section
variable {P:Program}{ops:Array Oper}{Q:Exit->Act->World->Prop}{a:Act}{w w0 w1:World}{rest:List Oper}{o:Oper}{n d t:Nat}{v v1:Value}{l:List (Nat×Value)}{j e:Nat->Value}{L:List bj}{Df:List Deferred}{E:TypeId}
theorem acV{x y:Operand}{p q:Int}{T T':TypeId}(ho:o.op= .binOp .xor T x y T')(hx:eO e x= .int .i64 p)(hy:eO e y= .int .i64 q):(execOp (eO e) o).run P w= .ok (.value (.int .i64 (UF p q))) w:=by
 unfold execOp;simp[ho,hx,hy,eqGuard,binOp,Op.intBits];rfl
theorem RQ(x:Int):0<=IntKind.u64.wrap x:=by
 simp only[IntKind.wrap,IntKind.min,IntKind.max,IntKind.signed,IntKind.bits];simp;omega
theorem acW{x y:Operand}{p q:Int}{T T':TypeId}(ho:o.op= .binOp .shl T x y T')(hx:eO e x= .int .i64 p)(hy:eO e y= .int .u64 q)(hq:0<=q):(execOp (eO e) o).run P w= .ok (.value (.int .i64 (UG p q))) w:=by
 have h:¬q<0:=by omega
 unfold execOp;simp[ho,hx,hy,eqGuard,binOp,Op.shift,h];rfl
theorem acX{x y:Operand}{p q:Int}{T T':TypeId}(ho:o.op= .binOp .shr T x y T')(hx:eO e x= .int .i64 p)(hy:eO e y= .int .u64 q)(hq:0<=q):(execOp (eO e) o).run P w= .ok (.value (.int .i64 (UH p q))) w:=by
 have h:¬q<0:=by omega
 unfold execOp;simp[ho,hx,hy,eqGuard,binOp,Op.shift,h];rfl
theorem Oq{x y:Operand}{k:IntKind}{i:Int}{b N off sz:Nat}{w':World}(ho:o.op= .indexAddr t x y)(hx:eO e x= .pointer (some ⟨b,off,none⟩))(hy:eO e y= .int k i)
 (ht:P.underlying t=some (.array N E)) (hs:(P.info? E).map (·.size)=some sz) (hi:bI i N):(execOp (eO e) o).run P w'= .ok (.value (.pointer (some ⟨b,off+i.toNat*sz,none⟩))) w':=by
 unfold execOp;have h0:=hi.1;have h1:=hi.2;simp only[ho,hx,hy];cases hq:P.info? E with
 | none=>simp[hq]at hs
 | some q =>
  simp[hq]at hs;simp[Instr.indexAt,Instr.sureAddr,run_underlying ht,asIntOf,h0,h1,sizeOf,typeInfo,hq,hs,u5]
theorem acY{x y:Operand}{kd:IntKind}{i j:Int}{v:Value}{w:World}(ho:o.op= .index t x y)(hy:eO e y= .int kd i)(hi:i=j)(hrun:(Instr.index t (eO e x) (.int kd j)).run P w= .ok v w):(execOp (eO e) o).run P w= .ok (.value v) w:=by
 subst hi;unfold execOp;simp[ho,hy,hrun]
theorem Xv{x y:Operand}{k:IntKind}{i:Int}{b N afw off sz:Nat}{w':World}(ho:o.op= .indexAddr t x y)(hx:eO e x= .pointer (some ⟨b,afw+off,none⟩))(hy:eO e y= .int k i)
 (ht:P.underlying t=some (.array N E)) (hs:(P.info? E).map (·.size)=some sz) (hi:bI i N):(execOp (eO e) o).run P w'= .ok (.value (.pointer (some ⟨b,afw+(off+i.toNat*sz),none⟩))) w':=by
 rw[<-Nat.add_assoc];exact Oq ho hx hy ht hs hi
end
section
variable {α:Type}[Inhabited α]{enc:α->List Value}{sz N:Nat}{C pre post:List Value}{l:List α}{o:Nat}
theorem sG{i:Int}(h:bI i N):i.toNat<N:=by have h0:=h.1;have h1:=h.2;omega
theorem RR(he:sH enc sz){i f:Nat}(hi:i<N){afv:Value}(hu:(enc (J l i))[f]? = some afv):(kW N enc l)[i*sz+f]? = some afv:=by
 have hf:f<sz:=by rw[<-he.len (J l i)];exact(List.getElem?_eq_some_iff.1 hu).1
 rw[BE,he.get _ i f (J l i) (by simp[hi]) hf];exact hu
theorem AN(hC:C=pre++(kW N enc l++post))(he:sH enc sz)(ho:pre.length=o){i f:Nat}(hi:i<N){afv:Value}(hu:(enc (J l i))[f]? = some afv):C[o+i*sz+f]? = some afv:=by
 have h1:=RR (N:=N) he hi hu;have h2:i*sz+f<(kW N enc l).length:=(List.getElem?_eq_some_iff.1 h1).1;rw[hC,List.getElem?_append_right aB,ho,show o+i*sz+f-o=i*sz+f by omega,List.getElem?_append_left h2];exact h1
theorem UI(hC:C=pre++(kW N enc l++post))(he:sH enc sz)(ho:pre.length=o){i:Nat}(hi:i<N){xs:List Value}(hx:enc (J l i)=xs):(C.drop (o+i*sz)).take xs.length=xs:=by
 subst hx
 apply yu
 intro k;rw[List.getElem?_take];by_cases hk:k<(enc (J l i)).length
 ·rw[aW hk,List.getElem?_drop,AN hC he ho hi (List.getElem?_eq_getElem hk),List.getElem?_eq_getElem hk]
 ·rw[cF hk,List.getElem?_eq_none aB]
theorem MW{C':List Value}(hC:C=pre++(kW N enc l++post))(he:sH enc sz)(ho:pre.length=o){i:Nat}(hi:i<N){y:α}{vs:List Value}(hy:enc y=vs)(hC':C'=pre++(kW N enc (qz N l i y)++post)):C'=C.take (o+i*sz)++vs++C.drop (o+i*sz+vs.length):=by
 have hl:=(FG N he l).len;have hvs:vs.length=sz:=by rw[<-hy];exact he.len y
 have hm:i*sz+sz<=N*sz:=by
  have:=ru sz (show i+1<=N by omega);rw[EP]at this;exact this
 have e1:(pre++(kW N enc l++post)).take (o+i*sz)=pre++(kW N enc l).take (i*sz):=by
  rw[It,EL aB,ho,show o+i*sz-o=i*sz by omega,List.take_append_of_le_length aB]
 have e2:(pre++(kW N enc l++post)).drop (o+i*sz+sz)=(kW N enc l).drop (i*sz+sz)++post:=by
  rw[List.drop_append,yt aB,ho,show o+i*sz+sz-o=i*sz+sz by omega,zb,Is aB]
 rw[hC',hC,RL he hi,<-hy,he.len y,e1,e2];simp only[pS]
theorem RS(hC:C=pre++(kW N enc l++post))(he:sH enc sz)(ho:pre.length=o){i m:Nat}(hi:i<N)(hm:m<=sz):o+i*sz+m<=C.length:=by
 have hl:=(FG N he l).len;have:i*sz+sz<=N*sz:=by
  have:=ru sz (show i+1<=N by omega);rw[EP]at this;exact this
 rw[hC,jP,jP,hl];omega
theorem C7{C':List Value}{v:Value}(hC:C=pre++(kW N enc l++post))(he:sH enc 1)(ho:pre.length=o){i:Nat}(hi:i<N){y:α}(hy:enc y=[v])(hC':C'=pre++(kW N enc (qz N l i y)++post)):C'=C.set (o+i*1) v:=by
 have h:=MW hC he ho hi hy hC';have hl:=RS (m:=1) hC he ho hi (j9 _);rw[h,List.set_eq_take_append_cons_drop,oU];simp
end
section
variable {P:Program}{ops:Array Oper}{Q:Exit->Act->World->Prop}{a:Act}{w w0 w1:World}{rest:List Oper}{o:Oper}{n d t:Nat}{v v1:Value}{l:List (Nat×Value)}{j e:Nat->Value}{L:List bj}{Df:List Deferred}{E:TypeId}
theorem _root_.Go.Proofs.YtaiffafelihaaaaGreatDoor.SL.Fit.RT{b k:Nat}{C xs:List Value}{T:TypeId}(h:Fit w0 (aC (pts b (.cells C.toArray T)::L)) w)(hx:(C.drop k).take xs.length=xs):qK w b k xs:=by
 refine Gn xs _ λq afv hu => ?_;rw[<-hx,List.getElem?_take]at hu;split at hu
 ·rw[List.getElem?_drop]at hu;exact h.cell (k+q) (by simpa using hu)
 ·cases hu
theorem C8{x y:Operand}{b k:Nat}{C C' vs:List Value}{T:TypeId}(hw:tN o ops a)(hd:o.dst=none)(hr:cS Df n (lk l j) a)(ho:o.op= .store t x y)
 (hx:eO (lk l j) x= .pointer (some ⟨b,k,none⟩)) (hy:eO (lk l j) y= .agg vs.toArray) (h1:vs.all (·.oneCell')=true) (hs:(P.info? t).map (·.size)=some vs.length)
 (hF:Fit w0 (aC (pts b (.cells C.toArray T)::L)) w) (hk:k+vs.length<=C.length) (hC:C'=C.take k++vs++C.drop (k+vs.length))
 (K:∀w1,Fit w0 (aC (pts b (.cells C'.toArray T)::L)) w1->wpList P ops Q rest a w1):wpList P ops Q (o::rest) a w:=
 IC hw hd hr ho hx hy h1 (Nat.ble_eq_true_of_le (by simpa using hk)) hs hF (cs':=C'.toArray) (by rw[hC]) K
end
section
variable {P:Program}{w w0 w1 z:World}{ops:Array Oper}{Q:Exit->Act->World->Prop}{a:Act}{rest:List Oper}{e:Nat->Value}{o:Oper}{n d:Nat}{l:List (Nat×Value)}{j:Nat->Value}{Df:List Deferred}{L:List bj}{afv:Value}
theorem D4{x:Operand}{T:TypeId}(hw:tN o ops a)(hr:cS Df n (lk l j) a)(ho:o.op= .panic x)(hx:eO (lk l j) x= .iface T afv)
 (k:Q (.panic [{v:=.iface T afv,recovered:=false}]) a w):wpList P ops Q (o::rest) a w:=by
 refine vW hw ?_;unfold Oper.wp;have h:(execOp (eO (lk l j)) o).run P w= .halt (.panic (.iface T afv)) w:=by
  unfold execOp;simp[ho,hx,Instr.panic,goPanic]
 rw[hr.eval,h,Oper.upon_panic];exact k
theorem KR{f:FuncId}{args:Array Value}{afw:Ending->World->Prop}(hw:tN o ops a)(hr:cS Df n (lk l j) a)
 (hrun:(execOp (eO (lk l j)) o).run P w= .ok (.enter f args) w) (hc:Calls P f args w afw)
 (k:∀e w1,afw e w1->∃ch,e= .panicked ch/\Q (.panic ch) a w1):wpList P ops Q (o::rest) a w:=by
 refine vW hw ?_;unfold Oper.wp;rw[hr.eval,hrun,Oper.upon_enter];refine hc.mono λe w1 h => ?_;obtain⟨ch,rfl,h2⟩:=k e w1 h;exact h2
theorem nK{K:Act->World->Prop}{ch:List PanicEntry}(h:Q (.panic ch) a w):Exit.then K Q (.panic ch) a w:=h
theorem s9{i:Nat}{ch:List PanicEntry}(h:Q (.panic ch) a w):Exit.inBlock i Q (.panic ch) a w:=h
theorem BF{fn:Func}{afw:Ending->World->Prop}{ch:List PanicEntry}(hr:kH n e a)(h:afw (.panicked ch) w):bodyPost P fn afw (.panic ch) a w:=⟨hr.defers,h⟩
theorem ejR{γ δ:Type}{x y:δ}(h:some (Sum.inr x:γ⊕δ)=some (Sum.inr y)):x=y:=by cases h;rfl
theorem RU(h:Q .ret a w):Exit.noGoto Q .ret a w:=h
instance aeR [h:PI Q]:PI (Exit.noGoto Q):=⟨λch a w dst v k=>h.pi ch a w dst v k⟩
end
section
variable {P:Program}{w:World}
theorem Jo(em:Bool)(d:Nat)(xs:Array Value):∀(fs:List Field) (i:Nat) (us:List Value),Cj P i fs us us=true->(∀j,us[j]? = xs[i+j]?∨us.length<=j)->
 Sem.run P (forIn fs PUnit.unit λf _=>if f.name≠ "_" then do let v<-part f.type xs f.offset;Instr.checkKey em (d+1) f.type v;pure (ForInStep.yield PUnit.unit)else pure (ForInStep.yield PUnit.unit)) w= .ok PUnit.unit w
 | [],_,[],_,_=>by simp
 | f::fs,i,.int k a::us,h,hx=>by
  simp only[Cj,lV,bne_iff_ne,ne_eq,wE]at h;obtain⟨⟨⟨⟨hn,ho⟩,ht⟩,_⟩,hr⟩:=h;have hx0:xs[i]? = some (.int k a):=by rcases hx 0 with h | h;simpa using h.symm;simp at h
  have hty :∃kk,P.underlying f.type=some (.int kk):=by
   revert ht
   cases hq:P.underlying f.type with
   | none=>simp
   | some d=>cases d<;>simp
  obtain⟨kk,hty⟩:=hty;have ih:=Jo em d xs fs (i+1) us hr (λj=>by rcases hx (j+1)with h | h;left;simpa [MO,Iw]using h;right;simpa using h);have pa:=rM (P:=P) (w:=w) (t:=f.type) (cs:=xs) (i:=f.offset) (v:=.int k a) (by rw[hty]) (by rw[ho];exact hx0);have hc:(Instr.checkKey em (d+1) f.type (.int k a)).run P w= .ok () w:=by simp[Instr.checkKey,run_underlying hty]
  rw[List.forIn_cons];simp only[ne_eq,aW hn,ng,pa,hc,nh,sM]
  simpa using ih
 | f::fs,i,.bool a::us,h,hx=>by
  simp only[Cj,lV,bne_iff_ne,ne_eq,wE]at h;obtain⟨⟨⟨hn,ho⟩,ht⟩,hr⟩:=h;have hx0:xs[i]? = some (.bool a):=by rcases hx 0 with h | h;simpa using h.symm;simp at h
  have hty:P.underlying f.type=some .bool:=by
   revert ht
   cases hq:P.underlying f.type with
   | none=>simp
   | some d=>cases d<;>simp
  have ih:=Jo em d xs fs (i+1) us hr (λj=>by rcases hx (j+1)with h | h;left;simpa [MO,Iw]using h;right;simpa using h);have pa:=rM (P:=P) (w:=w) (t:=f.type) (cs:=xs) (i:=f.offset) (v:=.bool a) (by rw[hty]) (by rw[ho];exact hx0);have hc:(Instr.checkKey em (d+1) f.type (.bool a)).run P w= .ok () w:=by simp[Instr.checkKey,run_underlying hty]
  rw[List.forIn_cons];simp only[ne_eq,aW hn,ng,pa,hc,nh,sM]
  simpa using ih
theorem RV{em:Bool}{T:TypeId}{us:List Value}(d:Nat)(hu:P.underlying T=some (.struct (P.fieldsOf T)))(hf:Cj P 0 (P.fieldsOf T).toList us us=true):(Instr.checkKey em (d+2) T (.agg us.toArray)).run P w= .ok () w:=by
 unfold Instr.checkKey;simp only[run_underlying hu,ng,nh,<-Array.forIn_toList];rw[Jo em d us.toArray _ 0 us hf (λj=>by left;simp)];simp
structure KS{α:Type}[DecidableEq α](P:Program)(kt:TypeId)(ek:α->List Value):Prop where
 hp:P.stoodInHeld kt=false
 hu:P.underlying kt=some (.struct (P.fieldsOf kt))
 hf:∀x y,Cj P 0 (P.fieldsOf kt).toList (ek x) (ek y)=true
 eq:∀x y,tT (ek x) (ek y)=decide (x=y)
end
section
variable {α β:Type}[DecidableEq α]
def rE(ek:α->List Value)(ev:β->List Value)(l:List (α×β))(k:Nat):List MapEntry:=(l.zipIdx k).map λp=>{key:=.agg (ek p.1.1).toArray,val:=.agg (ev p.1.2).toArray,born:=p.2}
def mapOf(ek:α->List Value)(ev:β->List Value)(b:Nat)(l:List (α×β)):bj:=pts b (.map (rE ek ev l 0).toArray l.length)
def xd:List (α×β)->α->Option β
 | [],_=>none
 | p::l,x=>if x=p.1 then some p.2 else xd l x
variable {P:Program}{w w0 w1 z:World}{ops:Array Oper}{Q:Exit->Act->World->Prop}{a:Act}{rest:List Oper}{e:Nat->Value}{o:Oper}{n d:Nat}{l:List (Nat×Value)}{j:Nat->Value}{Df:List Deferred}{L:List bj}{afv:Value}
variable {ek:α->List Value}{ev:β->List Value}{b:Nat}{m:List (α×β)}{t kt et:TypeId}
theorem KT(hk:KS P kt ek)(x:α):∀(m:List (α×β)) (k i:Nat),((xd m x=none/\(Instr.findAsking kt (.agg (ek x).toArray) (rE ek ev m k) i).run P w= .ok none w)∨∃v q,xd m x=some v/\(Instr.findAsking kt (.agg (ek x).toArray) (rE ek ev m k) i).run P w= .ok (some (q,.agg (ev v).toArray)) w)
 | [],k,i=>by left;exact⟨rfl,by simp[rE,Instr.findAsking]⟩
 | p::m,k,i=>by
  have h1:=run_equalIn_struct (P:=P) w 9999 kt (ek x).toArray (ek p.1).toArray hk.hu hk.hp;rw[Ji (P:=P) (w:=w) 9998 (ek x).toArray (ek p.1).toArray (P.fieldsOf kt).toList 0 (ek x) (ek p.1) (hk.hf x p.1) (λj=>by left;simp) (λj=>by left;simp)]at h1;have h2:(Op.equal kt (.agg (ek x).toArray) (.agg (ek p.1).toArray)).run P w= .ok (decide (x=p.1)) w:=by rw[<-hk.eq];exact h1
  have e:rE ek ev (p::m) k={key:=.agg (ek p.1).toArray,val:=.agg (ev p.2).toArray,born:=k}::rE ek ev m (k+1):=rfl;rw[e];by_cases c:x=p.1
  ·right
   refine⟨p.2,i,by simp[xd,c],?_⟩;rw[Instr.findAsking];simp only[ng,h2,nh];simp[c]
  ·have ih:=KT hk x m (k+1) (i+1);have e2:(Instr.findAsking kt (.agg (ek x).toArray) ({key:=.agg (ek p.1).toArray,val:=.agg (ev p.2).toArray,born:=k}::rE ek ev m (k+1)) i).run P w=(Instr.findAsking kt (.agg (ek x).toArray) (rE ek ev m (k+1)) (i+1)).run P w:=by
    rw[Instr.findAsking];simp[h2,c]
   rw[e2]
   simpa [xd,c]using ih
theorem IK(hk:KS P kt ek)(x:α)(m:List (α×β)):((xd m x=none/\(Instr.findKey kt (.agg (ek x).toArray) (rE ek ev m 0)).run P w= .ok none w)∨∃v q,xd m x=some v/\(Instr.findKey kt (.agg (ek x).toArray) (rE ek ev m 0)).run P w= .ok (some (q,.agg (ev v).toArray)) w):=by
 have h:=KT (P:=P) (w:=w) (ev:=ev) hk x m 0 0;unfold Instr.findKey;simp only[ng,run_underlying hk.hu,nh];cases m with
 | nil=>left;exact⟨rfl,by simp[rE,Instr.findNow]⟩
 | cons p m =>
  have e:Instr.findNow (.struct (P.fieldsOf kt)) (.agg (ek x).toArray) (rE ek ev (p::m) 0) 0=none:=rfl;rw[e];exact h
theorem RW(hw:tN o ops a)(hd:o.dst=some d)(hn:Nat.blt d n=true)(hr:cS Df n (lk l j) a)(ho:o.op= .makeMap t none)(ek:α->List Value)(ev:β->List Value)(hF:Fit z (aC L) w)
 (k:∀b w a,Fit z (aC (mapOf ek ev b []::L)) w->cS Df n (lk ((d,.map (some b))::l) j) a->wpList P ops Q rest a w):wpList P ops Q (o::rest) a w:=by
 refine qW hw hd hn hr (w1:=w.alloc (.map #[] 0)) (v:=.map (some w.heap.size)) ?_ λa IB=>k _ _ a (hF.alloc _) IB;unfold execOp;simp[ho,Instr.makeMap,newObj]
 rfl
theorem UJ{zc:Array Value}(h:(P.info? et).bind (·.zero)=some (.agg zc)):(zeroValue et).run P w= .ok (.agg zc) w:=by
 cases hi:P.info? et with
 | none=>simp[hi]at h
 | some i =>
  simp[hi]at h;simp[zeroValue,typeInfo,hi,h]
theorem UK{x y:Operand}{v0:β}(hw:tN o ops a)(hd:o.dst=some d)(hn:Nat.blt d n=true)(hr:cS Df n (lk l j) a)(ho:o.op= .lookup t x y true)(hx:eO (lk l j) x= .map (some b))(q:α)(hy:eO (lk l j) y= .agg (ek q).toArray)
 (ht:P.underlying t=some (.map kt et)) (hk:KS P kt ek) (hz:(P.info? et).bind (·.zero)=some (.agg (ev v0).toArray)) (hF:Fit z (aC (mapOf ek ev b m::L)) w)
 (k:∀a,cS Df n (lk ((d,.tuple #[.agg (ev ((xd m q).getD v0)).toArray,.bool (xd m q).isSome])::l) j) a->wpList P ops Q rest a w):wpList P ops Q (o::rest) a w:=by
 refine qW hw hd hn hr (w1:=w) ?_ k;unfold execOp;have hb:(getObj b).run P w= .ok (.map (rE ek ev m 0).toArray m.length) w:=Oa hF.block;have hc:∀em,(Instr.checkKey em 10000 kt (.agg (ek q).toArray)).run P w= .ok () w:=λem=>RV 9998 hk.hu (hk.hf q q);have ZT:=UJ (P:=P) (w:=w) hz;rcases IK (P:=P) (w:=w) (ev:=ev) hk q m with ⟨e,h⟩ | ⟨v,i,e,h⟩
 ·simp[ho,hx,hy,Instr.lookup,run_underlying ht,hb,hc,h,e,ZT]
 ·simp[ho,hx,hy,Instr.lookup,run_underlying ht,hb,hc,h,e]
theorem IL(p:α×β):∀(m:List (α×β)) (k:Nat),rE ek ev (m++[p]) k=rE ek ev m k++[{key:=.agg (ek p.1).toArray,val:=.agg (ev p.2).toArray,born:=k+m.length}]
 | [],k=>rfl
 | q::m,k=>by
  have ih:=IL p m (k+1);show _::rE ek ev (m++[p]) (k+1)=_::(rE ek ev m (k+1)++_);rw[ih]
  congr 3
  simp;omega
theorem Ot{o o':Obj}(h:Fit w0 (aC (pts b o::L)) w):Fit w0 (aC (pts b o'::L)) {w with heap:=w.heap.setIfInBounds b o' }:=by
 refine h.turn ?_ (λk hk hlt => ?_) rfl rfl rfl (by simp)
 ·simp[h.lt]
 ·show(w.heap.setIfInBounds b o')[k]? = _;rw[Array.getElem?_setIfInBounds_ne aB]
theorem RX{x y v:Operand}(hw:tN o ops a)(hd:o.dst=none)(hr:cS Df n (lk l j) a)(ho:o.op= .mapUpdate t x y v∨o.op= .insert t x y v)(hx:eO (lk l j) x= .map (some b))(q:α)(r:β)(hy:eO (lk l j) y= .agg (ek q).toArray)(hv:eO (lk l j) v= .agg (ev r).toArray)
 (ht:P.underlying t=some (.map kt et)) (hk:KS P kt ek) (hq:xd m q=none) (hF:Fit z (aC (mapOf ek ev b m::L)) w)
 (k:∀w,Fit z (aC (mapOf ek ev b (m++[(q,r)])::L)) w->wpList P ops Q rest a w):wpList P ops Q (o::rest) a w:=by
 have hb:(getObj b).run P w= .ok (.map (rE ek ev m 0).toArray m.length) w:=Oa hF.block;have hc:∀em,(Instr.checkKey em 10000 kt (.agg (ek q).toArray)).run P w= .ok () w:=λem=>RV 9998 hk.hu (hk.hf q q);have hrun:(Instr.mapUpdate t (.map (some b)) (.agg (ek q).toArray) (.agg (ev r).toArray)).run P w= .ok () {w with heap:=w.heap.setIfInBounds b (.map (rE ek ev (m++[(q,r)]) 0).toArray (m++[(q,r)]).length)}:=by
  rcases IK (P:=P) (w:=w) (ev:=ev) hk q m with ⟨e,h⟩ | ⟨v,i,e,h⟩
  ·rw[IL];have hs:∀o',(setObj b o').run P w= .ok () {w with heap:=w.heap.setIfInBounds b o' }:=λo'=>by simp[setObj,Sem.run,hF.block]
   simp[Instr.mapUpdate,run_underlying ht,hb,hc,h,hs]
  ·rw[e]at hq;cases hq
 refine vW hw ?_;unfold Oper.wp;have h2:(execOp (eO (lk l j)) o).run P w= .ok .skip {w with heap:=w.heap.setIfInBounds b (.map (rE ek ev (m++[(q,r)]) 0).toArray (m++[(q,r)]).length)}:=by
  unfold execOp;rcases ho with ho | ho<;>simp[ho,hx,hy,hv,hrun]
 rw[hr.eval,h2,Oper.upon_skip,hd];exact k _ (Ot hF)
section
variable {ξ γ:Type}
noncomputable def u9(aJ:ξ->γ->Option γ)(s0:γ)(l:List ξ):Option γ:=
 open Classical in if h :∃r,∀l':List ξ,l'.Perm l->l'.foldlM (λs x=>aJ x s) s0=some r then some h.choose else none
theorem Cn{aJ:ξ->γ->Option γ}{s0 r:γ}{l l':List ξ}(h:u9 aJ s0 l=some r)(p:l'.Perm l):l'.foldlM (λs x=>aJ x s) s0=some r:=by
 unfold u9 at h;split at h
 ·rename_i hx;rw[<-Option.some.inj h];exact hx.choose_spec l' p
 ·cases h
theorem KU{aJ:ξ->γ->Option γ}{s0 r:γ}{l:List ξ}(h:∀l':List ξ,l'.Perm l->l'.foldlM (λs x=>aJ x s) s0=some r):u9 aJ s0 l=some r:=by
 unfold u9;have hx :∃r,∀l':List ξ,l'.Perm l->l'.foldlM (λs x=>aJ x s) s0=some r:=⟨r,h⟩;rw[dif_pos hx];have e:=hx.choose_spec l (List.Perm.refl l);rw[h l (List.Perm.refl l)]at e;rw[<-Option.some.inj e]
structure Seen(l:List ξ)(aJ:ξ->γ->Option γ)(s0:γ)(seen:Array Nat)(s:γ):Prop where
 nd:seen.toList.Nodup
 lt:∀i∈seen.toList,i<l.length
 fold:(seen.toList.filterMap (λi=>l[i]?)).foldlM (λs x=>aJ x s) s0=some s
theorem Seen.nil{l:List ξ}{aJ:ξ->γ->Option γ}{s0:γ}:Seen l aJ s0 #[] s0:=⟨by simp,by simp,rfl⟩
theorem IM(l:List ξ):(List.range l.length).filterMap (λi=>l[i]?)=l:=by
 apply yu
 intro i;have h:∀(l:List ξ),(List.range l.length).filterMap (λi=>l[i]?)=l:=by
  intro l
  induction l with
  | nil=>rfl
  | cons x l ih =>
   rw[Ad,List.range_succ_eq_map,List.filterMap_cons];simp only[List.getElem?_cons_zero,List.filterMap_map]
   congr 1
 rw[h]
theorem uE{n:Nat}{l:List Nat}(h:l.Nodup)(hlt:∀i∈l,i<n)(yD:∀i,i<n->i∈l):l.Perm (List.range n):=
 (List.perm_ext_iff_of_nodup h List.nodup_range).2 λi=>⟨λhi=>List.mem_range.2 (hlt i hi),λhi=>yD i (List.mem_range.1 hi)⟩
theorem Seen.done{l:List ξ}{aJ:ξ->γ->Option γ}{s0 s r:γ}{seen:Array Nat}(h:Seen l aJ s0 seen s)(H:u9 aJ s0 l=some r)(yD:∀i,i<l.length->i∈seen.toList):s=r:=by
 have p:=(uE h.nd h.lt yD).filterMap (λi=>l[i]?);rw[IM]at p;have e:=Cn H p;rw[h.fold]at e;exact Option.some.inj e
theorem Seen.push{l:List ξ}{aJ:ξ->γ->Option γ}{s0 s r:γ}{seen:Array Nat}(h:Seen l aJ s0 seen s)(H:u9 aJ s0 l=some r){i:Nat}{x:ξ}(hx:l[i]? = some x)(hi:i∉seen.toList) :∃s',aJ x s=some s'/\Seen l aJ s0 (seen.push i) s':=by
 have E3:i<l.length:=(List.getElem?_eq_some_iff.1 hx).1;have hnd:(seen.toList++[i]).Nodup:=by
  rw[List.nodup_append];exact⟨h.nd,by simp,λa ha b hb=>by simp at hb;subst hb;intro e;subst e;exact hi ha⟩
 have hlt:∀k∈seen.toList++[i],k<l.length:=λk hk=>by
  rcases List.mem_append.1 hk with hk | hk
  ·exact h.lt k hk
  ·simp at hk;omega
 let rest:=(List.range l.length).filter (λk => !(seen.toList++[i]).contains k)
 have p:((seen.toList++[i])++rest).Perm (List.range l.length):=by
  refine uE ?_ ?_ ?_
  ·rw[List.nodup_append];refine⟨hnd,List.nodup_range.filter _,λa ha b hb => ?_⟩;intro e;subst e;have:=(List.mem_filter.1 hb).2;simp at this ha;rcases ha with ha | ha
   ·exact this.1 ha
   ·exact this.2 ha
  ·intro k hk;rcases List.mem_append.1 hk with hk | hk
   ·exact hlt k hk
   ·exact List.mem_range.1 (List.mem_filter.1 hk).1
  ·intro k hk;by_cases c:k∈seen.toList++[i]
   ·exact List.mem_append.2 (.inl c)
   ·refine List.mem_append.2 (.inr (List.mem_filter.2 ⟨List.mem_range.2 hk,?_⟩))
    simpa using c
 have p2:=p.filterMap (λi=>l[i]?);rw[IM]at p2;have e:=Cn H p2;rw[List.filterMap_append,List.filterMap_append,List.foldlM_append,List.foldlM_append,h.fold]at e;have e1:List.filterMap (λi=>l[i]?) [i]=[x]:=by simp[hx]
 rw[e1]at e;cases hs:aJ x s with
 | none=>simp[hs]at e
 | some s' =>
  refine⟨s',rfl,⟨by simpa using hnd,λk hk=>hlt k (by simpa using hk),?_⟩⟩;rw[Array.toList_push,List.filterMap_append,List.foldlM_append,h.fold,e1];simp[hs]
theorem Seen.size{l:List ξ}{aJ:ξ->γ->Option γ}{s0 s:γ}{seen:Array Nat}(h:Seen l aJ s0 seen s):seen.size<=l.length:=by
 have p:(seen.toList++(List.range l.length).filter (λk => !seen.toList.contains k)).Perm (List.range l.length):=by
  refine uE ?_ ?_ ?_
  ·rw[List.nodup_append];refine⟨h.nd,List.nodup_range.filter _,λa ha b hb => ?_⟩;intro e;subst e;have:=(List.mem_filter.1 hb).2;simp at this ha;exact this ha
  ·intro k hk;rcases List.mem_append.1 hk with hk | hk
   ·exact h.lt k hk
   ·exact List.mem_range.1 (List.mem_filter.1 hk).1
  ·intro k hk;by_cases c:k∈seen.toList
   ·exact List.mem_append.2 (.inl c)
   ·refine List.mem_append.2 (.inr (List.mem_filter.2 ⟨List.mem_range.2 hk,?_⟩))
    simpa using c
 have h1:=p.length_eq;simp at h1;omega
end
theorem MX{ξ γ:Type}{c:Code}(m:List ξ)(aJ:ξ->γ->Option γ)(s0:γ)(afu:Array Nat->γ->Act->World->Prop)(h0:afu #[] s0 a w)
 (round:∀seen s a w,Seen m aJ s0 seen s->afu seen s a w->c.wp P (Exit.then (λa w =>∃i s',Seen m aJ s0 (seen.push i) s'/\afu (seen.push i) s' a w) Q) a w):(Code.loop c).wp P Q a w:=by
 refine dQ (λx:Array Nat×γ=>m.length-x.1.size) (λx a w=>Seen m aJ s0 x.1 x.2/\afu x.1 x.2 a w) (#[],s0) ⟨Seen.nil,h0⟩ ?_
 rintro ⟨seen,s⟩ a w ⟨hs,hI⟩
 refine Code.wp_mono (λe a w q => ?_) (round seen s a w hs hI);cases e with
 | normal =>
  obtain⟨i,s',h1,h2⟩:=q;refine⟨(seen.push i,s'),⟨h1,h2⟩,?_⟩;have:=h1.size;simp at this⊢;omega
 | _=>exact q
def Gs(it b n:Nat)(seen:Array Nat):bj:=pts it (.mapIter (some b) n seen n)
theorem RY{x:Operand}(hw:tN o ops a)(hd:o.dst=some d)(hn:Nat.blt d n=true)(hr:cS Df n (lk l j) a)(ho:o.op= .range t x)(hx:eO (lk l j) x= .map (some b))(ht:P.underlying t=some (.map kt et))
 (hF:Fit z (aC (mapOf ek ev b m::L)) w)
 (k:∀it w a,Fit z (aC (Gs it b m.length #[]::mapOf ek ev b m::L)) w->cS Df n (lk ((d,.pointer (some ⟨it,0,none⟩))::l) j) a->wpList P ops Q rest a w):wpList P ops Q (o::rest) a w:=by
 refine qW hw hd hn hr (w1:=w.alloc (.mapIter (some b) m.length #[] m.length)) (v:=.pointer (some ⟨w.heap.size,0,none⟩)) ?_ λa IB=>k _ _ a (hF.alloc _) IB;have h:=run_range_map (P:=P) w t kt et b (rE ek ev m 0).toArray m.length ht hF.block;unfold execOp;simp[ho,hx,h]
theorem C9(m:List (α×β))(k i:Nat):(rE ek ev m k)[i]? = (m[i]?).map λp=>{key:=.agg (ek p.1).toArray,val:=.agg (ev p.2).toArray,born:=k+i}:=by
 unfold rE;rw[List.getElem?_map,List.getElem?_zipIdx];cases m[i]? <;> rfl
theorem KV{m:List (α×β)}{x:MapEntry}(h:x∈rE ek ev m 0) :∃p,m[x.born]? = some p/\x={key:=.agg (ek p.1).toArray,val:=.agg (ev p.2).toArray,born:=x.born}:=by
 obtain⟨i,hi⟩:=List.getElem?_of_mem h;rw[C9]at hi;cases hm:m[i]? with
 | none=>simp[hm]at hi
 | some p =>
  simp[hm]at hi;subst hi;exact⟨p,hm,rfl⟩
theorem UL{x:Operand}{it n0:Nat}{seen:Array Nat}(hw:tN o ops a)(hd:o.dst=some d)(hn:Nat.blt d n=true)(hr:cS Df n (lk l j) a)(ho:o.op= .next x false)(hx:eO (lk l j) x= .pointer (some ⟨it,0,none⟩))(Ho:n0=m.length)
 (hF:Fit z (aC (Gs it b n0 seen::mapOf ek ev b m::L)) w)
 (k0:(∀i,i<m.length->i∈seen.toList)->∀a,cS Df n (lk ((d,.tuple #[.bool false])::l) j) a->wpList P ops Q rest a w)
 (k1:∀i x w a,m[i]? = some x->i∉seen.toList->Fit z (aC (Gs it b n0 (seen.push i)::mapOf ek ev b m::L)) w->cS Df n (lk ((d,.tuple #[.bool true,.agg (ek x.1).toArray,.agg (ev x.2).toArray])::l) j) a->wpList P ops Q rest a w):wpList P ops Q (o::rest) a w:=by
 subst Ho;have hb1:(getObj it).run P w= .ok (.mapIter (some b) m.length seen m.length) w:=by simp[getObj,Sem.run,hF.block]
 have hb2:(getObj b).run P w= .ok (.map (rE ek ev m 0).toArray m.length) w:=Oa (hF.pick 1).block;have hold:∀x∈(rE ek ev m 0).toArray.toList,x.born<m.length:=λx hx=>by
  obtain⟨p,hp,_⟩:=KV (by simpa using hx);exact(List.getElem?_eq_some_iff.1 hp).1
 have aaH:=next_test_false seen (rE ek ev m 0).toArray m.length m.length hold (j9 _);have acZ:∀(w:World) o',w.heap[it]? = some (.mapIter (some b) m.length seen m.length)->(setObj it o').run P w= .ok () {w with heap:=w.heap.setIfInBounds it o' }:=λw o' h=>by simp[setObj,Sem.run,h]
 have hmem:∀x∈(Array.filter (λe => !seen.contains e.born) (rE ek ev m 0).toArray).toList,x.born<m.length:=λx hx=>hold x (by simp at hx⊢;exact hx.1);have hsrc:∀x∈(Array.filter (λe => !seen.contains e.born) (rE ek ev m 0).toArray).toList,∃p,m[x.born]? = some p/\x.born∉seen.toList/\x={key:=.agg (ek p.1).toArray,val:=.agg (ev p.2).toArray,born:=x.born}:=λx hx=>by
  simp at hx;obtain⟨p,h1,h2⟩:=KV hx.1;exact⟨p,h1,by simpa using hx.2,h2⟩
 have yD:(Array.filter (λe => !seen.contains e.born) (rE ek ev m 0).toArray).size=0->∀i,i<m.length->i∈seen.toList:=by
  intro h0 i hi;have h1:Array.filter (λe => !seen.contains e.born) (rE ek ev m 0).toArray=#[]:=Array.eq_empty_of_size_eq_zero h0;rw[Array.filter_eq_empty_iff]at h1;have h2:=h1 {key:=.agg (ek m[i].1).toArray,val:=.agg (ev m[i].2).toArray,born:=i} (by
   have:(rE ek ev m 0)[i]? = some {key:=.agg (ek m[i].1).toArray,val:=.agg (ev m[i].2).toArray,born:=i}:=by rw[C9,List.getElem?_eq_getElem hi];simp
   simpa using List.mem_of_getElem? this)
  simpa using h2
 have hrun:∀ty,(∃i x w1,m[i]? = some x/\i∉seen.toList/\Fit z (aC (Gs it b m.length (seen.push i)::mapOf ek ev b m::L)) w1/\(Instr.next (.pointer (some ⟨it,0,none⟩)) false ty).run P w= .ok (.tuple #[.bool true,.agg (ek x.1).toArray,.agg (ev x.2).toArray]) w1)∨
  ((∀i,i<m.length->i∈seen.toList)/\(Instr.next (.pointer (some ⟨it,0,none⟩)) false ty).run P w= .ok (.tuple #[.bool false]) w):=by
  intro ty;simp only[Instr.next,ng,hb1,hb2,nh,aaH,Ix,if_false];generalize Array.filter (λe => !seen.contains e.born) (rE ek ev m 0).toArray=K at hmem hsrc yD⊢;have e1:K.filter (λx=>decide (x.born<m.length))=K:=Array.filter_eq_self.2 (λx hx=>by simpa using hmem x (by simpa using hx));have e2:K.filter (λx=>decide (x.born>=m.length))=#[]:=by
   rw[Array.filter_eq_empty_iff];intro x hx;have:=hmem x (by simpa using hx);simp;omega
  simp only[e1,e2,Array.append_empty];by_cases h0:K.size=0
  ·right
   have h1:K=#[]:=Array.eq_empty_of_size_eq_zero h0;refine⟨yD h0,?_⟩;subst h1;simp[choose,Sem.run,Question.forced]
  ·left
   have hne:K.isEmpty=false:=by simp[Array.isEmpty,h0]
   simp only[hne,Ix,if_false,Array.empty_append,Array.size_map];have hch :∃(q:Nat) (w1:World),q<K.size/\(w1=w∨w1=w.drew)/\(choose (Question.mapNext K.size)).run P w= .ok q w1:=by
    by_cases hf:K.size<=1
    ·exact⟨0,w,aB,.inl rfl,by simp[choose,Sem.run,Question.forced,hf]⟩
    ·exact⟨_,w.drew,Nat.mod_lt _ aB,.inr rfl,by
      simp only[choose,Sem.run,Question.forced,AE,hf,if_false,Question.cut]
      rfl⟩
   obtain⟨q,w1,hq,hw1,hrun⟩:=hch;obtain⟨p,hp1,hp2,hp3⟩:=hsrc K[q] (by simp);have hF1:Fit z (aC (Gs it b m.length seen::mapOf ek ev b m::L)) w1:=by
    rcases hw1 with rfl | rfl
    ·exact hF
    ·exact hF.drew
   refine⟨K[q].born,p,_,hp1,hp2,Ot (o':=.mapIter (some b) m.length (seen.push K[q].born) m.length) hF1,?_⟩;have hkey:K[q].key= .agg (ek p.1).toArray:=by rw[hp3]
   have hval:K[q].val= .agg (ev p.2).toArray:=by rw[hp3]
   simp only[hrun,Array.getElem?_map,Array.getElem?_eq_getElem hq,ux,ng,acZ w1 _ hF1.block,nh,hkey,hval]
   rfl
 refine vW hw ?_;unfold Oper.wp;rcases hrun o.type with ⟨i,y,w1,h1,h2,h3,h4⟩ | ⟨h1,h4⟩
 ·have h5:(execOp (eO (lk l j)) o).run P w= .ok (.value (.tuple #[.bool true,.agg (ek y.1).toArray,.agg (ev y.2).toArray])) w1:=by
   unfold execOp;simp[ho,hx,h4]
  rw[hr.eval,h5,Oper.upon_value,hd];exact k1 i y w1 _ h1 h2 h3 (hr.put d _ hn)
 ·have h5:(execOp (eO (lk l j)) o).run P w= .ok (.value (.tuple #[.bool false])) w:=by
   unfold execOp;simp[ho,hx,h4]
  rw[hr.eval,h5,Oper.upon_value,hd];exact k0 h1 _ (hr.put d _ hn)
theorem RZ{x:Operand}{it n0 i:Nat}{seen:Array Nat}{p:α×β}(hw:tN o ops a)(hd:o.dst=some d)(hn:Nat.blt d n=true)(hr:cS Df n (lk l j) a)(ho:o.op= .entry x)(hx:eO (lk l j) x= .pointer (some ⟨it,0,none⟩))(Ho:n0=m.length)
 (hF:Fit z (aC (Gs it b n0 (seen.push i)::mapOf ek ev b m::L)) w) (hp:m[i]? = some p)
 (k:∀a,cS Df n (lk ((d,.tuple #[.agg (ek p.1).toArray,.agg (ev p.2).toArray])::l) j) a->wpList P ops Q rest a w):wpList P ops Q (o::rest) a w:=by
 subst Ho;have hb1:(getObj it).run P w= .ok (.mapIter (some b) m.length (seen.push i) m.length) w:=by simp[getObj,Sem.run,hF.block]
 have hb2:(getObj b).run P w= .ok (.map (rE ek ev m 0).toArray m.length) w:=Oa (hF.pick 1).block;have hf:(rE ek ev m 0).toArray.find? (·.born==i)=some {key:=.agg (ek p.1).toArray,val:=.agg (ev p.2).toArray,born:=i}:=by
  rw[<-Array.find?_toList,Iu];have hmem:{key:=.agg (ek p.1).toArray,val:=.agg (ev p.2).toArray,born:=i}∈rE ek ev m 0:=List.mem_of_getElem? (i:=i) (by rw[C9,hp];simp);have hnd:((rE ek ev m 0).map (·.born)).Nodup:=by
   have e:(rE ek ev m 0).map (·.born)=List.range m.length:=by
    apply yu
    intro k;rw[List.getElem?_map,C9];by_cases c:k<m.length
    ·simp[List.getElem?_eq_getElem c,List.getElem?_range c]
    ·rw[List.getElem?_eq_none aB,List.getElem?_eq_none (by simpa using c)];rfl
   rw[e];exact List.nodup_range
  exact find_born _ _ hnd hmem
 refine qW hw hd hn hr (w1:=w) ?_ k;unfold execOp;have h:(Instr.entry (.pointer (some ⟨it,0,none⟩))).run P w= .ok (.tuple #[.agg (ek p.1).toArray,.agg (ev p.2).toArray]) w:=by
  simp only[Instr.entry,ng,hb1,hb2,nh,Array.back?_push,bne_self_eq_false,Ix,if_false,hf]
  rfl
 simp[ho,hx,h]
end
open Go Go.RowKit SL Go.MuLone Go.Conc.Locks
section
variable {P:Program}{ops:Array Oper}{Q:Exit->Act->World->Prop}{a:Act}{w w0 w1 z:World}{rest:List Oper}{o:Oper}{n d t:Nat}{v r afv:Value}{l:List (Nat×Value)}{j e:Nat->Value}{L:List bj}{Df:List Deferred}{f:FuncId}{args:Array Value}
theorem R0{q:Deferred}(hw:tN o ops a)(hd:o.dst=none)(hr:cS Df n (lk l j) a)(hrun:(execOp (eO (lk l j)) o).run P w= .ok (.defer q) w)
 (k:∀a,cS (q::Df) n (lk l j) a->wpList P ops Q rest a w):wpList P ops Q (o::rest) a w:=by
 refine vW hw ?_;unfold Oper.wp;rw[hr.eval,hrun,Oper.upon_defer,hd];exact k _ ⟨hr.size,hr.get,by show _::a.defers=_;rw[hr.defers]⟩
theorem Xw{fn:Func}{c:Code}{afw:Ending->World->Prop}(hf:P.funcs[f]? = some fn)(hb:fn.body=some c)(n:Nat)(hn:fn.ntmps=n)(hs:Nat.ble args.size n=true)
 (l:List (Nat×Value)) (hl:allEq (λt=>args.getD t undef) l) (k:∀j a,kH n (lk l j) a->c.wp P (bodyPostD P fn afw) a w):Calls P f args w afw:=by
 refine calls_of_wp_defers hf hb (k (λt=>args.getD t undef) _ ?_);rw[u6 hl];refine⟨?_,λt=>F9 args _ t,rfl⟩;have:=oI hs;simp[hn];omega
end
open Go Go.RowKit SL
section
variable {P:Program}{w w0 w1 z:World}{a:Act}{o:Oper}{n d:Nat}{l:List (Nat×Value)}{j:Nat->Value}{L:List bj}{f:FuncId}{args:Array Value}{Q:Exit->Act->List Frame->World->Prop}{cs cs':List Frame}{Df:List Deferred}
theorem R3{fn:Func}{c:Code}{afv:FrameMode}{afw:Ending->FrameMode->World->Prop}(hf:P.funcs[f]? = some fn)(hb:fn.body=some c)(n:Nat)(hn:fn.ntmps=n)(hs:Nat.ble args.size n=true)
 (l:List (Nat×Value)) (hl:allEq (λt=>args.getD t undef) l) (k:∀(c0:Frame) (cs:List Frame) j a,c0.mode=afv->kH n (lk l j) a->c.wpS P (bodyPostS P fn c0 cs afw) a (c0::cs) w):CallsD P f args afv w afw:=by
 refine callsD_of_wpS hf hb λc0 cs hu=>k c0 cs (λt=>args.getD t undef) _ hu ?_;rw[u6 hl];refine⟨?_,λt=>F9 args _ t,rfl⟩;have:=oI hs;simp[hn];omega
theorem KW(hg:o.guard=none)(y:Nat->Option Bool):Region.wanted o y=true:=by simp[Region.wanted,hg]
theorem Wq{RA:Nat}{y:Code}{v:Value}(hr:cS Df n (lk l j) a)(hv:recoverD cs=some (v,cs')∨recoverD cs=none/\v= .nilIface/\cs'=cs)(k:∀a,cS Df n (lk ((d,v)::l) j) a->y.wpS P Q a cs' w)
 (hg:o.guard=none) (hd:o.dst=some d) (hn:Nat.blt d n=true) (hrun:(execOp (eO (lk l j)) o).run P w= .ok .recover w):(Code.seq (.region RA #[o] false) y).wpS P Q a cs w:=by
 refine wpS_seq (wpS_region ?_);have e:(List.range (#[o]:Array Oper).size)=[0]:=rfl;rw[e];simp only[wpOpsS,List.getElem?_toArray,List.getElem?_cons_zero];rw[KW hg,aW rfl,hr.eval,hrun];simp only;rcases hv with h | ⟨h,rfl,rfl⟩
 ·rw[h];simp only;rw[hd];exact k _ (hr.put d v hn)
 ·rw[h];simp only;rw[hd];exact k _ (hr.put d _ hn)
end
theorem UM{z w:World}{L:List bj}{b:Nat}{x y k x0 y0 k0:Int}(h:Fit z (aC (pts b (.cells #[Z x0,Z y0,Z k0] 81)::L)) w) :
 CallsD Tryz.prog 87 #[.pointer (some ⟨b,0,none⟩)] (.panicking [{v:=.iface 171 (.agg #[Z x,Z y,Z k]),recovered:=false}]) w λe u' w'=>e= .returned (.tuple #[])/\u'= .panicking [{v:=.iface 171 (.agg #[Z x,Z y,Z k]),recovered:=true}]/\Fit z (aC (pts b (.cells #[Z x,Z y,Z k] 81)::L)) w':=by
 refine R3 func87 rfl 12 rfl rfl [(0,u b 0)] ⟨rfl,bx⟩ ?_;intro c0 cs j a hm hr;refine Wq (v:=.iface 171 (.agg #[Z x,Z y,Z k])) (cs':={c0 with mode:=.panicking [{v:=.iface 171 (.agg #[Z x,Z y,Z k]),recovered:=true}]}::cs) hr (.inl (by simp[recoverD,hm])) ?_ rfl rfl rfl aK;clear hr a;intro a hr;refine wpS_of_wp ?_;refine wp_block ?_;refine sr ?_;refine o1 hr (R false) λa hr => ?_;refine ln ?_;refine iT hr (b:=false) rfl ?_;refine sr ?_;refine oo [7,8,9] [.tuple #[.agg #[Z x,Z y,Z k],R true],R true,.agg #[Z x,Z y,Z k]] hr λa hr => ?_;refine ln ?_;refine dX hr (b:=true) rfl ?_;refine sr ?_;refine Xt (wn rfl) hr h nb (#[Z 0,Z 0,Z 0]) 171 λb2 w a h hr => ?_;refine UA (wn rfl) hr h 0 ([Z x,Z y,Z k]) (pts b2 (.cells #[Z x,Z y,Z k] 171)) λw h => ?_;refine ln ?_;refine wp_region_lit ?_;refine o1 hr (u b2 0) λa hr => ?_;refine ldm (wn rfl) hr (.agg #[Z x,Z y,Z k]) (cs:=[Z x,Z y,Z k]) (h.held 0 rfl) λa hr => ?_;replace h:=h.m1;refine UA (wn rfl) hr h 0 ([Z x,Z y,Z k]) (pts b (.cells #[Z x,Z y,Z k] 81)) λw h => ?_;refine wpList_nil ?_;refine F6 ?_;exact⟨hr.defers,_,rfl,_,results_none rfl _ _ _,rfl,rfl,h.se 2 [0]⟩
theorem UN{w:World}{b:Nat} :
 CallsD Tryz.prog 87 #[.pointer (some ⟨b,0,none⟩)] .returning w λe u' w'=>e= .returned (.tuple #[])/\u'= .returning/\w'=w:=by
 refine R3 func87 rfl 12 rfl rfl [(0,u b 0)] ⟨rfl,bx⟩ ?_;intro c0 cs j a hm hr;refine Wq (v:=.nilIface) (cs':=c0::cs) hr (.inr ⟨by simp[recoverD,hm],rfl,rfl⟩) ?_ rfl rfl rfl aK;clear hr a;intro a hr;refine wpS_of_wp ?_;refine wp_block ?_;refine sr ?_;refine o1 hr (R true) λa hr => ?_;refine ln ?_;refine dX hr (b:=true) rfl ?_;refine wp_region_lit ?_;refine o1 hr (.nilIface) λa hr => ?_;refine wpList_nil ?_;refine F6 ?_;refine⟨hr.defers,c0.mode,rfl,_,results_none rfl _ _ _,rfl,hm,rfl⟩
section
variable {P:Program}{w z:World}{a:Act}{n:Nat}{e:Nat->Value}{Df:List Deferred}{L:List bj}
theorem aaI{fn:Func}{t T b off:Nat}{cs:List Value}(hres:fn.results=#[.cell t T])(hr:cS Df n e a)(hv:e t= .pointer (some ⟨b,off,none⟩))(hu:tS (P.underlying T)=true)
 (hs:(P.info? T).map (·.size)=some cs.length) (hc:qK w b off cs):(results fn a.tmps).run P w= .ok (.agg cs.toArray) w:=by
 have hl:=run_loadCells_list (P:=P) w ⟨b,off,none⟩ cs (wm hc);cases hi:P.info? T with
 | none=>simp[hi]at hs
 | some q =>
  simp[hi]at hs;have hg:=hr.get t;rw[hv,xm]at hg;simp[results,hres,hg,asAddr,loadVar,uQ hu,sizeOf,typeInfo,hi,hs,hl]
abbrev KX(b:Nat):Deferred:={target:=.fn (.func 87) #[.pointer (some ⟨b,0,none⟩)],args:=#[]}
theorem Ou{b:Nat}{w:World}:(invoke (.fn (.func 87) #[.pointer (some ⟨b,0,none⟩)]) #[]).run Tryz.prog w= .ok (.enter 87 #[.pointer (some ⟨b,0,none⟩)]) w:=by kernel_rfl
theorem zi{fn:Func}{afw:Ending->World->Prop}{b t:Nat}{x y k:Int}(hr:cS [KX b] n e a)(hres:fn.results=#[.cell t 81])(hv:e t= .pointer (some ⟨b,0,none⟩))(h:Fit z (aC (pts b (.cells #[Z x,Z y,Z k] 81)::L)) w)
 (K:afw (.returned (.agg #[Z x,Z y,Z k])) w):bodyPostD Tryz.prog fn afw .ret a w:=by
 show Leaves Tryz.prog fn a.tmps afw a.defers .returning w;rw[hr.defers];refine leaves_cons (by simp) Ou ?_;refine UN.mono ?_
 rintro e u' w' ⟨rfl,rfl,rfl⟩
 exact⟨_,aaI hres hr hv aK aK (h.held 0 (xs:=[Z x,Z y,Z k]) rfl),K⟩
theorem Gt{fn:Func}{afw:Ending->World->Prop}{b t:Nat}{x y k x0 y0 k0:Int}(hr:cS [KX b] n e a)(hres:fn.results=#[.cell t 81])(hv:e t= .pointer (some ⟨b,0,none⟩))(h:Fit z (aC (pts b (.cells #[Z x0,Z y0,Z k0] 81)::L)) w)
 (K:∀w,Fit z (aC (pts b (.cells #[Z x,Z y,Z k] 81)::L)) w->afw (.returned (.agg #[Z x,Z y,Z k])) w):bodyPostD Tryz.prog fn afw (.panic [{v:=.iface 171 (.agg #[Z x,Z y,Z k]),recovered:=false}]) a w:=by
 show Leaves Tryz.prog fn a.tmps afw a.defers (.panicking [{v:=.iface 171 (.agg #[Z x,Z y,Z k]),recovered:=false}]) w;rw[hr.defers];refine leaves_cons (by simp) Ou ?_;refine(UM h).mono ?_
 rintro e u' w' ⟨rfl,rfl,h⟩
 exact⟨_,aaI hres hr hv aK aK (h.held 0 (xs:=[Z x,Z y,Z k]) rfl),K _ h⟩
end
def dn(o:Oper):Nat:=o.dst.getD 0
def Cx(o:Oper)(n:Nat):Bool:=match o.dst with | some d=>o.guard.isNone&&Nat.blt d n | none=>false
def Zs(o:Oper)(n:Nat):Bool:=match o.dst with | some d=>Nat.blt d n | none=>false
theorem Ov{o:Oper}{n:Nat}(h:Zs o n=true):o.dst=some (dn o)/\Nat.blt (dn o) n=true:=by
 unfold Zs at h;unfold dn;cases hd:o.dst with
 | none=>rw[hd]at h;cases h
 | some d=>rw[hd]at h;exact⟨rfl,h⟩
theorem ji{o:Oper}{n:Nat}(h:Cx o n=true):(o.dst=some (dn o)/\Nat.blt (dn o) n=true)/\o.guard=none:=by
 unfold Cx at h;unfold dn;cases hd:o.dst with
 | none=>rw[hd]at h;cases h
 | some d =>
  rw[hd]at h;simp only[lV]at h;refine⟨⟨rfl,h.2⟩,?_⟩;cases hg:o.guard with
  | none=>rfl
  | some g=>rw[hg]at h;simp at h
def UO:Nat->List Value->List (Nat×Value)
 | _,[]=>[]
 | k,v::vs=>(k,v)::UO (k+1) vs
theorem Ow(f:Nat->Value):∀(vs:List Value) (k:Nat),(∀i,i<vs.length->f (k+i)=vs.getD i undef)->allEq f (UO k vs)
 | [],_,_=>trivial
 | v::vs,k,h=>⟨by have:=h 0 (by simp);simpa using this,Ow f vs (k+1) λi hi=>by
  have:=h (i+1) (by simpa using hi);rw[show k+(i+1)=k+1+i by omega]at this
  simpa using this⟩
section
variable {P:Program}{ops:Array Oper}{Q:Exit->Act->World->Prop}{a:Act}{w w0 w1:World}{rest:List Oper}{o:Oper}{n d t T:Nat}{v afv:Value}{l:List (Nat×Value)}{j e:Nat->Value}{L:List bj}{Df:List Deferred}
theorem qe{f:FuncId}{fn:Func}{c:Code}{args:Array Value}{afw:Ending->World->Prop}(hf:P.funcs[f]? = some fn)(n:Nat)(hb:fn.body=some c)
 (k:∀j a,kH n (lk (UO 0 args.toList) j) a->c.wp P (bodyPost P fn afw) a w) (hn:fn.ntmps=n:=by rfl) (hs:Nat.ble args.size n=true:=by rfl):Calls P f args w afw:=
 enter hf hb n hn hs _ (Ow _ _ 0 λi hi=>by simp[xm,List.getD_eq_getElem?_getD]) k
theorem qo(hr:cS Df n (lk l j) a)(v:Value)(k:∀a,cS Df n (lk ((dn o,v)::l) j) a->wpList P ops Q rest a w)(ho:Cx o n=true:=by rfl)(hrun:(execOp (eO (lk l j)) o).run P w= .ok (.value v) w:=by kernel_rfl):wpList P ops Q (o::rest) a w:=
 zd (wn (ji ho).2) (ji ho).1.1 (ji ho).1.2 hr hrun k
theorem qp(hr:cS Df n (lk l j) a)(v:Value)(hrun:(execOp (eO (lk l j)) o).run P w= .ok (.value v) w)(k:∀a,cS Df n (lk ((dn o,v)::l) j) a->wpList P ops Q rest a w)(ho:Cx o n=true:=by rfl):wpList P ops Q (o::rest) a w:=
 zd (wn (ji ho).2) (ji ho).1.1 (ji ho).1.2 hr hrun k
theorem qpg(hw:tN o ops a)(hr:cS Df n (lk l j) a)(v:Value)(hrun:(execOp (eO (lk l j)) o).run P w= .ok (.value v) w)(k:∀a,cS Df n (lk ((dn o,v)::l) j) a->wpList P ops Q rest a w)(ho:Zs o n=true:=by rfl):wpList P ops Q (o::rest) a w:=
 zd hw (Ov ho).1 (Ov ho).2 hr hrun k
theorem qT{b:Bool}{c x y:Operand}(hb:b=true)(hr:cS Df n (lk l j) a)(v:Value)(k:∀a,cS Df n (lk ((dn o,v)::l) j) a->wpList P ops Q rest a w)(ho:Cx o n=true:=by rfl)(h1:o.op= .pick c x y:=by rfl)(h2:eO (lk l j) c= .bool b:=by kernel_rfl)(h3:eO (lk l j) x=v:=by kernel_rfl):wpList P ops Q (o::rest) a w:=
 qp hr v (qX h1 h2 hb h3) k ho
theorem qF{b:Bool}{c x y:Operand}(hb:b=false)(hr:cS Df n (lk l j) a)(v:Value)(k:∀a,cS Df n (lk ((dn o,v)::l) j) a->wpList P ops Q rest a w)(ho:Cx o n=true:=by rfl)(h1:o.op= .pick c x y:=by rfl)(h2:eO (lk l j) c= .bool b:=by kernel_rfl)(h3:eO (lk l j) y=v:=by kernel_rfl):wpList P ops Q (o::rest) a w:=
 qp hr v (nI h1 h2 hb h3) k ho
theorem getD_some{cs:Array Value}{i:Nat}(h:Nat.blt i cs.size=true):cs[i]? = some (cs.getD i undef):=by
 have h':i<cs.size:=oI h;simp[xm,h']
theorem qL{b:Nat}{cs:Array Value}{T':TypeId}{q:Nat×Nat}{x:Operand}(hr:cS Df n (lk l j) a)(hF:Fit w0 (aC (pts b (.cells cs T' q)::L)) w)(i:Nat)(k:∀a,cS Df n (lk ((dn o,cs.getD i undef)::l) j) a->wpList P ops Q rest a w)
 (h1:Cx o n=true:=by rfl) (hi:Nat.blt i cs.size=true:=by rfl) (ho:o.op= .load T x:=by rfl) (hx:eO (lk l j) x= .pointer (some ⟨b,i,none⟩):=by kernel_rfl) (hu:wH (P.underlying T)=true:=by kernel_rfl):wpList P ops Q (o::rest) a w:=
 qp hr _ (rl ho hx hu (hF.cell i (getD_some hi))) k h1
theorem qLg{b:Nat}{cs:Array Value}{T':TypeId}{q:Nat×Nat}{x:Operand}(hw:tN o ops a)(hr:cS Df n (lk l j) a)(hF:Fit w0 (aC (pts b (.cells cs T' q)::L)) w)(i:Nat)(k:∀a,cS Df n (lk ((dn o,cs.getD i undef)::l) j) a->wpList P ops Q rest a w)
 (h1:Zs o n=true:=by rfl) (hi:Nat.blt i cs.size=true:=by rfl) (ho:o.op= .load T x:=by rfl) (hx:eO (lk l j) x= .pointer (some ⟨b,i,none⟩):=by kernel_rfl) (hu:wH (P.underlying T)=true:=by kernel_rfl):wpList P ops Q (o::rest) a w:=
 qpg hw hr _ (rl ho hx hu (hF.cell i (getD_some hi))) k h1
theorem KY{cs:Array Value}:(cs.toList.drop 0).take cs.toList.length=cs.toList:=by rw[ni];exact List.take_length
theorem qM{b:Nat}{cs:Array Value}{T':TypeId}{q:Nat×Nat}{x:Operand}(hr:cS Df n (lk l j) a)(hF:Fit w0 (aC (pts b (.cells cs T' q)::L)) w)(k:∀a,cS Df n (lk ((dn o,.agg cs)::l) j) a->wpList P ops Q rest a w)
 (h1:Cx o n=true:=by rfl) (ho:o.op= .load T x:=by rfl) (hx:eO (lk l j) x= .pointer (some ⟨b,0,none⟩):=by kernel_rfl) (hu:tS (P.underlying T)=true:=by kernel_rfl) (hs:(P.info? T).map (·.size)=some cs.size:=by kernel_rfl):wpList P ops Q (o::rest) a w:=
 qp hr _ (by have:=rlm (P:=P) (o:=o) (e:=lk l j) ho hx hu (by rw[tQ];exact hs) (hF.held 0 KY);simpa using this) k h1
theorem qN(hr:cS Df n (lk l j) a)(hF:Fit w0 (aC L) w)(cs:Array Value)(T:TypeId)
 (k:∀b w1 a,Fit w0 (aC (pts b (.cells cs T)::L)) w1->cS Df n (lk ((dn o,u b 0)::l) j) a->wpList P ops Q rest a w1) (h1:Cx o n=true:=by rfl) (hrun:(execOp (eO (lk l j)) o).run P w= .ok (.value (u w.heap.size 0)) (w.alloc (.cells cs T)):=by kernel_rfl):wpList P ops Q (o::rest) a w:=
 MQ (vf:=λb=>u b 0) (wn (ji h1).2) (ji h1).1.1 (ji h1).1.2 hr hF hrun k
theorem qV(hr:cS Df n (lk l j) a)(hF:Fit w0 (aC L) w)(cs:Array Value)(T:TypeId)
 (k:∀b w1 a,Fit w0 (aC (pts b (.cells cs T)::L)) w1->cS Df n (lk ((dn o,.slice (some ⟨b,0,none⟩) 1 1)::l) j) a->wpList P ops Q rest a w1) (h1:Cx o n=true:=by rfl) (hrun:(execOp (eO (lk l j)) o).run P w= .ok (.value (.slice (some ⟨w.heap.size,0,none⟩) 1 1)) (w.alloc (.cells cs T)):=by kernel_rfl):wpList P ops Q (o::rest) a w:=
 MQ (vf:=λb=>.slice (some ⟨b,0,none⟩) 1 1) (wn (ji h1).2) (ji h1).1.1 (ji h1).1.2 hr hF hrun k
theorem qS{x y:Operand}{b:Nat}{cs:Array Value}{T':TypeId}(hr:cS Df n (lk l j) a)(hF:Fit w0 (aC (pts b (.cells cs T')::L)) w)(i:Nat)(A:bj)
 (k:∀w1,Fit w0 (aC (A::L)) w1->wpList P ops Q rest a w1) (hg:o.guard=none:=by rfl) (hd:o.dst=none:=by rfl) (ho:o.op= .store T x y:=by rfl) (hx:eO (lk l j) x= .pointer (some ⟨b,i,none⟩):=by kernel_rfl)
 (hv:(eO (lk l j) y).cells=#[eO (lk l j) y]:=by kernel_rfl) (h1:(eO (lk l j) y).oneCell'=true:=by kernel_rfl) (hs:(P.info? T).map (·.size)=some 1:=by kernel_rfl) (hc:(cs[i]?).isSome=true:=by kernel_rfl) (hA:pts b (.cells (cs.setIfInBounds i (eO (lk l j) y)) T')=A:=by kernel_rfl):wpList P ops Q (o::rest) a w:=
 st1 (wn hg) hr hF i _ A k hd ho hx rfl hv h1 hs hc hA
theorem qA{x y:Operand}{b:Nat}{cs cs':Array Value}{T':TypeId}(hr:cS Df n (lk l j) a)(hF:Fit w0 (aC (pts b (.cells cs T')::L)) w)(A:bj)
 (k:∀w1,Fit w0 (aC (A::L)) w1->wpList P ops Q rest a w1) (hA:pts b (.cells cs' T')=A:=by rfl) (hg:o.guard=none:=by rfl) (hd:o.dst=none:=by rfl) (ho:o.op= .store T x y:=by rfl) (hx:eO (lk l j) x= .pointer (some ⟨b,0,none⟩):=by kernel_rfl) (hy:eO (lk l j) y= .agg cs':=by kernel_rfl)
 (h1:cs'.toList.all (·.oneCell')=true:=by rfl) (h2:cs'.size=cs.size:=by rfl) (hs:(P.info? T).map (·.size)=some cs'.size:=by kernel_rfl):wpList P ops Q (o::rest) a w:=by
 refine UA (wn hg) hr hF 0 cs'.toList A k hd ho hx (by simpa using hy) h1 (by simp[h2]) (by simpa using hs) ?_;subst hA;have:cs.toList.drop (0+cs'.toList.length)=[]:=by simp[h2]
 rw[this];simp
theorem qi{x y:Operand}{i:Int}{α:Type}{E:TypeId}{sz m cc:Nat}{enc:α->List Value}{xs:List α}{ca:fR}(hr:cS Df n (lk l j) a)(hF:Fit w0 (aC (rowOf E sz enc (.slice ca m cc) xs::L)) w)(hi:bI i xs.length)
 (k:∀a,cS Df n (lk ((dn o,u (dA ca) (i.toNat*sz))::l) j) a->wpList P ops Q rest a w) (h1:Cx o n=true:=by rfl) (ho:o.op= .indexAddr t x y:=by rfl) (hx:eO (lk l j) x= .slice ca m cc:=by kernel_rfl) (hy:eO (lk l j) y= .int .i64 i:=by kernel_rfl)
 (ht:P.underlying t=some (.slice E):=by kernel_rfl) (hs:(P.info? E).map (·.size)=some sz:=by kernel_rfl):wpList P ops Q (o::rest) a w:=qp hr _ (zg ho hx hy ht hs hF hi) k h1
theorem qj{x y:Operand}{i:Int}{α:Type}[Inhabited α]{sz:Nat}{enc:α->List Value}{xs:List α}{va:fR}{L:List bj}(E:TypeId)(cc:Nat)(hr:cS Df n (lk l j) a)(hF:bL L sz enc va xs)(hi:bI i xs.length)
 (k:∀a,cS Df n (lk ((dn o,u (dA va) (kg va+i.toNat*sz))::l) j) a->wpList P ops Q rest a w) (h1:Cx o n=true:=by rfl) (ho:o.op= .indexAddr t x y:=by rfl) (hx:eO (lk l j) x= .slice va xs.length cc:=by kernel_rfl) (hy:eO (lk l j) y= .int .i64 i:=by kernel_rfl)
 (ht:P.underlying t=some (.slice E):=by kernel_rfl) (hs:(P.info? E).map (·.size)=some sz:=by kernel_rfl):wpList P ops Q (o::rest) a w:=qp hr _ (Wj ho hx hy rfl ht hs hF hi) k h1
section
variable {fn:Func}{afw:Ending->World->Prop}
theorem qC{t T b:Nat}{cs:Array Value}{T':TypeId}{q:Nat×Nat}(hr:kH n e a)(hF:Fit w0 (aC (pts b (.cells cs T' q)::L)) w)(h:afw (.returned (.agg cs)) w)(hres:fn.results=#[.cell t T]:=by rfl)(hv:e t= .pointer (some ⟨b,0,none⟩):=by kernel_rfl)(hu:tS (P.underlying T)=true:=by kernel_rfl)
 (hs:(P.info? T).map (·.size)=some cs.size:=by kernel_rfl):bodyPost P fn afw .ret a w:=
 Rs (cs:=cs.toList) hres hr hv hu (by simpa using hs) (hF.held 0 KY) (by simpa using h)
theorem qn(hr:kH n e a)(h:afw (.returned (.tuple #[])) w)(hres:fn.results=#[]:=by rfl):bodyPost P fn afw .normal a w:=p7 hres hr h
end
end
theorem nT{b:Bool}(h:b=true):(!b)=false:=by rw[h];rfl
theorem nF{b:Bool}(h:¬b=true):(!b)=true:=by cases b<;>first | rfl | exact absurd rfl h
theorem dT{p:Prop}[Decidable p](h:p):decide p=true:=tR h
theorem dF{p:Prop}[Decidable p](h:¬p):decide p=false:=Iy h
theorem bN{α:Type}[DecidableEq α]{a b:α}(h:¬a=b):(a==b)=false:=beq_eq_false_iff_ne.mpr h
section
variable {afs:Prop}
theorem qh{A:Prop}(x:A)(k:A->afs):afs:=k x
theorem qg{γ:Type}{p:Prop}[Decidable p]{x:Option γ}{r:γ}(h:(if p then x else none)=some r)(k:p->x=some r->afs):afs:=k (gd h).1 (gd h).2
theorem qI{γ:Type}{p:Prop}[Decidable p]{x y:Option γ}{r:γ}(h:(if p then x else y)=some r)(k1:p->x=some r->afs)(k2:¬p->y=some r->afs):afs:=by
 by_cases c:p
 ·exact k1 c (ifT c h)
 ·exact k2 c (ifF c h)
theorem Xx{γ:Type}{o:Option (Unit)}{f:Option γ}{r:γ}(h:MR o f=some r)(k:o=some ()->f=some r->afs):afs:=by
 obtain⟨e,h⟩:=bd0 h;exact k e h
theorem qd0{γ:Type}{o:Option (Unit)}{f:Option γ}{r:γ}(h:MR o f=some r)(k:∀o',o=some o'->kc0 o' f r->afs):afs:=by
 obtain⟨_,e,h⟩:=kd0 h;exact k _ e h
theorem gB{dJ:Type}{γ:Type}{o:Option (dJ)}{f:dJ->Option γ}{r:γ}(h:eY o f=some r)(k:∀x0,o=some x0->f x0=some r->afs):afs:=by
 obtain⟨x0,e,h⟩:=bd1 h;exact k _ e h
theorem DV{dJ:Type}{γ:Type}{o:Option (dJ)}{f:dJ->Option γ}{r:γ}(h:eY o f=some r)(k:∀o',o=some o'->Ze o' f r->afs):afs:=by
 obtain⟨_,e,h⟩:=kd1 h;exact k _ e h
theorem wo{dJ eJ:Type}{γ:Type}{o:Option (dJ×eJ)}{f:dJ->eJ->Option γ}{r:γ}(h:sR o f=some r)(k:∀x0 x1,o=some (x0,x1)->f x0 x1=some r->afs):afs:=by
 obtain⟨x0,x1,e,h⟩:=bd2 h;exact k _ _ e h
theorem qd2{dJ eJ:Type}{γ:Type}{o:Option (dJ×eJ)}{f:dJ->eJ->Option γ}{r:γ}(h:sR o f=some r)(k:∀o',o=some o'->Zf o' f r->afs):afs:=by
 obtain⟨_,e,h⟩:=kd2 h;exact k _ e h
theorem tH{dJ eJ fS:Type}{γ:Type}{o:Option (dJ×eJ×fS)}{f:dJ->eJ->fS->Option γ}{r:γ}(h:pM o f=some r)(k:∀x0 x1 x2,o=some (x0,x1,x2)->f x0 x1 x2=some r->afs):afs:=by
 obtain⟨x0,x1,x2,e,h⟩:=bd3 h;exact k _ _ _ e h
theorem qd3{dJ eJ fS:Type}{γ:Type}{o:Option (dJ×eJ×fS)}{f:dJ->eJ->fS->Option γ}{r:γ}(h:pM o f=some r)(k:∀o',o=some o'->Zg o' f r->afs):afs:=by
 obtain⟨_,e,h⟩:=kd3 h;exact k _ e h
theorem MY{dJ eJ fS gR:Type}{γ:Type}{o:Option (dJ×eJ×fS×gR)}{f:dJ->eJ->fS->gR->Option γ}{r:γ}(h:Hq o f=some r)(k:∀x0 x1 x2 x3,o=some (x0,x1,x2,x3)->f x0 x1 x2 x3=some r->afs):afs:=by
 obtain⟨x0,x1,x2,x3,e,h⟩:=bd4 h;exact k _ _ _ _ e h
theorem qb5{dJ eJ fS gR iF:Type}{γ:Type}{o:Option (dJ×eJ×fS×gR×iF)}{f:dJ->eJ->fS->gR->iF->Option γ}{r:γ}(h:Z9 o f=some r)(k:∀x0 x1 x2 x3 x4,o=some (x0,x1,x2,x3,x4)->f x0 x1 x2 x3 x4=some r->afs):afs:=by
 obtain⟨x0,x1,x2,x3,x4,e,h⟩:=bd5 h;exact k _ _ _ _ _ e h
end
abbrev KK(D:List Deferred)(n:Nat)(l:List (Nat×Value))(j:Nat->Value)(X:Act->World->Prop)(w:World):Prop:=∀a,cS D n (lk l j) a->X a w
abbrev U:Value:=.complex .f32 0 0
def Zq(v x:Value):Value:=match v with | .complex _ _ _=>x | v=>v
def av(P:Program)(o:Oper)(e:Nat->Value):Value:=match (execOp (eO e) o).run P default with | .ok (.value v) _=>v | _=>U
def adA(P:Program)(j:Nat->Value):List Oper->List Value->List (Nat×Value)->List (Nat×Value)
 | o::os,v::vs,l=>adA P j os vs ((dn o,Zq v (av P o (lk l j)))::l)
 | _,_,l=>l
def Xy(P:Program)(n:Nat)(j:Nat->Value)(w:World):List Oper->List Value->List (Nat×Value)->List (Bool×Result Next)
 | o::os,v::vs,l=>(Cx o n,(execOp (eO (lk l j)) o).run P w)::Xy P n j w os vs ((dn o,Zq v (av P o (lk l j)))::l)
 | [],_::_,_=>[(false,.ok .skip w)]
 | _,[],_=>[]
def Xz(P:Program)(j:Nat->Value)(w:World):List Oper->List Value->List (Nat×Value)->List (Bool×Result Next)
 | o::os,v::vs,l=>(true,.ok (.value (Zq v (av P o (lk l j)))) w)::Xz P j w os vs ((dn o,Zq v (av P o (lk l j)))::l)
 | [],_::_,_=>[(true,.ok .skip w)]
 | _,[],_=>[]
def gx(ops:Array Oper)(n:Nat)(e:Nat->Value)(o:Oper):Option (Bool×Option (Bool×Value)):=o.guard.map (λg=>(g.2,((ops[g.1]?).bind (·.dst)).map λt=>(Nat.blt t n,e t)))
section
variable {P:Program}{ops:Array Oper}{Q:Exit->Act->World->Prop}{a:Act}{w w0 w1:World}{rest:List Oper}{o:Oper}{n d t T:Nat}{v afv:Value}{l:List (Nat×Value)}{j e:Nat->Value}{L:List bj}{Df:List Deferred}{X:Act->World->Prop}
theorem qq(hr:cS Df n (lk l j) a)(k:KK Df n l j X w):X a w:=k a hr
theorem kwg{x c:Bool}(hr:cS Df n (lk l j) a)(pf:x=c)(hg:gx ops n (lk l j) o=some (c,some (true,.bool x))):Region.wanted o (yielded ops a.tmps)=true:=by
 rw[wgx (i:=0) hr pf hg];cases c<;>rfl
theorem ke{f:FuncId}{fn:Func}{c:Code}{args:Array Value}{afw:Ending->World->Prop}(hf:P.funcs[f]? = some fn)(n:Nat)(hb:fn.body=some c)
 (k:∀j,KK [] n (UO 0 args.toList) j (c.wp P (bodyPost P fn afw)) w) (hn:fn.ntmps=n:=by rfl) (hs:Nat.ble args.size n=true:=by rfl):Calls P f args w afw:=qe hf n hb (λj a r=>k j a r) hn hs
theorem ks{RA:Nat}{y:Code}{os:List Oper}(h:KK Df n l j (wpList P os.toArray (Exit.then (y.wp P Q) Q) os) w):KK Df n l j ((Code.seq (.region RA os.toArray false) y).wp P Q) w:=λa r=>sr (h a r)
theorem I{K:Act->World->Prop}(h:KK Df n l j K w):KK Df n l j (wpList P ops (Exit.then K Q) []) w:=λa r=>ln (h a r)
theorem wq{x y:Code}(h:KK Df n l j (x.wp P (Exit.then (y.wp P Q) Q)) w):KK Df n l j ((Code.seq x y).wp P Q) w:=λa r=>wp_seq (h a r)
theorem wl{RA:Nat}{os:List Oper}(h:KK Df n l j (wpList P os.toArray Q os) w):KK Df n l j ((Code.region RA os.toArray false).wp P Q) w:=λa r=>wp_region_lit (h a r)
theorem wk(h:KK Df n l j (Q .normal) w):KK Df n l j (Code.skip.wp P Q) w:=λa r=>wp_skip (h a r)
theorem wr(h:KK Df n l j (Q .ret) w):KK Df n l j (Code.ret.wp P Q) w:=λa r=>wp_ret (h a r)
theorem wx{i:Nat}(h:KK Df n l j (Q (.exit i)) w):KK Df n l j ((Code.exit i).wp P Q) w:=λa r=>wp_exit (h a r)
theorem wb{i:Nat}{c:Code}(h:KK Df n l j (c.wp P (Exit.inBlock i Q)) w):KK Df n l j ((Code.block i c).wp P Q) w:=λa r=>wp_block (h a r)
theorem tn{K:Act->World->Prop}(h:KK Df n l j K w):KK Df n l j (Exit.then K Q .normal) w:=h
theorem tr{K:Act->World->Prop}(h:KK Df n l j (Q .ret) w):KK Df n l j (Exit.then K Q .ret) w:=h
theorem te{K:Act->World->Prop}{i:Nat}(h:KK Df n l j (Q (.exit i)) w):KK Df n l j (Exit.then K Q (.exit i)) w:=h
theorem bn{i:Nat}(h:KK Df n l j (Q .normal) w):KK Df n l j (Exit.inBlock i Q .normal) w:=h
theorem br{i:Nat}(h:KK Df n l j (Q .ret) w):KK Df n l j (Exit.inBlock i Q .ret) w:=h
theorem bh{i:Nat}(h:KK Df n l j (Q .normal) w):KK Df n l j (Exit.inBlock i Q (.exit i)) w:=λa r=>Rr (h a r)
theorem kl(h:KK Df n l j (Q .normal) w):KK Df n l j (wpList P ops Q []) w:=λa r=>wpList_nil (h a r)
theorem ko:∀(vs:List Value) {os:List Oper} {l:List (Nat×Value)} (k:KK Df n (adA P j os vs l) j (wpList P ops Q (os.drop vs.length)) w) (hrun:Xy P n j w os vs l=Xz P j w os vs l:=by kernel_rfl),KK Df n l j (wpList P ops Q os) w
 | [],os,l,k,_=>by cases os<;>exact k
 | v::vs,[],l,k,hrun=>by simp[Xy,Xz]at hrun
 | v::vs,o::os,l,k,hrun=>by
  simp only[Xy,Xz,List.cons.injEq,Prod.mk.injEq]at hrun;obtain⟨⟨h1,h2⟩,h3⟩:=hrun;exact λa hr=>qo hr _ (λa hr=>ko vs k h3 a hr) h1 h2
theorem kp(v:Value)(hrun:(execOp (eO (lk l j)) o).run P w= .ok (.value v) w)(k:KK Df n ((dn o,v)::l) j (wpList P ops Q rest) w)(ho:Cx o n=true:=by rfl):KK Df n l j (wpList P ops Q (o::rest)) w:=λa hr=>qp hr v hrun k ho
theorem ny{b:Bool}(hb:b=true)(v:Value)(k:KK Df n ((dn o,v)::l) j (wpList P ops Q rest) w){c x y:Operand}(ho:Cx o n=true:=by rfl)(h1:o.op= .pick c x y:=by rfl)(h2:eO (lk l j) c= .bool b:=by kernel_rfl)(h3:eO (lk l j) x=v:=by kernel_rfl):KK Df n l j (wpList P ops Q (o::rest)) w:=λa hr=>qT hb hr v k ho h1 h2 h3
theorem nv{b:Bool}(hb:b=false)(v:Value)(k:KK Df n ((dn o,v)::l) j (wpList P ops Q rest) w){c x y:Operand}(ho:Cx o n=true:=by rfl)(h1:o.op= .pick c x y:=by rfl)(h2:eO (lk l j) c= .bool b:=by kernel_rfl)(h3:eO (lk l j) y=v:=by kernel_rfl):KK Df n l j (wpList P ops Q (o::rest)) w:=λa hr=>qF hb hr v k ho h1 h2 h3
theorem kL{b:Nat}{cs:Array Value}{T':TypeId}{q:Nat×Nat}{x:Operand}(hF:Fit w0 (aC (pts b (.cells cs T' q)::L)) w)(i:Nat)(k:KK Df n ((dn o,cs.getD i undef)::l) j (wpList P ops Q rest) w)
 (h1:Cx o n=true:=by rfl) (hi:Nat.blt i cs.size=true:=by rfl) (ho:o.op= .load T x:=by rfl) (hx:eO (lk l j) x= .pointer (some ⟨b,i,none⟩):=by kernel_rfl) (hu:wH (P.underlying T)=true:=by kernel_rfl):KK Df n l j (wpList P ops Q (o::rest)) w:=λa hr=>qL hr hF i k h1 hi ho hx hu
theorem sv{c' x':Bool}{b:Nat}{cs:Array Value}{T':TypeId}{q:Nat×Nat}{x:Operand}(pf:x'=c')(hF:Fit w0 (aC (pts b (.cells cs T' q)::L)) w)(i:Nat)(k:KK Df n ((dn o,cs.getD i undef)::l) j (wpList P ops Q rest) w)
 (hg:gx ops n (lk l j) o=some (c',some (true,.bool x')):=by kernel_rfl) (h1:Zs o n=true:=by rfl) (hi:Nat.blt i cs.size=true:=by rfl) (ho:o.op= .load T x:=by rfl) (hx:eO (lk l j) x= .pointer (some ⟨b,i,none⟩):=by kernel_rfl) (hu:wH (P.underlying T)=true:=by kernel_rfl):KK Df n l j (wpList P ops Q (o::rest)) w:=λa hr=>qLg (kwg hr pf hg) hr hF i k h1 hi ho hx hu
theorem kM{b:Nat}{cs:Array Value}{T':TypeId}{q:Nat×Nat}{x:Operand}(hF:Fit w0 (aC (pts b (.cells cs T' q)::L)) w)(k:KK Df n ((dn o,.agg cs)::l) j (wpList P ops Q rest) w)
 (h1:Cx o n=true:=by rfl) (ho:o.op= .load T x:=by rfl) (hx:eO (lk l j) x= .pointer (some ⟨b,0,none⟩):=by kernel_rfl) (hu:tS (P.underlying T)=true:=by kernel_rfl) (hs:(P.info? T).map (·.size)=some cs.size:=by kernel_rfl):KK Df n l j (wpList P ops Q (o::rest)) w:=λa hr=>qM hr hF k h1 ho hx hu hs
theorem kN(hF:Fit w0 (aC L) w)(cs:Array Value)(T:TypeId)
 (k:∀b w1,Fit w0 (aC (pts b (.cells cs T)::L)) w1->KK Df n ((dn o,u b 0)::l) j (wpList P ops Q rest) w1) (h1:Cx o n=true:=by rfl) (hrun:(execOp (eO (lk l j)) o).run P w= .ok (.value (u w.heap.size 0)) (w.alloc (.cells cs T)):=by kernel_rfl):KK Df n l j (wpList P ops Q (o::rest)) w:=λa hr=>qN hr hF cs T (λb w a h r=>k b w h a r) h1 hrun
theorem kV(hF:Fit w0 (aC L) w)(cs:Array Value)(T:TypeId)
 (k:∀b w1,Fit w0 (aC (pts b (.cells cs T)::L)) w1->KK Df n ((dn o,.slice (some ⟨b,0,none⟩) 1 1)::l) j (wpList P ops Q rest) w1) (h1:Cx o n=true:=by rfl) (hrun:(execOp (eO (lk l j)) o).run P w= .ok (.value (.slice (some ⟨w.heap.size,0,none⟩) 1 1)) (w.alloc (.cells cs T)):=by kernel_rfl):KK Df n l j (wpList P ops Q (o::rest)) w:=λa hr=>qV hr hF cs T (λb w a h r=>k b w h a r) h1 hrun
theorem kS{x y:Operand}{b:Nat}{cs:Array Value}{T':TypeId}(hF:Fit w0 (aC (pts b (.cells cs T')::L)) w)(i:Nat)(A:bj)
 (k:∀w1,Fit w0 (aC (A::L)) w1->KK Df n l j (wpList P ops Q rest) w1) (hg:o.guard=none:=by rfl) (hd:o.dst=none:=by rfl) (ho:o.op= .store T x y:=by rfl) (hx:eO (lk l j) x= .pointer (some ⟨b,i,none⟩):=by kernel_rfl)
 (hv:(eO (lk l j) y).cells=#[eO (lk l j) y]:=by kernel_rfl) (h1:(eO (lk l j) y).oneCell'=true:=by kernel_rfl) (hs:(P.info? T).map (·.size)=some 1:=by kernel_rfl) (hc:(cs[i]?).isSome=true:=by kernel_rfl) (hA:pts b (.cells (cs.setIfInBounds i (eO (lk l j) y)) T')=A:=by kernel_rfl):KK Df n l j (wpList P ops Q (o::rest)) w:=λa hr=>qS hr hF i A (λw h=>k w h a hr) hg hd ho hx hv h1 hs hc hA
theorem kA{x y:Operand}{b:Nat}{cs cs':Array Value}{T':TypeId}(hF:Fit w0 (aC (pts b (.cells cs T')::L)) w)(A:bj)
 (k:∀w1,Fit w0 (aC (A::L)) w1->KK Df n l j (wpList P ops Q rest) w1) (hA:pts b (.cells cs' T')=A:=by rfl) (hg:o.guard=none:=by rfl) (hd:o.dst=none:=by rfl) (ho:o.op= .store T x y:=by rfl) (hx:eO (lk l j) x= .pointer (some ⟨b,0,none⟩):=by kernel_rfl) (hy:eO (lk l j) y= .agg cs':=by kernel_rfl)
 (h1:cs'.toList.all (·.oneCell')=true:=by rfl) (h2:cs'.size=cs.size:=by rfl) (hs:(P.info? T).map (·.size)=some cs'.size:=by kernel_rfl):KK Df n l j (wpList P ops Q (o::rest)) w:=λa hr=>qA hr hF A (λw h=>k w h a hr) hA hg hd ho hx hy h1 h2 hs
theorem ki{x y:Operand}{i:Int}{α:Type}{E:TypeId}{sz m cc:Nat}{enc:α->List Value}{xs:List α}{ca:fR}(hF:Fit w0 (aC (rowOf E sz enc (.slice ca m cc) xs::L)) w)(hi:bI i xs.length)
 (k:KK Df n ((dn o,u (dA ca) (i.toNat*sz))::l) j (wpList P ops Q rest) w) (h1:Cx o n=true:=by rfl) (ho:o.op= .indexAddr t x y:=by rfl) (hx:eO (lk l j) x= .slice ca m cc:=by kernel_rfl) (hy:eO (lk l j) y= .int .i64 i:=by kernel_rfl)
 (ht:P.underlying t=some (.slice E):=by kernel_rfl) (hs:(P.info? E).map (·.size)=some sz:=by kernel_rfl):KK Df n l j (wpList P ops Q (o::rest)) w:=λa hr=>qi hr hF hi k h1 ho hx hy ht hs
theorem kj{x y:Operand}{i:Int}{α:Type}[Inhabited α]{sz:Nat}{enc:α->List Value}{xs:List α}{va:fR}{L:List bj}(E:TypeId)(cc:Nat)(hF:bL L sz enc va xs)(hi:bI i xs.length)
 (k:KK Df n ((dn o,u (dA va) (kg va+i.toNat*sz))::l) j (wpList P ops Q rest) w) (h1:Cx o n=true:=by rfl) (ho:o.op= .indexAddr t x y:=by rfl) (hx:eO (lk l j) x= .slice va xs.length cc:=by kernel_rfl) (hy:eO (lk l j) y= .int .i64 i:=by kernel_rfl)
 (ht:P.underlying t=some (.slice E):=by kernel_rfl) (hs:(P.info? E).map (·.size)=some sz:=by kernel_rfl):KK Df n l j (wpList P ops Q (o::rest)) w:=λa hr=>qj E cc hr hF hi k h1 ho hx hy ht hs
theorem cR{x c:Bool}(pf:x=c)(ds:List Nat)(vs:List Value){os:List Oper}(k:KK Df n (Rw ds vs l) j (wpList P ops Q (os.drop ds.length)) w)
 (hl:ds.length=vs.length/\ds.all (λd=>Nat.blt d n)=true:=by exact⟨rfl,rfl⟩) (hrun:RE P ops n (os.take ds.length) vs l j w=KP x c ds vs w:=by kernel_rfl):KK Df n l j (wpList P ops Q os) w:=λa hr=>onl pf ds vs hr k hl hrun
theorem bU{x c:Bool}(pf:x=c)(ds:List Nat){os:List Oper}(k:KK Df n (RF ds l) j (wpList P ops Q (os.drop ds.length)) w)
 (hl:ds.all (λd=>Nat.blt d n)=true:=by rfl) (hrun:Jl ops n (os.take ds.length) l j=C4 (!c) (.bool x) ds:=by kernel_rfl):KK Df n l j (wpList P ops Q os) w:=λa hr=>aaE pf ds hr k hl hrun
theorem Ox(b:Bool)(ds:List Nat){os:List Oper}(k:KK Df n (RF ds l) j (wpList P ops Q (os.drop ds.length)) w)
 (hl:ds.all (λd=>Nat.blt d n)=true:=by rfl) (hrun:Jl ops n (os.take ds.length) l j=C4 b undef ds:=by kernel_rfl):KK Df n l j (wpList P ops Q os) w:=λa hr=>aaF b ds hr k hl hrun
section
variable {β:Type}{p:Prop}[Decidable p]{X afr r:Option β}{c:Operand}{x y:Code}
theorem ez(H:(if p then X else afr)=r)(k1:p->X=r->KK Df n l j (x.wp P Q) w)(k2:¬p->afr=r->KK Df n l j (y.wp P Q) w)(hc:eO (lk l j) c= .bool (decide p):=by kernel_rfl):KK Df n l j ((Code.cond c x y).wp P Q) w:=λa hr=>cD hr H (λc h=>k1 c h a hr) (λc h=>k2 c h a hr) hc
theorem qB(H:(if p then X else afr)=r)(k1:p->X=r->KK Df n l j (y.wp P Q) w)(k2:¬p->afr=r->KK Df n l j (x.wp P Q) w)(hc:eO (lk l j) c= .bool (!decide p):=by kernel_rfl):KK Df n l j ((Code.cond c x y).wp P Q) w:=λa hr=>cN hr H (λc h=>k1 c h a hr) (λc h=>k2 c h a hr) hc
theorem FJ{b:Bool}(H:(if b=true then X else afr)=r)(k1:b=true->X=r->KK Df n l j (x.wp P Q) w)(k2:¬b=true->afr=r->KK Df n l j (y.wp P Q) w)(hc:eO (lk l j) c= .bool b:=by kernel_rfl):KK Df n l j ((Code.cond c x y).wp P Q) w:=λa hr=>cV hr H (λc h=>k1 c h a hr) (λc h=>k2 c h a hr) hc
theorem D5{b:Bool}(H:(if b=true then X else afr)=r)(k1:b=true->X=r->KK Df n l j (y.wp P Q) w)(k2:¬b=true->afr=r->KK Df n l j (x.wp P Q) w)(hc:eO (lk l j) c= .bool (!b):=by kernel_rfl):KK Df n l j ((Code.cond c x y).wp P Q) w:=λa hr=>cM hr H (λc h=>k1 c h a hr) (λc h=>k2 c h a hr) hc
end
section
variable {f:FuncId}{args:Array Value}{fn:Func}
theorem fG{V:Value}{afs:World->Prop}(hc:Calls P f args w λe w=>e= .returned V/\afs w)(k:∀w,afs w->KK Df n ((dn o,V)::l) j (wpList P ops Q rest) w)(h1:Cx o n=true:=by rfl)(hrun:(execOp (eO (lk l j)) o).run P w= .ok (.enter f args) w:=by kernel_rfl):KK Df n l j (wpList P ops Q (o::rest)) w:=λa hr =>
 s7 (wn (ji h1).2) (ji h1).1.1 (ji h1).1.2 hr hrun hc λe w h=>by obtain⟨rfl,h⟩:=h;exact⟨_,rfl,k w h⟩
theorem Zt{V:Value}{afs:World->Prop}{x c:Bool}(pf:x=c)(hc:Calls P f args w λe w=>e= .returned V/\afs w)(k:∀w,afs w->KK Df n ((dn o,V)::l) j (wpList P ops Q rest) w)(h1:Zs o n=true:=by rfl)(hg:gx ops n (lk l j) o=some (c,some (true,.bool x)):=by kernel_rfl)(hrun:(execOp (eO (lk l j)) o).run P w= .ok (.enter f args) w:=by kernel_rfl):KK Df n l j (wpList P ops Q (o::rest)) w:=λa hr =>
 s7 (kwg hr pf hg) (Ov h1).1 (Ov h1).2 hr hrun hc λe w h=>by obtain⟨rfl,h⟩:=h;exact⟨_,rfl,k w h⟩
theorem Oy{V:Value}{afs:World->Prop}(h:afs w)(hres:fn.results=#[]:=by rfl)(hv: .tuple #[]=V:=by kernel_rfl):KK [] n l j (bodyPost P fn (λe w=>e= .returned V/\afs w) .normal) w:=λa hr =>
 p7 hres hr ⟨by rw[hv],h⟩
theorem gC{V:Value}{afs:World->Prop}{t0:Nat}(h:afs w)(hres:fn.results=#[.tmp t0]:=by rfl)(hv:lk l j t0=V:=by kernel_rfl):KK [] n l j (bodyPost P fn (λe w=>e= .returned V/\afs w) .ret) w:=λa hr =>
 yz hres hr rfl ⟨by rw[hv],h⟩
theorem MZ{V:Value}{afs:World->Prop}{t0 t1:Nat}(h:afs w)(hres:fn.results=#[.tmp t0,.tmp t1]:=by rfl)(hv: .tuple #[lk l j t0,lk l j t1]=V:=by kernel_rfl):KK [] n l j (bodyPost P fn (λe w=>e= .returned V/\afs w) .ret) w:=λa hr =>
 Ga hres hr rfl rfl ⟨by rw[hv],h⟩
theorem Zu{uF:Type}{V:uF->Value}{afs:uF->World->Prop}(hc:Calls P f args w λe w =>∃x0,e= .returned (V x0)/\afs x0 w)(k:∀x0 w,afs x0 w->KK Df n ((dn o,(V x0))::l) j (wpList P ops Q rest) w)(h1:Cx o n=true:=by rfl)(hrun:(execOp (eO (lk l j)) o).run P w= .ok (.enter f args) w:=by kernel_rfl):KK Df n l j (wpList P ops Q (o::rest)) w:=λa hr =>
 s7 (wn (ji h1).2) (ji h1).1.1 (ji h1).1.2 hr hrun hc λe w h=>by obtain⟨x0,rfl,h⟩:=h;exact⟨_,rfl,k _ w h⟩
theorem xy1{uF:Type}{V:uF->Value}{afs:uF->World->Prop}{t0:Nat}(x0:uF)(h:afs x0 w)(hres:fn.results=#[.tmp t0]:=by rfl)(hv:lk l j t0=V x0:=by kernel_rfl):KK [] n l j (bodyPost P fn (λe w =>∃x0,e= .returned (V x0)/\afs x0 w) .ret) w:=λa hr =>
 yz hres hr rfl ⟨x0,by rw[hv],h⟩
theorem Wr{uF wu:Type}{V:uF->wu->Value}{afs:uF->wu->World->Prop}(hc:Calls P f args w λe w =>∃x0,∃x1,e= .returned (V x0 x1)/\afs x0 x1 w)(k:∀x0 x1 w,afs x0 x1 w->KK Df n ((dn o,(V x0 x1))::l) j (wpList P ops Q rest) w)(h1:Cx o n=true:=by rfl)(hrun:(execOp (eO (lk l j)) o).run P w= .ok (.enter f args) w:=by kernel_rfl):KK Df n l j (wpList P ops Q (o::rest)) w:=λa hr =>
 s7 (wn (ji h1).2) (ji h1).1.1 (ji h1).1.2 hr hrun hc λe w h=>by obtain⟨x0,x1,rfl,h⟩:=h;exact⟨_,rfl,k _ _ w h⟩
theorem Zv{uF wu:Type}{V:uF->wu->Value}{afs:uF->wu->World->Prop}{t0:Nat}(x0:uF)(x1:wu)(h:afs x0 x1 w)(hres:fn.results=#[.tmp t0]:=by rfl)(hv:lk l j t0=V x0 x1:=by kernel_rfl):KK [] n l j (bodyPost P fn (λe w =>∃x0,∃x1,e= .returned (V x0 x1)/\afs x0 x1 w) .ret) w:=λa hr =>
 yz hres hr rfl ⟨x0,x1,by rw[hv],h⟩
theorem xw2{uF wu:Type}{V:uF->wu->Value}{afs:uF->wu->World->Prop}{t0 t1 t2:Nat}(x0:uF)(x1:wu)(h:afs x0 x1 w)(hres:fn.results=#[.tmp t0,.tmp t1,.tmp t2]:=by rfl)(hv: .tuple #[lk l j t0,lk l j t1,lk l j t2]=V x0 x1:=by kernel_rfl):KK [] n l j (bodyPost P fn (λe w =>∃x0,∃x1,e= .returned (V x0 x1)/\afs x0 x1 w) .ret) w:=λa hr =>
 Gf hres hr rfl rfl rfl ⟨x0,x1,by rw[hv],h⟩
theorem xc3{uF wu Af:Type}{V:uF->wu->Af->Value}{afs:uF->wu->Af->World->Prop}(hc:Calls P f args w λe w =>∃x0,∃x1,∃x2,e= .returned (V x0 x1 x2)/\afs x0 x1 x2 w)(k:∀x0 x1 x2 w,afs x0 x1 x2 w->KK Df n ((dn o,(V x0 x1 x2))::l) j (wpList P ops Q rest) w)(h1:Cx o n=true:=by rfl)(hrun:(execOp (eO (lk l j)) o).run P w= .ok (.enter f args) w:=by kernel_rfl):KK Df n l j (wpList P ops Q (o::rest)) w:=λa hr =>
 s7 (wn (ji h1).2) (ji h1).1.1 (ji h1).1.2 hr hrun hc λe w h=>by obtain⟨x0,x1,x2,rfl,h⟩:=h;exact⟨_,rfl,k _ _ _ w h⟩
theorem xw3{uF wu Af:Type}{V:uF->wu->Af->Value}{afs:uF->wu->Af->World->Prop}{t0 t1 t2:Nat}(x0:uF)(x1:wu)(x2:Af)(h:afs x0 x1 x2 w)(hres:fn.results=#[.tmp t0,.tmp t1,.tmp t2]:=by rfl)(hv: .tuple #[lk l j t0,lk l j t1,lk l j t2]=V x0 x1 x2:=by kernel_rfl):KK [] n l j (bodyPost P fn (λe w =>∃x0,∃x1,∃x2,e= .returned (V x0 x1 x2)/\afs x0 x1 x2 w) .ret) w:=λa hr =>
 Gf hres hr rfl rfl rfl ⟨x0,x1,x2,by rw[hv],h⟩
theorem kX{uF wu Af CS:Type}{V:uF->wu->Af->CS->Value}{afs:uF->wu->Af->CS->World->Prop}(hc:Calls P f args w λe w =>∃x0,∃x1,∃x2,∃x3,e= .returned (V x0 x1 x2 x3)/\afs x0 x1 x2 x3 w)(k:∀x0 x1 x2 x3 w,afs x0 x1 x2 x3 w->KK Df n ((dn o,(V x0 x1 x2 x3))::l) j (wpList P ops Q rest) w)(h1:Cx o n=true:=by rfl)(hrun:(execOp (eO (lk l j)) o).run P w= .ok (.enter f args) w:=by kernel_rfl):KK Df n l j (wpList P ops Q (o::rest)) w:=λa hr =>
 s7 (wn (ji h1).2) (ji h1).1.1 (ji h1).1.2 hr hrun hc λe w h=>by obtain⟨x0,x1,x2,x3,rfl,h⟩:=h;exact⟨_,rfl,k _ _ _ _ w h⟩
theorem xv4{uF wu Af CS:Type}{V:uF->wu->Af->CS->Value}{afs:uF->wu->Af->CS->World->Prop}(x0:uF)(x1:wu)(x2:Af)(x3:CS)(h:afs x0 x1 x2 x3 w)(hres:fn.results=#[]:=by rfl)(hv: .tuple #[]=V x0 x1 x2 x3:=by kernel_rfl):KK [] n l j (bodyPost P fn (λe w =>∃x0,∃x1,∃x2,∃x3,e= .returned (V x0 x1 x2 x3)/\afs x0 x1 x2 x3 w) .normal) w:=λa hr =>
 p7 hres hr ⟨x0,x1,x2,x3,by rw[hv],h⟩
theorem Hr{uF wu Af CS:Type}{V:uF->wu->Af->CS->Value}{afs:uF->wu->Af->CS->World->Prop}{t0:Nat}(x0:uF)(x1:wu)(x2:Af)(x3:CS)(h:afs x0 x1 x2 x3 w)(hres:fn.results=#[.tmp t0]:=by rfl)(hv:lk l j t0=V x0 x1 x2 x3:=by kernel_rfl):KK [] n l j (bodyPost P fn (λe w =>∃x0,∃x1,∃x2,∃x3,e= .returned (V x0 x1 x2 x3)/\afs x0 x1 x2 x3 w) .ret) w:=λa hr =>
 yz hres hr rfl ⟨x0,x1,x2,x3,by rw[hv],h⟩
theorem Ay{uF wu Af CS:Type}{V:uF->wu->Af->CS->Value}{afs:uF->wu->Af->CS->World->Prop}{t0 t1:Nat}(x0:uF)(x1:wu)(x2:Af)(x3:CS)(h:afs x0 x1 x2 x3 w)(hres:fn.results=#[.tmp t0,.tmp t1]:=by rfl)(hv: .tuple #[lk l j t0,lk l j t1]=V x0 x1 x2 x3:=by kernel_rfl):KK [] n l j (bodyPost P fn (λe w =>∃x0,∃x1,∃x2,∃x3,e= .returned (V x0 x1 x2 x3)/\afs x0 x1 x2 x3 w) .ret) w:=λa hr =>
 Ga hres hr rfl rfl ⟨x0,x1,x2,x3,by rw[hv],h⟩
theorem xc5{uF wu Af CS M0:Type}{V:uF->wu->Af->CS->M0->Value}{afs:uF->wu->Af->CS->M0->World->Prop}(hc:Calls P f args w λe w =>∃x0,∃x1,∃x2,∃x3,∃x4,e= .returned (V x0 x1 x2 x3 x4)/\afs x0 x1 x2 x3 x4 w)(k:∀x0 x1 x2 x3 x4 w,afs x0 x1 x2 x3 x4 w->KK Df n ((dn o,(V x0 x1 x2 x3 x4))::l) j (wpList P ops Q rest) w)(h1:Cx o n=true:=by rfl)(hrun:(execOp (eO (lk l j)) o).run P w= .ok (.enter f args) w:=by kernel_rfl):KK Df n l j (wpList P ops Q (o::rest)) w:=λa hr =>
 s7 (wn (ji h1).2) (ji h1).1.1 (ji h1).1.2 hr hrun hc λe w h=>by obtain⟨x0,x1,x2,x3,x4,rfl,h⟩:=h;exact⟨_,rfl,k _ _ _ _ _ w h⟩
theorem xc6{uF wu Af CS M0 Q9:Type}{V:uF->wu->Af->CS->M0->Q9->Value}{afs:uF->wu->Af->CS->M0->Q9->World->Prop}(hc:Calls P f args w λe w =>∃x0,∃x1,∃x2,∃x3,∃x4,∃x5,e= .returned (V x0 x1 x2 x3 x4 x5)/\afs x0 x1 x2 x3 x4 x5 w)(k:∀x0 x1 x2 x3 x4 x5 w,afs x0 x1 x2 x3 x4 x5 w->KK Df n ((dn o,(V x0 x1 x2 x3 x4 x5))::l) j (wpList P ops Q rest) w)(h1:Cx o n=true:=by rfl)(hrun:(execOp (eO (lk l j)) o).run P w= .ok (.enter f args) w:=by kernel_rfl):KK Df n l j (wpList P ops Q (o::rest)) w:=λa hr =>
 s7 (wn (ji h1).2) (ji h1).1.1 (ji h1).1.2 hr hrun hc λe w h=>by obtain⟨x0,x1,x2,x3,x4,x5,rfl,h⟩:=h;exact⟨_,rfl,k _ _ _ _ _ _ w h⟩
theorem xy6{uF wu Af CS M0 Q9:Type}{V:uF->wu->Af->CS->M0->Q9->Value}{afs:uF->wu->Af->CS->M0->Q9->World->Prop}{t0:Nat}(x0:uF)(x1:wu)(x2:Af)(x3:CS)(x4:M0)(x5:Q9)(h:afs x0 x1 x2 x3 x4 x5 w)(hres:fn.results=#[.tmp t0]:=by rfl)(hv:lk l j t0=V x0 x1 x2 x3 x4 x5:=by kernel_rfl):KK [] n l j (bodyPost P fn (λe w =>∃x0,∃x1,∃x2,∃x3,∃x4,∃x5,e= .returned (V x0 x1 x2 x3 x4 x5)/\afs x0 x1 x2 x3 x4 x5 w) .ret) w:=λa hr =>
 yz hres hr rfl ⟨x0,x1,x2,x3,x4,x5,by rw[hv],h⟩
theorem xc7{uF wu Af CS M0 Q9 β6:Type}{V:uF->wu->Af->CS->M0->Q9->β6->Value}{afs:uF->wu->Af->CS->M0->Q9->β6->World->Prop}(hc:Calls P f args w λe w =>∃x0,∃x1,∃x2,∃x3,∃x4,∃x5,∃x6,e= .returned (V x0 x1 x2 x3 x4 x5 x6)/\afs x0 x1 x2 x3 x4 x5 x6 w)(k:∀x0 x1 x2 x3 x4 x5 x6 w,afs x0 x1 x2 x3 x4 x5 x6 w->KK Df n ((dn o,(V x0 x1 x2 x3 x4 x5 x6))::l) j (wpList P ops Q rest) w)(h1:Cx o n=true:=by rfl)(hrun:(execOp (eO (lk l j)) o).run P w= .ok (.enter f args) w:=by kernel_rfl):KK Df n l j (wpList P ops Q (o::rest)) w:=λa hr =>
 s7 (wn (ji h1).2) (ji h1).1.1 (ji h1).1.2 hr hrun hc λe w h=>by obtain⟨x0,x1,x2,x3,x4,x5,x6,rfl,h⟩:=h;exact⟨_,rfl,k _ _ _ _ _ _ _ w h⟩
theorem xc8{uF wu Af CS M0 Q9 β6 β7:Type}{V:uF->wu->Af->CS->M0->Q9->β6->β7->Value}{afs:uF->wu->Af->CS->M0->Q9->β6->β7->World->Prop}(hc:Calls P f args w λe w =>∃x0,∃x1,∃x2,∃x3,∃x4,∃x5,∃x6,∃x7,e= .returned (V x0 x1 x2 x3 x4 x5 x6 x7)/\afs x0 x1 x2 x3 x4 x5 x6 x7 w)(k:∀x0 x1 x2 x3 x4 x5 x6 x7 w,afs x0 x1 x2 x3 x4 x5 x6 x7 w->KK Df n ((dn o,(V x0 x1 x2 x3 x4 x5 x6 x7))::l) j (wpList P ops Q rest) w)(h1:Cx o n=true:=by rfl)(hrun:(execOp (eO (lk l j)) o).run P w= .ok (.enter f args) w:=by kernel_rfl):KK Df n l j (wpList P ops Q (o::rest)) w:=λa hr =>
 s7 (wn (ji h1).2) (ji h1).1.1 (ji h1).1.2 hr hrun hc λe w h=>by obtain⟨x0,x1,x2,x3,x4,x5,x6,x7,rfl,h⟩:=h;exact⟨_,rfl,k _ _ _ _ _ _ _ _ w h⟩
theorem kC{t T b:Nat}{afw:Ending->World->Prop}{cs:Array Value}{T':TypeId}{q:Nat×Nat}(hF:Fit w0 (aC (pts b (.cells cs T' q)::L)) w)(h:afw (.returned (.agg cs)) w)(hres:fn.results=#[.cell t T]:=by rfl)(hv:lk l j t= .pointer (some ⟨b,0,none⟩):=by kernel_rfl)(hu:tS (P.underlying T)=true:=by kernel_rfl)
 (hs:(P.info? T).map (·.size)=some cs.size:=by kernel_rfl):KK [] n l j (bodyPost P fn afw .ret) w:=λa hr=>qC hr hF h hres hv hu hs
end
section
variable {E:List Nat}{D:List (Nat×Nat×List Value)}{N:Nat}{aO:Array Bool}
theorem iy[hp:PI Q](hd:HL D w)(f:Nat)(is:List (Nat×Nat×Value))(k:KK Df n (RD is l) j (eK P .any ops Q (HL D) E f (RC is aO)) w)
 (hN:f+is.length=N:=by rfl) (hB:Zr ops E n is aO=true:=by kernel_rfl) (hrun:∀w,Jk P ops is l j w=C3 is w:=by intro w;kernel_rfl):KK Df n l j (eK P .any ops Q (HL D) E N aO) w:=λa hr=>acS hd f is hr k hN hB hrun
theorem kx[hp:PI Q](hd:HL D w)(q f i:Nat){b off:Nat}{x:Operand}(hi:ops[i]? = some o)(hq:D[q]? = some (b,off,[v]))
 (k:KK Df n ((dn o,v)::l) j (eK P .any ops Q (HL D) E f (aO.setIfInBounds i true)) w) (hg:o.guard=none:=by rfl) (hB:(okB ops E aO i&&Ck .any ops E aO i)=true:=by kernel_rfl)
 (ho:o.op= .load T x:=by rfl) (hx:eO (lk l j) x= .pointer (some ⟨b,off,none⟩):=by kernel_rfl) (hu:wH (P.underlying T)=true:=by kernel_rfl) (h1:o.dst=some (dn o):=by rfl) (hn:Nat.blt (dn o) n=true:=by rfl):KK Df n l j (eK P .any ops Q (HL D) E (f+1) aO) w:=λa hr =>
 mT hd q f i hr (wn hg) hi hq k hB ho hx hu h1 hn
theorem wL[hp:PI Q](hd:HL D w)(q f i:Nat){b off:Nat}{cs:List Value}{x:Operand}(hi:ops[i]? = some o)(hq:D[q]? = some (b,off,cs))
 (k:KK Df n ((dn o,.agg cs.toArray)::l) j (eK P .any ops Q (HL D) E f (aO.setIfInBounds i true)) w) (hg:o.guard=none:=by rfl) (hB:(okB ops E aO i&&Ck .any ops E aO i)=true:=by kernel_rfl)
 (ho:o.op= .load T x:=by rfl) (hx:eO (lk l j) x= .pointer (some ⟨b,off,none⟩):=by kernel_rfl) (hu:tS (P.underlying T)=true:=by kernel_rfl) (hs:(P.info? T).map (·.size)=some cs.length:=by kernel_rfl) (h1:o.dst=some (dn o):=by rfl) (hn:Nat.blt (dn o) n=true:=by rfl):KK Df n l j (eK P .any ops Q (HL D) E (f+1) aO) w:=λa hr =>
 elm hd q f i hr (wn hg) hi hq k hB ho hx hu hs h1 hn
end
end
end GX
end
section
namespace SL
open Go Go.RowKit
def Cy{α:Type}(e:TypeId)(sz:Nat)(enc:α->List Value)(v:Value)(l:List α):bj:=λh =>
 (v= .slice none 0 0/\l=[]/\h=Hp.none)∨
 ∃g off cap k cur,v= .slice (some ⟨g,off,none⟩) l.length cap/\l.length<=cap/\(0<cap->off=k*sz)/\k+cap<=maxLen/\cur.size=(k+cap)*sz/\(cur.toList.drop (k*sz)).take (l.length*sz)=l.flatMap enc/\pts g (.cells cur e) h
section
variable {w0 w:World}{L:List bj}{α:Type}{e:TypeId}{sz:Nat}{enc:α->List Value}{v:Value}{l:List α}{ca:fR}{n cc:Nat}
theorem Fit.KZ(h:Fit w0 (aC (Cy e sz enc v l::L)) w):(v= .slice none 0 0/\l=[]/\Fit w0 (aC L) w)∨
 ∃g off cap k cur,v= .slice (some ⟨g,off,none⟩) l.length cap/\l.length<=cap/\(0<cap->off=k*sz)/\k+cap<=maxLen/\cur.size=(k+cap)*sz/\(cur.toList.drop (k*sz)).take (l.length*sz)=l.flatMap enc/\Fit w0 (aC (pts g (.cells cur e)::L)) w:=by
 obtain⟨x,hx,a,c,hd,ee,hp,q⟩:=h.sat;rcases hp with ⟨h1,h2,h3⟩ | ⟨g,off,cap,k,cur,h1,h2,h3,h4,h5,h6,h7⟩
 ·left
  exact⟨h1,h2,h.drop⟩
 ·right
  exact⟨g,off,cap,k,cur,h1,h2,h3,h4,h5,h6,⟨x,hx,a,c,hd,ee,h7,q⟩,h.os,h.tape,h.output,h.size⟩
theorem Fit.Oz(h:Fit w0 (aC (rowOf e sz enc v l::L)) w):Fit w0 (aC (Cy e sz enc v l::L)) w:=
 h.head λ_ hx=>by
  rcases hx with h | ⟨g,cap,cur,h1,h2,h3,h4,h5,h6⟩
  ·exact .inl h
  ·exact .inr ⟨g,0,cap,0,cur,h1,h2,λ_=>by simp,aB,by simpa using h4,by simpa using h5,h6⟩
theorem Fit.R4(h:Fit w0 (aC (Cy e sz enc (.slice ca n cc) l::L)) w):n=l.length:=by
 rcases h.KZ with ⟨h1,h2,_⟩ | ⟨g,off,cap,k,cur,h1,_⟩
 ·simp only[Value.slice.injEq]at h1;rw[h2];exact h1.2.1
 ·simp only[Value.slice.injEq]at h1;exact h1.2.1
theorem Fit.PU(h:Fit w0 (aC (Cy e sz enc (.slice ca n cc) l::L)) w)(hl:0<l.length):ca=some ⟨GX.dA ca,GX.kg ca,none⟩:=by
 rcases h.KZ with ⟨h1,h2,_⟩ | ⟨g,off,cap,k,cur,h1,_⟩
 ·rw[h2]at hl;simp at hl
 ·simp only[Value.slice.injEq]at h1;rw[h1.1];rfl
theorem Fit.K0(he:sH enc sz)(h:Fit w0 (aC (Cy e sz enc (.slice ca n cc) l::L)) w){i:Nat}{f:Nat}{x:α}{afv:Value}(hi:l[i]? = some x)(hf:(enc x)[f]? = some afv):w.cell? ⟨GX.dA ca,GX.kg ca+i*sz+f,none⟩=some afv:=by
 have E3:i<l.length:=(List.getElem?_eq_some_iff.1 hi).1;rcases h.KZ with ⟨h1,h2,_⟩ | ⟨g,off,cap,k,cur,h1,h2,h3,h4,h5,h6,h7⟩
 ·rw[h2]at E3;simp at E3
 ·simp only[Value.slice.injEq]at h1;obtain⟨rfl,_,rfl⟩:=h1;have hfs:f<sz:=by rw[<-he.len x];exact(List.getElem?_eq_some_iff.1 hf).1
  have h8:=he.get l i f x hi hfs;rw[<-h6,List.getElem?_take]at h8;have hlt:i*sz+f<l.length*sz:=by
   have:(i+1)*sz<=l.length*sz:=ru _ E3;rw[tO]at this;omega
  rw[aW hlt,hf,List.getElem?_drop]at h8;have ho:=h3 aB;show w.cell? ⟨g,off+i*sz+f,none⟩=some afv;rw[ho,show k*sz+i*sz+f=k*sz+(i*sz+f) by omega];refine h7.cell _ ?_
  simpa using h8
theorem Jp(vs:List Value):∀(o:Nat) (cs:Array Value),o+vs.length<=cs.size->∃cs':Array Value,cs'.toList=cs.toList.take o++vs++cs.toList.drop (o+vs.length)/\∀{w0 w:World} {L:List bj} {b:Nat} {t:TypeId},Fit w0 (aC (pts b (.cells cs t)::L)) w->Fit w0 (aC (pts b (.cells cs' t)::L)) (w.setCells b o vs):=by
 induction vs with
 | nil=>intro o cs h;exact⟨cs,by simp,λh=>h⟩
 | cons v vs ih =>
  intro o cs h;simp only[Ad]at h;obtain⟨cs',h1,h2⟩:=ih (o+1) (cs.setIfInBounds o v) (by simp;omega);refine⟨cs',?_,λhF=>h2 (hF.set o v)⟩;rw[h1];have ho:o<cs.toList.length:=by simp;omega
  simp only[Array.toList_setIfInBounds,Ad];rw[List.take_succ_eq_append_getElem (by simpa using ho),List.getElem_set_self,List.take_set_of_le (j9 o),List.drop_set,oU];rw[show o+1+vs.length=o+(vs.length+1) by omega];simp
end
end SL
namespace GX
open Go Go.RowKit SL
section
variable {P:Program}{w w0 w1 z:World}{ops:Array Oper}{Q:Exit->Act->World->Prop}{a:Act}{rest:List Oper}{o:Oper}{n d:Nat}{l:List (Nat×Value)}{j e:Nat->Value}{Df:List Deferred}{L:List bj}{t E:TypeId}
variable {α:Type}{sz n0 cc:Nat}{enc:α->List Value}{xs:List α}{ca:fR}
theorem ac0{x y:Operand}{k:IntKind}{i:Int}{w':World}(ho:o.op= .indexAddr t x y)(hx:eO e x= .slice ca n0 cc)(hy:eO e y= .int k i)
 (ht:P.underlying t=some (.slice E)) (hs:(P.info? E).map (·.size)=some sz) (hF:Fit w0 (aC (Cy E sz enc (.slice ca n0 cc) xs::L)) w) (hi:bI i xs.length):(execOp (eO e) o).run P w'= .ok (.value (.pointer (some ⟨dA ca,kg ca+i.toNat*sz,none⟩))) w':=by
 have hn:=hF.R4;have h0:=hi.1;have h1:=hi.2;exact rie (hF.PU aB) ho hx hy ht hs h0 aB
theorem UP{x y:Operand}{k:IntKind}{i:Int}(hw:tN o ops a)(hd:o.dst=some d)(hn:Nat.blt d n=true)(hr:cS Df n (lk l j) a)(ho:o.op= .slice t x (some y) none none)(hx:eO (lk l j) x= .slice ca n0 cc)(hy:eO (lk l j) y= .int k i)
 (ht:P.underlying t=some (.slice E)) (hs:(P.info? E).map (·.size)=some sz) (he:sH enc sz) (hF:Fit z (aC (Cy E sz enc (.slice ca n0 cc) xs::L)) w) (hi:0<=i/\i<=((xs.length:Nat):Int)) (hne:0<xs.length)
 (k:∀ca cc a,Fit z (aC (Cy E sz enc (.slice ca (xs.drop i.toNat).length cc) (xs.drop i.toNat)::L)) w->cS Df n (lk ((d,.slice ca (xs.drop i.toNat).length cc)::l) j) a->wpList P ops Q rest a w):wpList P ops Q (o::rest) a w:=by
 obtain⟨h0,h1⟩:=hi;rcases hF.KZ with ⟨h2,h3,_⟩ | ⟨g,off,cap,q,cur,e1,e2,e3,e4,e5,e6,e7⟩
 ·rw[h3]at hne;simp at hne
 ·simp only[Value.slice.injEq]at e1;obtain⟨rfl,rfl,rfl⟩:=e1;obtain⟨m,rfl⟩ :∃m:Nat,i=m:=⟨i.toNat,aB⟩;simp only[dc]at k⊢;have hm:m<=xs.length:=by omega
  have hlen:(xs.drop m).length=xs.length-m:=by simp
  have hrun:(execOp (eO (lk l j)) o).run P w= .ok (.value (.slice (some (if cc=m then⟨g,off,none⟩else(⟨g,off,none⟩:Addr).add (m*sz))) (xs.length-m) (cc-m))) w:=by
   unfold execOp;cases hq:P.info? E with
   | none=>simp[hq]at hs
   | some q =>
    simp[hq]at hs;have c:cc=m∨¬cc=m:=Classical.em _;rcases c with c | c<;>simp[ho,hx,hy,Instr.sliceAt,Instr.slice,Instr.sliceBounds,Instr.sliceBound,run_underlying ht,asIntOf,sizeOf,typeInfo,hq,hs,h1,hm,c]
  refine qW hw hd hn hr (w1:=w) hrun λa IB => ?_;rw[<-hlen]at IB;refine k _ _ a ?_ IB;refine e7.head λy hy=>.inr ⟨g,if cc=m then off else off+m*sz,cc-m,q+m,cur,?_,by rw[hlen];omega,?_,aB,by rw[e5];congr 1;omega,?_,hy⟩
  ·congr 1
   by_cases c:cc=m
   ·simp[aW c]
   ·simp[cF c,u5]
  ·intro hc;rw[eG,e3 aB];simp[tO]
  ·rw[hlen];have h8:((cur.toList.drop (q*sz)).take (xs.length*sz)).drop (m*sz)=(xs.drop m).flatMap enc:=by
    rw[e6];have h9:(xs.take m).flatMap enc++(xs.drop m).flatMap enc=xs.flatMap enc:=by rw[<-CU,F1]
    rw[<-h9,Is (by rw[he.flat,tP,zR hm];exact j9 _)];rw[N9 (by rw[he.flat,tP,zR hm];exact j9 _)]
    rfl
   rw[<-h8,Iv,List.drop_drop,tO,<-Nat.sub_mul]
theorem K1{bytes:Nat}{s x:Operand}{ad:Addr}{m c:Nat}(hw:tN o ops a)(hd:o.dst=some d)(hn:Nat.blt d n=true)(hr:cS Df n (lk l j) a)
 (ho:o.op= .call {callee:=.builtin .append,args:=#[s,x],argTypes:=#[t,t]}) (hs:eO (lk l j) s= .slice ca n0 cc) (hx:eO (lk l j) x= .slice (some ad) m c)
 (he:sH enc sz) (hty:P.underlying t=some (.slice E)) (qO:(P.info? E).map (λi=>(i.size,i.bytes,i.zero.map (·.cells.size)))=some (sz,bytes,some sz))
 (hF:Fit w0 (aC (Cy E sz enc (.slice ca n0 cc) xs::L)) w) {news:List α} (hm:news.length=m) (hnews:∀j afv,(news.flatMap enc)[j]? = some afv->w.cell? (ad.add j)=some afv)
 (hb:(xs.length+m)*bytes<=140737488355328) (MB:Nat.blt 0 bytes=true)
 (k:∀ca cc w1 a,Fit w0 (aC (Cy E sz enc (.slice ca (xs++news).length cc) (xs++news)::L)) w1->cS Df n (lk ((d,.slice ca (xs++news).length cc)::l) j) a->wpList P ops Q rest a w1):wpList P ops Q (o::rest) a w:=by
 rcases hF.KZ with ⟨h2,h3,h4⟩ | ⟨g,off,cap,q,cur,e1,e2,e3,e4,e5,e6,e7⟩
 ·simp only[Value.slice.injEq]at h2;obtain⟨rfl,rfl,rfl⟩:=h2;subst h3;exact kY hw hd hn hr ho hs hx he hty qO (h4.fX (e:=E) (sz:=sz) (enc:=enc)) hm hnews hb MB λca cc w1 a h IB=>k ca cc w1 a h.Oz IB
 ·simp only[Value.slice.injEq]at e1;obtain⟨rfl,rfl,rfl⟩:=e1;cases hi:P.info? E with
  | none=>simp[hi]at qO
  | some i =>
   simp only[hi,ux,Option.some.injEq,Prod.mk.injEq]at qO;obtain⟨i1,i2,i3⟩:=qO;cases hz:i.zero with
   | none=>simp[hz]at i3
   | some zv =>
    simp only[hz,ux,Option.some.injEq]at i3;subst i1;subst i2;have KD:0<i.bytes:=oI MB;have h63:xs.length+m<=maxLen:=by
     have:xs.length+m<=(xs.length+m)*i.bytes:=Kr _ KD;simp only[maxLen];omega
    have Us:((xs.length+m:Nat):Int)<=9223372036854775807:=by simp only[maxLen]at h63;omega
    have hlen:(news.flatMap enc).length=m*i.size:=by rw[he.flat,hm]
    have fin:∀v' w',(Builtin.append_ #[t,t] o.type #[.slice (some ⟨g,off,none⟩) xs.length cc,.slice (some ad) m c]).run P w= .ok v' w'->(∃ca cc,v'= .slice ca (xs++news).length cc/\Fit w0 (aC (Cy E i.size enc v' (xs++news)::L)) w')->wpList P ops Q (o::rest) a w:=by
     rintro v' w' hrun ⟨ca,cc,rfl,Ch⟩
     refine qW hw hd hn hr ?_ (λa hr=>k ca cc w' a Ch hr);unfold execOp;simp only[ho,resolve,invoke,builtin,ng,sM,nh,EO,zT,AD,hs,hx,hrun]
    by_cases hroom:xs.length+m<=cc
    ·by_cases Rp:m=0
     ·subst Rp;have Xs:news=[]:=FY hm;subst Xs;have XA:=run_append_room_cells (P:=P) (w:=w) t o.type E i hty hi g off xs.length cc ad 0 c [] (by simp) (by simp) (by simp) hroom (by simp) (by simp);refine fin _ _ XA ⟨some ⟨g,off,none⟩,cc,by simp,?_⟩
      simpa [World.setCells]using hF
     ·have ac1:=e3 aB;subst ac1;have hfit:(q+xs.length)*i.size+(news.flatMap enc).length<=cur.size:=by rw[hlen,e5,<-tO];exact ru _ aB
      have hpos:q*i.size+xs.length*i.size=(q+xs.length)*i.size:=(tO _ _ _).symm;have XA:=run_append_room_cells (P:=P) (w:=w) t o.type E i hty hi g (q*i.size) xs.length cc ad m c (news.flatMap enc) hlen hnews (he.yy news) hroom
       (λk hk=>by rw[hpos];rw[e7.cell ((q+xs.length)*i.size+k) (v:=cur[(q+xs.length)*i.size+k]' aB) (by rw[Array.getElem?_eq_getElem])];rfl) (λk hk=>e7.free _)
      rw[hpos]at XA;obtain⟨cs',c1,c2⟩:=Jp (news.flatMap enc) ((q+xs.length)*i.size) cur hfit;have hsz:cs'.size=cur.size:=by
       have:=qG List.length c1;simp only[jP,tP,AB,tQ]at this;omega
      refine fin _ _ XA ⟨_,_,by rw[jP,hm],(c2 e7).head λy hy=>.inr ⟨g,_,cc,q,cs',by rw[jP,hm],by rw[jP,hm];exact hroom,λ_=>rfl,e4,by rw[hsz];exact e5,?_,hy⟩⟩;rw[c1,CU,<-e6,jP,hm];have hA:(cur.toList.take ((q+xs.length)*i.size)).length=(q+xs.length)*i.size:=by rw[tP,tQ];exact zR (E1 (Nat.le_add_right _ _) hfit)
      rw[pS,Is (by rw[hA,tO];omega)];have hB:(cur.toList.take ((q+xs.length)*i.size)).drop (q*i.size)=(cur.toList.drop (q*i.size)).take (xs.length*i.size):=by
       rw[Iv,tO,Nat.add_sub_cancel_left]
      rw[hB,<-pS];have hC:(((cur.toList.drop (q*i.size)).take (xs.length*i.size))++news.flatMap enc).length=(xs.length+m)*i.size:=by
       rw[e6,jP,he.flat,hlen,tO]
      rw[<-hC];exact EM
    ·have holds:∀j afv,(xs.flatMap enc)[j]? = some afv->w.cell? ((⟨g,off,none⟩:Addr).add j)=some afv:=by
      intro jj afv hu;have hj:jj<xs.length*i.size:=by rw[<-he.flat];exact(List.getElem?_eq_some_iff.1 hu).1
      have hx0:0<xs.length:=by
       rcases Nat.eq_zero_or_pos xs.length with h0 | h0
       ·rw[h0]at hj;simp at hj
       ·exact h0
      rw[u5,e3 aB];refine e7.cell _ ?_;rw[<-e6,List.getElem?_take,aW hj,List.getElem?_drop]at hu
      simpa using hu
     have XA:=run_append_grow (P:=P) w t o.type E i zv hty hi hz ⟨g,off,none⟩ xs.length cc (xs.flatMap enc) (he.flat xs) holds ad m c (news.flatMap enc) hlen hnews aB Us (growslice_fits aB hb);have hge:=grownCap_ge w (xs.length+m) cc E;have Zb:grownCap w (xs.length+m) cc E<=maxLen:=grownCap_le_maxLen w (xs.length+m) cc E h63;refine fin _ _ XA ⟨_,_,by rw[jP,hm],?_⟩;refine(e7.drop.drew.alloc _).head λx hx=>.inr ⟨w.heap.size,0,grownCap w (xs.length+m) cc E,0,_,by rw[jP,hm],by rw[jP,hm];exact hge,λ_=>by simp,aB,?_,?_,hx⟩
     ·simp only[Array.size_append,Cd,size_zeroCells,i3,he.flat,hm,<-tO]
      congr 1
      omega
     ·rw[CU,jP,hm];simp only[Array.toList_append,Nat.zero_mul,ni];rw[show(xs.length+m)*i.size=((xs.flatMap enc)++(news.flatMap enc)).length by rw[jP,hlen,he.flat,tO]];exact EM
end
end GX
end
end Go.Proofs.YtaiffafelihaaaaGreatDoor

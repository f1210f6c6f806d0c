/- what the functions compute, as plain Lean functions, and that they do -/
import Derived.Test.YtacgigkonoegiaaGv
import Derived.Test.YtacgigkonoegiaaProg
namespace Go.Proofs.Ytacgigkonoegiaa.Mo
open Go Go.RowKit Go.Proofs.Ytacgigkonoegiaa.SL Go.Proofs.Ytacgigkonoegiaa.GX
set_option linter.unusedVariables false
set_option linter.unusedSimpArgs false
set_option maxRecDepth 100000
set_option maxHeartbeats 4000000

structure T_plunderlaw2_Move where
  Side : Int
  Kind : Int
  Addr : Int
  A : Int
  B : Int
deriving Inhabited, DecidableEq
def enc_T_plunderlaw2_Move (x : T_plunderlaw2_Move) : List Value := [vI x.Side, vI x.Kind, vI x.Addr, vI x.A, vI x.B]
abbrev cl_T_plunderlaw2_Move (x : T_plunderlaw2_Move) : List Value := [vI x.Side, vI x.Kind, vI x.Addr, vI x.A, vI x.B]
abbrev ca_T_plunderlaw2_Move (x : T_plunderlaw2_Move) : Array Value := #[vI x.Side, vI x.Kind, vI x.Addr, vI x.A, vI x.B]
abbrev ag_T_plunderlaw2_Move (x : T_plunderlaw2_Move) : Value := .agg #[vI x.Side, vI x.Kind, vI x.Addr, vI x.A, vI x.B]
theorem enc_T_plunderlaw2_Move_ok : Enc enc_T_plunderlaw2_Move 5 := ⟨fun _ => rfl, fun x u h => by simp only [enc_T_plunderlaw2_Move, List.mem_cons, List.not_mem_nil, or_false] at h; rcases h with rfl | rfl | rfl | rfl | rfl <;> rfl, by decide⟩
theorem eq_T_plunderlaw2_Move (x y : T_plunderlaw2_Move) : eqvs (enc_T_plunderlaw2_Move x) (enc_T_plunderlaw2_Move y) = decide (x = y) := by
  rw [Bool.eq_iff_iff]; cases x; cases y; simp [enc_T_plunderlaw2_Move, eqvs, and_assoc]

structure T_api_Access where
  Who : Int
  Kind : Int
  Addr : Int
  A : Int
  B : Int
  OK : Bool
deriving Inhabited, DecidableEq
def enc_T_api_Access (x : T_api_Access) : List Value := [vI x.Who, vI x.Kind, vI x.Addr, vI x.A, vI x.B, vB x.OK]
abbrev cl_T_api_Access (x : T_api_Access) : List Value := [vI x.Who, vI x.Kind, vI x.Addr, vI x.A, vI x.B, vB x.OK]
abbrev ca_T_api_Access (x : T_api_Access) : Array Value := #[vI x.Who, vI x.Kind, vI x.Addr, vI x.A, vI x.B, vB x.OK]
abbrev ag_T_api_Access (x : T_api_Access) : Value := .agg #[vI x.Who, vI x.Kind, vI x.Addr, vI x.A, vI x.B, vB x.OK]
theorem enc_T_api_Access_ok : Enc enc_T_api_Access 6 := ⟨fun _ => rfl, fun x u h => by simp only [enc_T_api_Access, List.mem_cons, List.not_mem_nil, or_false] at h; rcases h with rfl | rfl | rfl | rfl | rfl | rfl <;> rfl, by decide⟩
theorem eq_T_api_Access (x y : T_api_Access) : eqvs (enc_T_api_Access x) (enc_T_api_Access y) = decide (x = y) := by
  rw [Bool.eq_iff_iff]; cases x; cases y; simp [enc_T_api_Access, eqvs, and_assoc]

structure T_plunderref2_Arena where
  Most : Int
  Held : List Int
  On : Bool
  Actor : Int
  Book : List T_api_Access
deriving Inhabited, DecidableEq

abbrev ob62 (B : Nat) (S : T_plunderref2_Arena) (a1 : Option Addr) (c1 : Nat) (a4 : Option Addr) (c4 : Nat) : HProp := pts B (.cells #[vI S.Most, .slice a1 S.Held.length c1, vB S.On, vI S.Actor, .slice a4 S.Book.length c4] 62)

abbrev ro2 (a : Option Addr) (c : Nat) (l : List Int) : HProp := rowOf 2 1 encZ_i64 (.slice a l.length c) l

abbrev ro90 (a : Option Addr) (c : Nat) (l : List T_api_Access) : HProp := rowOf 90 6 enc_T_api_Access (.slice a l.length c) l

structure T_cells_Arena where
  ledger_size : Int
  ledger_mark : Int
  cell : List Int
  log : List T_api_Access
  actor : Int
  watched : Bool
deriving Inhabited, DecidableEq

abbrev ob96 (B : Nat) (S : T_cells_Arena) (a2 : Option Addr) (c2 : Nat) (a3 : Option Addr) (c3 : Nat) : HProp := pts B (.cells #[vI S.ledger_size, vI S.ledger_mark, .slice a2 S.cell.length c2, .slice a3 S.log.length c3, vI S.actor, vB S.watched] 96)

abbrev ob30 (B : Nat) (S : T_plunderlaw2_Move)  : HProp := pts B (.cells #[vI S.Side, vI S.Kind, vI S.Addr, vI S.A, vI S.B] 30)

structure T_plunderlaw2_kept where
  m : Int
  l : List Int
  g1 : List Int
  g2 : List Int
  g3 : List Int
deriving Inhabited, DecidableEq

structure T_plunderlaw2_noted where
  m : Int
  l : List T_api_Access
  g1 : List T_api_Access
  g2 : List T_api_Access
  g3 : List T_api_Access
deriving Inhabited, DecidableEq

structure T_plunderlaw2_book where
  numberLists : List T_plunderlaw2_kept
  accessLists : List T_plunderlaw2_noted
  next : Int
deriving Inhabited, DecidableEq

def own_T_plunderlaw2_kept (x : T_plunderlaw2_kept) (cs : List Value) : HProp := exs fun ca_1 : Option Addr => exs fun cc_2 : Nat => exs fun ca_3 : Option Addr => exs fun cc_4 : Nat => exs fun ca_5 : Option Addr => exs fun cc_6 : Nat => exs fun ca_7 : Option Addr => exs fun cc_8 : Nat => sepL [pur (cs = [vI x.m, .slice ca_1 x.l.length cc_2, .slice ca_3 x.g1.length cc_4, .slice ca_5 x.g2.length cc_6, .slice ca_7 x.g3.length cc_8]), ro2 ca_1 cc_2 x.l, ro2 ca_3 cc_4 x.g1, ro2 ca_5 cc_6 x.g2, ro2 ca_7 cc_8 x.g3]
theorem own_T_plunderlaw2_kept_op {z w : World} {L : List HProp} {x : T_plunderlaw2_kept} {cs : List Value} (h : Fit z (sepL (own_T_plunderlaw2_kept x cs :: L)) w) : ∃ ca_1 : Option Addr, ∃ cc_2 : Nat, ∃ ca_3 : Option Addr, ∃ cc_4 : Nat, ∃ ca_5 : Option Addr, ∃ cc_6 : Nat, ∃ ca_7 : Option Addr, ∃ cc_8 : Nat, cs = [vI x.m, .slice ca_1 x.l.length cc_2, .slice ca_3 x.g1.length cc_4, .slice ca_5 x.g2.length cc_6, .slice ca_7 x.g3.length cc_8] ∧ Fit z (sepL (ro2 ca_1 cc_2 x.l :: ro2 ca_3 cc_4 x.g1 :: ro2 ca_5 cc_6 x.g2 :: ro2 ca_7 cc_8 x.g3 :: L)) w := by
  unfold own_T_plunderlaw2_kept at h
  obtain ⟨ca_1, h⟩ := h.open_exs
  obtain ⟨cc_2, h⟩ := h.open_exs
  obtain ⟨ca_3, h⟩ := h.open_exs
  obtain ⟨cc_4, h⟩ := h.open_exs
  obtain ⟨ca_5, h⟩ := h.open_exs
  obtain ⟨cc_6, h⟩ := h.open_exs
  obtain ⟨ca_7, h⟩ := h.open_exs
  obtain ⟨cc_8, h⟩ := h.open_exs
  have h := h.open_sepL
  obtain ⟨e, h⟩ := h.open_pur
  exact ⟨ca_1, cc_2, ca_3, cc_4, ca_5, cc_6, ca_7, cc_8, e, h⟩
theorem own_T_plunderlaw2_kept_sh {z w : World} {L : List HProp} {x : T_plunderlaw2_kept} {ca_1 : Option Addr} {cc_2 : Nat} {ca_3 : Option Addr} {cc_4 : Nat} {ca_5 : Option Addr} {cc_6 : Nat} {ca_7 : Option Addr} {cc_8 : Nat} (h : Fit z (sepL (ro2 ca_1 cc_2 x.l :: ro2 ca_3 cc_4 x.g1 :: ro2 ca_5 cc_6 x.g2 :: ro2 ca_7 cc_8 x.g3 :: L)) w) : Fit z (sepL (own_T_plunderlaw2_kept x [vI x.m, .slice ca_1 x.l.length cc_2, .slice ca_3 x.g1.length cc_4, .slice ca_5 x.g2.length cc_6, .slice ca_7 x.g3.length cc_8] :: L)) w := by
  unfold own_T_plunderlaw2_kept
  refine Fit.shut_exs ca_1 ?_
  refine Fit.shut_exs cc_2 ?_
  refine Fit.shut_exs ca_3 ?_
  refine Fit.shut_exs cc_4 ?_
  refine Fit.shut_exs ca_5 ?_
  refine Fit.shut_exs cc_6 ?_
  refine Fit.shut_exs ca_7 ?_
  refine Fit.shut_exs cc_8 ?_
  refine Fit.shut_sepL (pur (([vI x.m, .slice ca_1 x.l.length cc_2, .slice ca_3 x.g1.length cc_4, .slice ca_5 x.g2.length cc_6, .slice ca_7 x.g3.length cc_8] : List Value) = [vI x.m, .slice ca_1 x.l.length cc_2, .slice ca_3 x.g1.length cc_4, .slice ca_5 x.g2.length cc_6, .slice ca_7 x.g3.length cc_8]) :: ro2 ca_1 cc_2 x.l :: ro2 ca_3 cc_4 x.g1 :: ro2 ca_5 cc_6 x.g2 :: ro2 ca_7 cc_8 x.g3 :: []) L ?_
  exact h.shut_pur rfl

def own_T_plunderlaw2_noted (x : T_plunderlaw2_noted) (cs : List Value) : HProp := exs fun ca_1 : Option Addr => exs fun cc_2 : Nat => exs fun ca_3 : Option Addr => exs fun cc_4 : Nat => exs fun ca_5 : Option Addr => exs fun cc_6 : Nat => exs fun ca_7 : Option Addr => exs fun cc_8 : Nat => sepL [pur (cs = [vI x.m, .slice ca_1 x.l.length cc_2, .slice ca_3 x.g1.length cc_4, .slice ca_5 x.g2.length cc_6, .slice ca_7 x.g3.length cc_8]), ro90 ca_1 cc_2 x.l, ro90 ca_3 cc_4 x.g1, ro90 ca_5 cc_6 x.g2, ro90 ca_7 cc_8 x.g3]
theorem own_T_plunderlaw2_noted_op {z w : World} {L : List HProp} {x : T_plunderlaw2_noted} {cs : List Value} (h : Fit z (sepL (own_T_plunderlaw2_noted x cs :: L)) w) : ∃ ca_1 : Option Addr, ∃ cc_2 : Nat, ∃ ca_3 : Option Addr, ∃ cc_4 : Nat, ∃ ca_5 : Option Addr, ∃ cc_6 : Nat, ∃ ca_7 : Option Addr, ∃ cc_8 : Nat, cs = [vI x.m, .slice ca_1 x.l.length cc_2, .slice ca_3 x.g1.length cc_4, .slice ca_5 x.g2.length cc_6, .slice ca_7 x.g3.length cc_8] ∧ Fit z (sepL (ro90 ca_1 cc_2 x.l :: ro90 ca_3 cc_4 x.g1 :: ro90 ca_5 cc_6 x.g2 :: ro90 ca_7 cc_8 x.g3 :: L)) w := by
  unfold own_T_plunderlaw2_noted at h
  obtain ⟨ca_1, h⟩ := h.open_exs
  obtain ⟨cc_2, h⟩ := h.open_exs
  obtain ⟨ca_3, h⟩ := h.open_exs
  obtain ⟨cc_4, h⟩ := h.open_exs
  obtain ⟨ca_5, h⟩ := h.open_exs
  obtain ⟨cc_6, h⟩ := h.open_exs
  obtain ⟨ca_7, h⟩ := h.open_exs
  obtain ⟨cc_8, h⟩ := h.open_exs
  have h := h.open_sepL
  obtain ⟨e, h⟩ := h.open_pur
  exact ⟨ca_1, cc_2, ca_3, cc_4, ca_5, cc_6, ca_7, cc_8, e, h⟩
theorem own_T_plunderlaw2_noted_sh {z w : World} {L : List HProp} {x : T_plunderlaw2_noted} {ca_1 : Option Addr} {cc_2 : Nat} {ca_3 : Option Addr} {cc_4 : Nat} {ca_5 : Option Addr} {cc_6 : Nat} {ca_7 : Option Addr} {cc_8 : Nat} (h : Fit z (sepL (ro90 ca_1 cc_2 x.l :: ro90 ca_3 cc_4 x.g1 :: ro90 ca_5 cc_6 x.g2 :: ro90 ca_7 cc_8 x.g3 :: L)) w) : Fit z (sepL (own_T_plunderlaw2_noted x [vI x.m, .slice ca_1 x.l.length cc_2, .slice ca_3 x.g1.length cc_4, .slice ca_5 x.g2.length cc_6, .slice ca_7 x.g3.length cc_8] :: L)) w := by
  unfold own_T_plunderlaw2_noted
  refine Fit.shut_exs ca_1 ?_
  refine Fit.shut_exs cc_2 ?_
  refine Fit.shut_exs ca_3 ?_
  refine Fit.shut_exs cc_4 ?_
  refine Fit.shut_exs ca_5 ?_
  refine Fit.shut_exs cc_6 ?_
  refine Fit.shut_exs ca_7 ?_
  refine Fit.shut_exs cc_8 ?_
  refine Fit.shut_sepL (pur (([vI x.m, .slice ca_1 x.l.length cc_2, .slice ca_3 x.g1.length cc_4, .slice ca_5 x.g2.length cc_6, .slice ca_7 x.g3.length cc_8] : List Value) = [vI x.m, .slice ca_1 x.l.length cc_2, .slice ca_3 x.g1.length cc_4, .slice ca_5 x.g2.length cc_6, .slice ca_7 x.g3.length cc_8]) :: ro90 ca_1 cc_2 x.l :: ro90 ca_3 cc_4 x.g1 :: ro90 ca_5 cc_6 x.g2 :: ro90 ca_7 cc_8 x.g3 :: []) L ?_
  exact h.shut_pur rfl

abbrev ob78 (B : Nat) (S : T_plunderlaw2_book) (a0 : Option Addr) (c0 : Nat) (a1 : Option Addr) (c1 : Nat) : HProp := pts B (.cells #[.slice a0 S.numberLists.length c0, .slice a1 S.accessLists.length c1, vI S.next] 78)

abbrev rn139 (a : Option Addr) (c : Nat) (l : List T_plunderlaw2_kept) : HProp := rowN 139 5 own_T_plunderlaw2_kept (.slice a l.length c) l

abbrev rn142 (a : Option Addr) (c : Nat) (l : List T_plunderlaw2_noted) : HProp := rowN 142 5 own_T_plunderlaw2_noted (.slice a l.length c) l

structure T_api_Effect where
  V : Int
  OK : Bool
  Err : Int
deriving Inhabited, DecidableEq
def enc_T_api_Effect (x : T_api_Effect) : List Value := [vI x.V, vB x.OK, vI x.Err]
abbrev cl_T_api_Effect (x : T_api_Effect) : List Value := [vI x.V, vB x.OK, vI x.Err]
abbrev ca_T_api_Effect (x : T_api_Effect) : Array Value := #[vI x.V, vB x.OK, vI x.Err]
abbrev ag_T_api_Effect (x : T_api_Effect) : Value := .agg #[vI x.V, vB x.OK, vI x.Err]
theorem enc_T_api_Effect_ok : Enc enc_T_api_Effect 3 := ⟨fun _ => rfl, fun x u h => by simp only [enc_T_api_Effect, List.mem_cons, List.not_mem_nil, or_false] at h; rcases h with rfl | rfl | rfl <;> rfl, by decide⟩
theorem eq_T_api_Effect (x y : T_api_Effect) : eqvs (enc_T_api_Effect x) (enc_T_api_Effect y) = decide (x = y) := by
  rw [Bool.eq_iff_iff]; cases x; cases y; simp [enc_T_api_Effect, eqvs, and_assoc]

abbrev ob39 (B : Nat) (S : T_api_Effect)  : HProp := pts B (.cells #[vI S.V, vB S.OK, vI S.Err] 39)

structure T_api_Act where
  Who : Int
  Kind : Int
  Addr : Int
  A : Int
  B : Int
deriving Inhabited, DecidableEq
def enc_T_api_Act (x : T_api_Act) : List Value := [vI x.Who, vI x.Kind, vI x.Addr, vI x.A, vI x.B]
abbrev cl_T_api_Act (x : T_api_Act) : List Value := [vI x.Who, vI x.Kind, vI x.Addr, vI x.A, vI x.B]
abbrev ca_T_api_Act (x : T_api_Act) : Array Value := #[vI x.Who, vI x.Kind, vI x.Addr, vI x.A, vI x.B]
abbrev ag_T_api_Act (x : T_api_Act) : Value := .agg #[vI x.Who, vI x.Kind, vI x.Addr, vI x.A, vI x.B]
theorem enc_T_api_Act_ok : Enc enc_T_api_Act 5 := ⟨fun _ => rfl, fun x u h => by simp only [enc_T_api_Act, List.mem_cons, List.not_mem_nil, or_false] at h; rcases h with rfl | rfl | rfl | rfl | rfl <;> rfl, by decide⟩
theorem eq_T_api_Act (x y : T_api_Act) : eqvs (enc_T_api_Act x) (enc_T_api_Act y) = decide (x = y) := by
  rw [Bool.eq_iff_iff]; cases x; cases y; simp [enc_T_api_Act, eqvs, and_assoc]

abbrev ob57 (B : Nat) (S : T_api_Act)  : HProp := pts B (.cells #[vI S.Who, vI S.Kind, vI S.Addr, vI S.A, vI S.B] 57)

abbrev ob90 (B : Nat) (S : T_api_Access)  : HProp := pts B (.cells #[vI S.Who, vI S.Kind, vI S.Addr, vI S.A, vI S.B, vB S.OK] 90)

abbrev ob139 (B : Nat) (S : T_plunderlaw2_kept) (a1 : Option Addr) (c1 : Nat) (a2 : Option Addr) (c2 : Nat) (a3 : Option Addr) (c3 : Nat) (a4 : Option Addr) (c4 : Nat) : HProp := pts B (.cells #[vI S.m, .slice a1 S.l.length c1, .slice a2 S.g1.length c2, .slice a3 S.g2.length c3, .slice a4 S.g3.length c4] 139)

abbrev ob142 (B : Nat) (S : T_plunderlaw2_noted) (a1 : Option Addr) (c1 : Nat) (a2 : Option Addr) (c2 : Nat) (a3 : Option Addr) (c3 : Nat) (a4 : Option Addr) (c4 : Nat) : HProp := pts B (.cells #[vI S.m, .slice a1 S.l.length c1, .slice a2 S.g1.length c2, .slice a3 S.g2.length c3, .slice a4 S.g3.length c4] 142)

structure T_plunderlaw2_Kept where
  N : List (List Int)
  WantN : List (List Int)
  L : List (List T_api_Access)
  WantL : List (List T_api_Access)
  Sum : Int
deriving Inhabited, DecidableEq

def own_sl28 (x : List Int) (cs : List Value) : HProp := exs fun ca_1 : Option Addr => exs fun cc_2 : Nat => sepL [pur (cs = [.slice ca_1 x.length cc_2]), ro2 ca_1 cc_2 x]
theorem own_sl28_op {z w : World} {L : List HProp} {x : List Int} {cs : List Value} (h : Fit z (sepL (own_sl28 x cs :: L)) w) : ∃ ca_1 : Option Addr, ∃ cc_2 : Nat, cs = [.slice ca_1 x.length cc_2] ∧ Fit z (sepL (ro2 ca_1 cc_2 x :: L)) w := by
  unfold own_sl28 at h
  obtain ⟨ca_1, h⟩ := h.open_exs
  obtain ⟨cc_2, h⟩ := h.open_exs
  have h := h.open_sepL
  obtain ⟨e, h⟩ := h.open_pur
  exact ⟨ca_1, cc_2, e, h⟩
theorem own_sl28_sh {z w : World} {L : List HProp} {x : List Int} {ca_1 : Option Addr} {cc_2 : Nat} (h : Fit z (sepL (ro2 ca_1 cc_2 x :: L)) w) : Fit z (sepL (own_sl28 x [.slice ca_1 x.length cc_2] :: L)) w := by
  unfold own_sl28
  refine Fit.shut_exs ca_1 ?_
  refine Fit.shut_exs cc_2 ?_
  refine Fit.shut_sepL (pur (([.slice ca_1 x.length cc_2] : List Value) = [.slice ca_1 x.length cc_2]) :: ro2 ca_1 cc_2 x :: []) L ?_
  exact h.shut_pur rfl

def own_sl28F (x : List Int) (cs : List Value) : HProp := exs fun ca_1 : Option Addr => sepL [pur (cs = [.slice ca_1 x.length x.length]), ro2 ca_1 x.length x]
theorem own_sl28F_op {z w : World} {L : List HProp} {x : List Int} {cs : List Value} (h : Fit z (sepL (own_sl28F x cs :: L)) w) : ∃ ca_1 : Option Addr, cs = [.slice ca_1 x.length x.length] ∧ Fit z (sepL (ro2 ca_1 x.length x :: L)) w := by
  unfold own_sl28F at h
  obtain ⟨ca_1, h⟩ := h.open_exs
  have h := h.open_sepL
  obtain ⟨e, h⟩ := h.open_pur
  exact ⟨ca_1, e, h⟩
theorem own_sl28F_sh {z w : World} {L : List HProp} {x : List Int} {ca_1 : Option Addr} (h : Fit z (sepL (ro2 ca_1 x.length x :: L)) w) : Fit z (sepL (own_sl28F x [.slice ca_1 x.length x.length] :: L)) w := by
  unfold own_sl28F
  refine Fit.shut_exs ca_1 ?_
  refine Fit.shut_sepL (pur (([.slice ca_1 x.length x.length] : List Value) = [.slice ca_1 x.length x.length]) :: ro2 ca_1 x.length x :: []) L ?_
  exact h.shut_pur rfl

def own_sl60 (x : List T_api_Access) (cs : List Value) : HProp := exs fun ca_1 : Option Addr => exs fun cc_2 : Nat => sepL [pur (cs = [.slice ca_1 x.length cc_2]), ro90 ca_1 cc_2 x]
theorem own_sl60_op {z w : World} {L : List HProp} {x : List T_api_Access} {cs : List Value} (h : Fit z (sepL (own_sl60 x cs :: L)) w) : ∃ ca_1 : Option Addr, ∃ cc_2 : Nat, cs = [.slice ca_1 x.length cc_2] ∧ Fit z (sepL (ro90 ca_1 cc_2 x :: L)) w := by
  unfold own_sl60 at h
  obtain ⟨ca_1, h⟩ := h.open_exs
  obtain ⟨cc_2, h⟩ := h.open_exs
  have h := h.open_sepL
  obtain ⟨e, h⟩ := h.open_pur
  exact ⟨ca_1, cc_2, e, h⟩
theorem own_sl60_sh {z w : World} {L : List HProp} {x : List T_api_Access} {ca_1 : Option Addr} {cc_2 : Nat} (h : Fit z (sepL (ro90 ca_1 cc_2 x :: L)) w) : Fit z (sepL (own_sl60 x [.slice ca_1 x.length cc_2] :: L)) w := by
  unfold own_sl60
  refine Fit.shut_exs ca_1 ?_
  refine Fit.shut_exs cc_2 ?_
  refine Fit.shut_sepL (pur (([.slice ca_1 x.length cc_2] : List Value) = [.slice ca_1 x.length cc_2]) :: ro90 ca_1 cc_2 x :: []) L ?_
  exact h.shut_pur rfl

def own_sl60F (x : List T_api_Access) (cs : List Value) : HProp := exs fun ca_1 : Option Addr => sepL [pur (cs = [.slice ca_1 x.length x.length]), ro90 ca_1 x.length x]
theorem own_sl60F_op {z w : World} {L : List HProp} {x : List T_api_Access} {cs : List Value} (h : Fit z (sepL (own_sl60F x cs :: L)) w) : ∃ ca_1 : Option Addr, cs = [.slice ca_1 x.length x.length] ∧ Fit z (sepL (ro90 ca_1 x.length x :: L)) w := by
  unfold own_sl60F at h
  obtain ⟨ca_1, h⟩ := h.open_exs
  have h := h.open_sepL
  obtain ⟨e, h⟩ := h.open_pur
  exact ⟨ca_1, e, h⟩
theorem own_sl60F_sh {z w : World} {L : List HProp} {x : List T_api_Access} {ca_1 : Option Addr} (h : Fit z (sepL (ro90 ca_1 x.length x :: L)) w) : Fit z (sepL (own_sl60F x [.slice ca_1 x.length x.length] :: L)) w := by
  unfold own_sl60F
  refine Fit.shut_exs ca_1 ?_
  refine Fit.shut_sepL (pur (([.slice ca_1 x.length x.length] : List Value) = [.slice ca_1 x.length x.length]) :: ro90 ca_1 x.length x :: []) L ?_
  exact h.shut_pur rfl

abbrev ob128 (B : Nat) (S : T_plunderlaw2_Kept) (a0 : Option Addr) (c0 : Nat) (a1 : Option Addr) (c1 : Nat) (a2 : Option Addr) (c2 : Nat) (a3 : Option Addr) (c3 : Nat) : HProp := pts B (.cells #[.slice a0 S.N.length c0, .slice a1 S.WantN.length c1, .slice a2 S.L.length c2, .slice a3 S.WantL.length c3, vI S.Sum] 128)

abbrev rn28F (a : Option Addr) (c : Nat) (l : List (List Int)) : HProp := rowN 28 1 own_sl28F (.slice a l.length c) l

abbrev rn28 (a : Option Addr) (c : Nat) (l : List (List Int)) : HProp := rowN 28 1 own_sl28 (.slice a l.length c) l

abbrev rn60F (a : Option Addr) (c : Nat) (l : List (List T_api_Access)) : HProp := rowN 60 1 own_sl60F (.slice a l.length c) l

abbrev rn60 (a : Option Addr) (c : Nat) (l : List (List T_api_Access)) : HProp := rowN 60 1 own_sl60 (.slice a l.length c) l

end Go.Proofs.Ytacgigkonoegiaa.Mo

/- what the functions compute, as plain Lean functions, and that they do -/
import Derived.Test.YtacgigkonoegiaaLk
import Derived.Test.YtacgigkonoegiaaS
import Derived.Test.YtacgigkonoegiaaProg
namespace Go.Proofs.Ytacgigkonoegiaa.Mo
open Go Go.RowKit Go.Proofs.Ytacgigkonoegiaa.SL Go.Proofs.Ytacgigkonoegiaa.GX
set_option linter.unusedVariables false
set_option linter.unusedSimpArgs false

structure T_plunderlaw2_Move where
  Side : Int
  Kind : Int
  Addr : Int
  A : Int
  B : Int
deriving Inhabited, DecidableEq
def enc_T_plunderlaw2_Move (x : T_plunderlaw2_Move) : List Value := [vI x.Side, vI x.Kind, vI x.Addr, vI x.A, vI x.B]
abbrev cl_T_plunderlaw2_Move (x : T_plunderlaw2_Move) : List Value := [vI x.Side, vI x.Kind, vI x.Addr, vI x.A, vI x.B]
abbrev ca_T_plunderlaw2_Move (x : T_plunderlaw2_Move) : Array Value := #[vI x.Side, vI x.Kind, vI x.Addr, vI x.A, vI x.B]
abbrev ag_T_plunderlaw2_Move (x : T_plunderlaw2_Move) : Value := .agg #[vI x.Side, vI x.Kind, vI x.Addr, vI x.A, vI x.B]
theorem enc_T_plunderlaw2_Move_ok : Enc enc_T_plunderlaw2_Move 5 := ⟨fun _ => rfl, fun x u h => by simp only [enc_T_plunderlaw2_Move, List.mem_cons, List.not_mem_nil, or_false] at h; rcases h with rfl | rfl | rfl | rfl | rfl <;> rfl, by decide⟩
theorem eq_T_plunderlaw2_Move (x y : T_plunderlaw2_Move) : eqvs (enc_T_plunderlaw2_Move x) (enc_T_plunderlaw2_Move y) = decide (x = y) := by
  rw [Bool.eq_iff_iff]; cases x; cases y; simp [enc_T_plunderlaw2_Move, eqvs, and_assoc]

structure T_api_Access where
  Who : Int
  Kind : Int
  Addr : Int
  A : Int
  B : Int
  OK : Bool
deriving Inhabited, DecidableEq
def enc_T_api_Access (x : T_api_Access) : List Value := [vI x.Who, vI x.Kind, vI x.Addr, vI x.A, vI x.B, vB x.OK]
abbrev cl_T_api_Access (x : T_api_Access) : List Value := [vI x.Who, vI x.Kind, vI x.Addr, vI x.A, vI x.B, vB x.OK]
abbrev ca_T_api_Access (x : T_api_Access) : Array Value := #[vI x.Who, vI x.Kind, vI x.Addr, vI x.A, vI x.B, vB x.OK]
abbrev ag_T_api_Access (x : T_api_Access) : Value := .agg #[vI x.Who, vI x.Kind, vI x.Addr, vI x.A, vI x.B, vB x.OK]
theorem enc_T_api_Access_ok : Enc enc_T_api_Access 6 := ⟨fun _ => rfl, fun x u h => by simp only [enc_T_api_Access, List.mem_cons, List.not_mem_nil, or_false] at h; rcases h with rfl | rfl | rfl | rfl | rfl | rfl <;> rfl, by decide⟩
theorem eq_T_api_Access (x y : T_api_Access) : eqvs (enc_T_api_Access x) (enc_T_api_Access y) = decide (x = y) := by
  rw [Bool.eq_iff_iff]; cases x; cases y; simp [enc_T_api_Access, eqvs, and_assoc]

structure T_plunderref2_Arena where
  Most : Int
  Held : List Int
  On : Bool
  Actor : Int
  Book : List T_api_Access
deriving Inhabited, DecidableEq

abbrev ob62 (B : Nat) (S : T_plunderref2_Arena) (a1 : Option Addr) (c1 : Nat) (a4 : Option Addr) (c4 : Nat) : HProp := pts B (.cells #[vI S.Most, .slice a1 S.Held.length c1, vB S.On, vI S.Actor, .slice a4 S.Book.length c4] 62)

abbrev ro2 (a : Option Addr) (c : Nat) (l : List Int) : HProp := rowOf 2 1 encZ_i64 (.slice a l.length c) l

abbrev ro90 (a : Option Addr) (c : Nat) (l : List T_api_Access) : HProp := rowOf 90 6 enc_T_api_Access (.slice a l.length c) l

structure T_atomic_Int64 where
  v : Int
deriving Inhabited, DecidableEq
def enc_T_atomic_Int64 (x : T_atomic_Int64) : List Value := [vI x.v]
theorem enc_T_atomic_Int64_ok : Enc enc_T_atomic_Int64 1 := ⟨fun _ => rfl, fun x u h => by simp only [enc_T_atomic_Int64, List.mem_cons, List.not_mem_nil, or_false] at h; subst h; rfl, by decide⟩
theorem eq_T_atomic_Int64 (x y : T_atomic_Int64) : eqvs (enc_T_atomic_Int64 x) (enc_T_atomic_Int64 y) = decide (x = y) := by
  rw [Bool.eq_iff_iff]; cases x; cases y; simp [enc_T_atomic_Int64, eqvs]

abbrev ro107 (a : Option Addr) (c : Nat) (l : List T_atomic_Int64) : HProp := rowOf 107 1 enc_T_atomic_Int64 (.slice a l.length c) l

structure T_cells_Shared where
  ledger_size : Int
  ledger_mark : Int
  lock_mu_state : Int
  lock_mu_sema : Int
  given_v : Int
  cell : List T_atomic_Int64
deriving Inhabited, DecidableEq

abbrev ob110 (B : Nat) (S : T_cells_Shared) (a5 : Option Addr) (c5 : Nat) : HProp := pts B (.cells #[vI S.ledger_size, vI S.ledger_mark, .int .i32 S.lock_mu_state, .int .u32 S.lock_mu_sema, vI S.given_v, .slice a5 S.cell.length c5] 110)

abbrev ob30 (B : Nat) (S : T_plunderlaw2_Move)  : HProp := pts B (.cells #[vI S.Side, vI S.Kind, vI S.Addr, vI S.A, vI S.B] 30)

structure T_api_Effect where
  V : Int
  OK : Bool
  Err : Int
deriving Inhabited, DecidableEq
def enc_T_api_Effect (x : T_api_Effect) : List Value := [vI x.V, vB x.OK, vI x.Err]
abbrev cl_T_api_Effect (x : T_api_Effect) : List Value := [vI x.V, vB x.OK, vI x.Err]
abbrev ca_T_api_Effect (x : T_api_Effect) : Array Value := #[vI x.V, vB x.OK, vI x.Err]
abbrev ag_T_api_Effect (x : T_api_Effect) : Value := .agg #[vI x.V, vB x.OK, vI x.Err]
theorem enc_T_api_Effect_ok : Enc enc_T_api_Effect 3 := ⟨fun _ => rfl, fun x u h => by simp only [enc_T_api_Effect, List.mem_cons, List.not_mem_nil, or_false] at h; rcases h with rfl | rfl | rfl <;> rfl, by decide⟩
theorem eq_T_api_Effect (x y : T_api_Effect) : eqvs (enc_T_api_Effect x) (enc_T_api_Effect y) = decide (x = y) := by
  rw [Bool.eq_iff_iff]; cases x; cases y; simp [enc_T_api_Effect, eqvs, and_assoc]

abbrev ob39 (B : Nat) (S : T_api_Effect)  : HProp := pts B (.cells #[vI S.V, vB S.OK, vI S.Err] 39)

structure T_api_Act where
  Who : Int
  Kind : Int
  Addr : Int
  A : Int
  B : Int
deriving Inhabited, DecidableEq
def enc_T_api_Act (x : T_api_Act) : List Value := [vI x.Who, vI x.Kind, vI x.Addr, vI x.A, vI x.B]
abbrev cl_T_api_Act (x : T_api_Act) : List Value := [vI x.Who, vI x.Kind, vI x.Addr, vI x.A, vI x.B]
abbrev ca_T_api_Act (x : T_api_Act) : Array Value := #[vI x.Who, vI x.Kind, vI x.Addr, vI x.A, vI x.B]
abbrev ag_T_api_Act (x : T_api_Act) : Value := .agg #[vI x.Who, vI x.Kind, vI x.Addr, vI x.A, vI x.B]
theorem enc_T_api_Act_ok : Enc enc_T_api_Act 5 := ⟨fun _ => rfl, fun x u h => by simp only [enc_T_api_Act, List.mem_cons, List.not_mem_nil, or_false] at h; rcases h with rfl | rfl | rfl | rfl | rfl <;> rfl, by decide⟩
theorem eq_T_api_Act (x y : T_api_Act) : eqvs (enc_T_api_Act x) (enc_T_api_Act y) = decide (x = y) := by
  rw [Bool.eq_iff_iff]; cases x; cases y; simp [enc_T_api_Act, eqvs, and_assoc]

abbrev ob57 (B : Nat) (S : T_api_Act)  : HProp := pts B (.cells #[vI S.Who, vI S.Kind, vI S.Addr, vI S.A, vI S.B] 57)

abbrev ob90 (B : Nat) (S : T_api_Access)  : HProp := pts B (.cells #[vI S.Who, vI S.Kind, vI S.Addr, vI S.A, vI S.B, vB S.OK] 90)

end Go.Proofs.Ytacgigkonoegiaa.Mo

/- The arena (package cells) told as plain data, and as parts of the heap. -/
import Derived.Test.YtpikpffbcjpmcaaGreatDoorGZ
import Derived.Test.YtpikpffbcjpmcaaGreatDoorProg
namespace Go.Proofs.YtpikpffbcjpmcaaGreatDoor.Ar
open Go Go.RowKit Go.Proofs.YtpikpffbcjpmcaaGreatDoor.SL Go.Proofs.YtpikpffbcjpmcaaGreatDoor.GX

structure Acc where
  who : Int
  kind : Int
  addr : Int
  a : Int
  b : Int
  ok : Bool
deriving Inhabited, DecidableEq
def encI (x : Int) : List Value := [.int .i64 x]
def encAcc (x : Acc) : List Value := [.int .i64 x.who, .int .i64 x.kind, .int .i64 x.addr, .int .i64 x.a, .int .i64 x.b, .bool x.ok]
theorem encI_ok : Enc encI 1 := ⟨fun _ => rfl, fun x u h => by simp [encI] at h; subst h; rfl, by decide⟩
theorem encAcc_ok : Enc encAcc 6 := ⟨fun _ => rfl, fun x u h => by simp [encAcc] at h; rcases h with rfl | rfl | rfl | rfl | rfl | rfl <;> rfl, by decide⟩

structure ASt where
  size : Int
  cells : List Int
  log : List Acc
  actor : Int
  on : Bool

/-- The log behind an access. -/
def logn (on : Bool) (log : List Acc) (x : Acc) : List Acc := if on = true then log ++ [x] else log
def ASt.note (S : ASt) (k i x y : Int) (ok : Bool) : ASt := { S with log := logn S.on S.log ⟨S.actor, k, i, x, y, ok⟩ }
/-- Is the address in use? -/
def inbB (mk ad : Int) : Bool := decide (ad ≥ 0) && decide (ad < mk)
theorem inbB_true {mk ad : Int} (h : inbB mk ad = true) : 0 ≤ ad ∧ ad < mk := by simpa [inbB] using h
def ASt.load (S : ASt) (i : Int) : (Int × Int) × ASt :=
  if inbB S.cells.length i = true then ((at_ S.cells i.toNat, 0), S.note 0 i (at_ S.cells i.toNat) 0 true) else ((0, 20), S)
def ASt.store (S : ASt) (i v : Int) : Int × ASt :=
  if inbB S.cells.length i = true then (0, { S with cells := S.cells.set i.toNat v }.note 1 i v 0 true) else (20, S)
def ASt.cas (S : ASt) (i x y : Int) : (Bool × Int) × ASt :=
  if inbB S.cells.length i = true then
    if at_ S.cells i.toNat = x then ((true, 0), { S with cells := S.cells.set i.toNat y }.note 2 i x y true)
    else ((false, 0), S.note 2 i x y false)
  else ((false, 20), S)
def ASt.add (S : ASt) (i d : Int) : (Int × Int) × ASt :=
  if inbB S.cells.length i = true then
    ((IntKind.i64.wrap (at_ S.cells i.toNat + d), 0), { S with cells := S.cells.set i.toNat (IntKind.i64.wrap (at_ S.cells i.toNat + d)) }.note 3 i d (IntKind.i64.wrap (at_ S.cells i.toNat + d)) true)
  else ((0, 20), S)
def ASt.reserve (S : ASt) (n : Int) : (Int × Int) × ASt :=
  if n < 1 then ((0, 21), S)
  else if n > S.size - S.cells.length then ((0, 22), S)
  else ((((S.cells.length : Nat) : Int), 0), { S with cells := S.cells ++ List.replicate n.toNat 0 }.note 4 S.cells.length n 0 true)
section
variable {S : ASt} {i v x y d n : Int}
theorem ASt.load_in (h : inbB S.cells.length i = true) : S.load i = ((at_ S.cells i.toNat, 0), S.note 0 i (at_ S.cells i.toNat) 0 true) := by unfold ASt.load; rw [if_pos h]
theorem ASt.load_out (h : inbB S.cells.length i = false) : S.load i = ((0, 20), S) := by unfold ASt.load; rw [if_neg (by rw [h]; decide)]
theorem ASt.store_in (h : inbB S.cells.length i = true) : S.store i v = (0, { S with cells := S.cells.set i.toNat v }.note 1 i v 0 true) := by unfold ASt.store; rw [if_pos h]
theorem ASt.store_out (h : inbB S.cells.length i = false) : S.store i v = (20, S) := by unfold ASt.store; rw [if_neg (by rw [h]; decide)]
theorem ASt.cas_hit (h : inbB S.cells.length i = true) (e : at_ S.cells i.toNat = x) : S.cas i x y = ((true, 0), { S with cells := S.cells.set i.toNat y }.note 2 i x y true) := by unfold ASt.cas; rw [if_pos h, if_pos e]
theorem ASt.cas_miss (h : inbB S.cells.length i = true) (e : ¬ at_ S.cells i.toNat = x) : S.cas i x y = ((false, 0), S.note 2 i x y false) := by unfold ASt.cas; rw [if_pos h, if_neg e]
theorem ASt.cas_out (h : inbB S.cells.length i = false) : S.cas i x y = ((false, 20), S) := by unfold ASt.cas; rw [if_neg (by rw [h]; decide)]
theorem ASt.add_in (h : inbB S.cells.length i = true) : S.add i d = ((IntKind.i64.wrap (at_ S.cells i.toNat + d), 0), { S with cells := S.cells.set i.toNat (IntKind.i64.wrap (at_ S.cells i.toNat + d)) }.note 3 i d (IntKind.i64.wrap (at_ S.cells i.toNat + d)) true) := by unfold ASt.add; rw [if_pos h]
theorem ASt.add_out (h : inbB S.cells.length i = false) : S.add i d = ((0, 20), S) := by unfold ASt.add; rw [if_neg (by rw [h]; decide)]
theorem ASt.reserve_count (h : n < 1) : S.reserve n = ((0, 21), S) := by unfold ASt.reserve; rw [if_pos h]
theorem ASt.reserve_room (h : ¬ n < 1) (h' : n > S.size - S.cells.length) : S.reserve n = ((0, 22), S) := by unfold ASt.reserve; rw [if_neg h, if_pos h']
theorem ASt.reserve_ok (h : ¬ n < 1) (h' : ¬ n > S.size - S.cells.length) : S.reserve n = ((((S.cells.length : Nat) : Int), 0), { S with cells := S.cells ++ List.replicate n.toNat 0 }.note 4 S.cells.length n 0 true) := by unfold ASt.reserve; rw [if_neg h, if_neg h']
end

/-- One access, as the laws ask for it. -/
def ASt.done (S : ASt) (k i x y : Int) : (Int × Bool × Int) × ASt :=
  if k = 0 then (((S.load i).1.1, (S.load i).1.2 == 0, (S.load i).1.2), (S.load i).2)
  else if k = 1 then ((0, (S.store i x).1 == 0, (S.store i x).1), (S.store i x).2)
  else if k = 2 then ((0, (S.cas i x y).1.1, (S.cas i x y).1.2), (S.cas i x y).2)
  else if k = 3 then (((S.add i x).1.1, (S.add i x).1.2 == 0, (S.add i x).1.2), (S.add i x).2)
  else (((S.reserve x).1.1, (S.reserve x).1.2 == 0, (S.reserve x).1.2), (S.reserve x).2)
def goodB (n : Int) : Bool := decide (n ≥ 0) && decide (n ≤ 1048576)
def ASt.new (n : Int) : ASt := { size := n, cells := [], log := [], actor := 0, on := false }
def arCells (S : ASt) (ca : Option Addr) (cc : Nat) (la : Option Addr) (lc : Nat) : Obj :=
  .cells #[.int .i64 S.size, .int .i64 ((S.cells.length : Nat) : Int), .slice ca S.cells.length cc, .slice la S.log.length lc, .int .i64 S.actor, .bool S.on] 92
def ArenaP (A : Nat) (S : ASt) : HProp := exs fun ca => exs fun cc => exs fun la => exs fun lc =>
  sepL [pts A (arCells S ca cc la lc), rowOf 2 1 encI (.slice ca S.cells.length cc) S.cells, rowOf 159 6 encAcc (.slice la S.log.length lc) S.log]
section
variable {z w : World} {L : List HProp} {A : Nat} {S : ASt}
theorem ArenaP.op (h : Fit z (sepL (ArenaP A S :: L)) w) : ∃ ca cc la lc, Fit z (sepL (pts A (arCells S ca cc la lc) :: rowOf 2 1 encI (.slice ca S.cells.length cc) S.cells :: rowOf 159 6 encAcc (.slice la S.log.length lc) S.log :: L)) w := by
  obtain ⟨ca, h⟩ := h.open_exs
  obtain ⟨cc, h⟩ := h.open_exs
  obtain ⟨la, h⟩ := h.open_exs
  obtain ⟨lc, h⟩ := h.open_exs
  exact ⟨ca, cc, la, lc, h.open_sepL⟩
theorem ArenaP.sh {n m : Nat} {q : Int} {ca cc la lc} (h : Fit z (sepL (pts A (.cells #[.int .i64 S.size, .int .i64 q, .slice ca n cc, .slice la m lc, .int .i64 S.actor, .bool S.on] 92) :: rowOf 2 1 encI (.slice ca n cc) S.cells :: rowOf 159 6 encAcc (.slice la m lc) S.log :: L)) w)
    (hq : q = ((n : Nat) : Int)) (hn : n = S.cells.length) (hm : m = S.log.length) : Fit z (sepL (ArenaP A S :: L)) w := by
  subst hq
  subst hn
  subst hm
  exact Fit.shut_exs ca (Fit.shut_exs cc (Fit.shut_exs la (Fit.shut_exs lc (Fit.shut_sepL [_, _, _] L h))))
theorem ArenaP.mk {n : Int} (h : Fit z (sepL (pts A (.cells #[.int .i64 n, .int .i64 0, .slice none 0 0, .slice none 0 0, .int .i64 0, .bool false] 92) :: L)) w) : Fit z (sepL (ArenaP A (ASt.new n) :: L)) w := by
  have h1 : Fit z (sepL (rowOf 159 6 encAcc (.slice none 0 0) ([] : List Acc) :: pts A _ :: L)) w := h.row_nil
  have h2 : Fit z (sepL (rowOf 2 1 encI (.slice none 0 0) ([] : List Int) :: rowOf 159 6 encAcc (.slice none 0 0) ([] : List Acc) :: pts A _ :: L)) w := h1.row_nil
  exact ArenaP.sh (S := ASt.new n) (h2.pick 2) rfl rfl rfl
end
end Go.Proofs.YtpikpffbcjpmcaaGreatDoor.Ar

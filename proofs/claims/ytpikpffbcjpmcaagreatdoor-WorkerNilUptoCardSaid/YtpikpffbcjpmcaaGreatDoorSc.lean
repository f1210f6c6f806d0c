/- A part of an array that lies in an element of a row, as a slice; its copy over another element's array. -/
import Derived.Test.YtpikpffbcjpmcaaGreatDoorRn
import Derived.Test.YtpikpffbcjpmcaaGreatDoorSg
namespace Go.Proofs.YtpikpffbcjpmcaaGreatDoor.GX
open Go Go.RowKit Go.Proofs.YtpikpffbcjpmcaaGreatDoor.SL
set_option linter.unusedVariables false
set_option linter.unusedSimpArgs false
/-- m elements from lo on -/
def subA {α : Type} [Inhabited α] (l : List α) (lo m : Nat) : List α := (List.range m).map fun j => at_ l (lo + j)
theorem subA_len {α : Type} [Inhabited α] (l : List α) (lo m : Nat) : (subA l lo m).length = m := by simp [subA]
theorem flat1 {α : Type} {enc : α → List Value} (he : Enc enc 1) : ∀ (m : List α) (k : Nat), (m.drop k).flatMap enc = (m.flatMap enc).drop k
  | [], k => by simp
  | x :: m, 0 => by simp
  | x :: m, k + 1 => by
    obtain ⟨u, hu⟩ := List.length_eq_one_iff.1 (he.len x)
    rw [List.drop_succ_cons, flat1 he m k, List.flatMap_cons, hu]; rfl
theorem flat1t {α : Type} {enc : α → List Value} (he : Enc enc 1) : ∀ (m : List α) (k : Nat), (m.take k).flatMap enc = (m.flatMap enc).take k
  | [], k => by simp
  | x :: m, 0 => by simp
  | x :: m, k + 1 => by
    obtain ⟨u, hu⟩ := List.length_eq_one_iff.1 (he.len x)
    rw [List.take_succ_cons, List.flatMap_cons, flat1t he m k, List.flatMap_cons, hu]; rfl
theorem sub_cs {α : Type} [Inhabited α] {A : List Value} {N f lo m : Nat} {enc : α → List Value} {l : List α} (he : Enc enc 1) (hA : A.length = f) (hm : lo + m ≤ N) : ((A ++ encA N enc l).drop (f + lo)).take m = (subA l lo m).flatMap enc := by
  subst hA
  rw [List.drop_append, List.drop_eq_nil_of_le (by omega), List.nil_append, Nat.add_sub_cancel_left, encA_eq, ← flat1 he, ← flat1t he]
  congr 1
  apply List.ext_getElem
  · simp [subA]; omega
  · intro i h1 h2
    simp [subA]
section
variable {P : Program} {ops : Array Oper} {Q : Exit → Act → World → Prop} {a : Act} {w w0 w1 : World} {rest : List Oper} {o : Oper} {n d t T T2 : Nat} {v : Value} {l : List (Nat × Value)} {j e : Nat → Value} {L : List HProp} {Df : List Deferred}
theorem r_slA {x y y' : Operand} {k k' : IntKind} {lo hi : Int} {B off N : Nat} {E : TypeId} {w' : World} (ho : o.op = .slice t x (some y) (some y') none) (hx : evE e x = .pointer (some ⟨B, off, none⟩)) (hy : evE e y = .int k lo) (hy' : evE e y' = .int k' hi)
    (ht : P.underlying t = some (.array N E)) (hs : (P.info? E).map (·.size) = some 1) (hg : 0 ≤ lo ∧ lo ≤ hi ∧ hi ≤ N ∧ lo < N) : (execOp (evE e) o).run P w' = .ok (.value (.slice (some ⟨B, off + lo.toNat, none⟩) (hi.toNat - lo.toNat) (N - lo.toNat))) w' := by
  obtain ⟨h0, h1, h2, h3⟩ := hg
  obtain ⟨p, rfl⟩ := Int.eq_ofNat_of_zero_le h0
  obtain ⟨q, rfl⟩ := Int.eq_ofNat_of_zero_le (Int.le_trans h0 h1)
  have g1 : p ≤ q := by omega
  have g2 : q ≤ N := by omega
  have g6 : ¬ N = p := by omega
  unfold execOp
  cases hq : P.info? E with
  | none => simp [hq] at hs
  | some z =>
    simp [hq] at hs
    simp [ho, hx, hy, hy', Instr.sliceAt, Instr.slice, Instr.sliceBounds, Instr.sliceBound, run_underlying ht, asIntOf, asAddr, g1, g2, g6, sizeOf, typeInfo, hq, hs, Addr.add_lit, Instr.sureAddr]
/-- copy of a part of an array in an element over the array of another one. -/
theorem op_copy_sg {s x : Operand} {α β : Type} {sz n0 cc i f N cv i2 f2 lo m : Nat} {enc : α → List Value} {encI : β → List Value} {xs : List α} {ca : Option Addr} {ys : List β} {E I : TypeId} {p q p2 : α} (hw : Region.wanted o (yielded ops a.tmps) = true) (hd : o.dst = some d) (hn : Nat.blt d n = true) (hr : RepD Df n (lk l j) a)
    (ho : o.op = .call { callee := .builtin .copy, args := #[s, x], argTypes := #[t, t] }) (hs : evE (lk l j) s = .slice (some ⟨blk ca, i * sz + f, none⟩) N N) (hx : evE (lk l j) x = .slice (some ⟨blk ca, i2 * sz + f2 + lo, none⟩) m cv)
    (he : Enc enc sz) (hi : Enc encI 1) (hty : P.underlying t = some (.slice I)) (hsz : (P.info? I).map (·.size) = some 1) (hm : ys.length = m) (hlen : m ≤ N)
    (hF : Fit w0 (sepL (rowOf E sz enc (.slice ca n0 cc) xs :: L)) w) (hp2 : xs[i2]? = some p2) (hcs : ((enc p2).drop (f2 + lo)).take m = ys.flatMap encI) (hp : xs[i]? = some p) (hfit : f + m ≤ sz) (hq : enc q = (enc p).take f ++ ys.flatMap encI ++ (enc p).drop (f + m))
    (k : ∀ w1 a, Fit w0 (sepL (rowOf E sz enc (.slice ca n0 cc) (xs.set i q) :: L)) w1 → RepD Df n (lk ((d, .int .i64 ((m : Nat) : Int)) :: l) j) a → wpList P ops Q rest a w1) : wpList P ops Q (o :: rest) a w := by
  subst hm
  have hheld := hF.row_held he (f := f2 + lo) (xs := ys.flatMap encI) hp2 (by rw [show (ys.flatMap encI).length = ys.length by rw [hi.flat ys, Nat.mul_one]]; exact hcs)
  rw [← Nat.add_assoc] at hheld
  have hil : i < xs.length := (List.getElem?_eq_some_iff.1 hp).1
  have hn' := hF.row_n
  obtain ⟨hca, hF'⟩ := hF.row_addr (by omega)
  obtain ⟨hl1, hl2⟩ := hF'.slc_len
  obtain ⟨cur, hc1, hc2, hP⟩ := hF'.slc_cells
  have hle : i * sz + sz ≤ xs.length * sz := by
    have : (i + 1) * sz ≤ xs.length * sz := Nat.mul_le_mul_right _ hil
    rw [Nat.add_mul] at this
    omega
  have hle2 : xs.length * sz ≤ cc * sz := Nat.mul_le_mul_right _ hl1
  have hfl : (ys.flatMap encI).length = ys.length := by rw [hi.flat ys, Nat.mul_one]
  have hmin : Nat.min ys.length N = ys.length := Nat.min_eq_left hlen
  have hcells : (Builtin.firstCells 1 ys.length (.slice (some ⟨blk ca, i2 * sz + f2 + lo, none⟩) ys.length cv)).run P w = .ok (ys.flatMap encI).toArray w :=
    run_firstCells_some (P := P) w 1 ys.length _ _ _ (ys.flatMap encI) (by rw [hfl, Nat.mul_one]) (heldC_get hheld)
  have hst := run_storeCells_at P (blk ca) (i * sz + f) E (ys.flatMap encI) 0 cur w hP.block (by rw [hfl]; omega) (hi.flat_one ys)
  simp only [Nat.add_zero] at hst
  refine op_valw (w1 := w.setRow (blk ca) (cur.toList.take (i * sz + f) ++ ys.flatMap encI ++ cur.toList.drop (i * sz + f + (ys.flatMap encI).length)).toArray) (v := .int .i64 ((ys.length : Nat) : Int)) hw hd hn hr ?_ (fun a hr => k _ a (Fit.row_again ?_ hca (by rw [List.length_set]; exact hn')) hr)
  · unfold execOp
    cases hinf : P.info? I with
    | none => simp [hinf] at hsz
    | some q =>
      simp [hinf] at hsz
      simp only [ho, resolve, invoke, builtin, Sem.run_bind, Sem.run_pure, Result.andThen_ok, List.map_toArray, List.map_cons, List.map_nil, hs, hx]
      simp [Builtin.copy_, run_underlying hty, Builtin.lenOf, sizeOf, typeInfo, hinf, hsz, hmin, hcells, hst, goInt]
  · refine (hP.turn (w' := w.setRow (blk ca) (cur.toList.take (i * sz + f) ++ ys.flatMap encI ++ cur.toList.drop (i * sz + f + (ys.flatMap encI).length)).toArray) (setRow_heap w (blk ca) cur _ E (0, 0) hP.block) (fun k hk _ => setRow_other w (blk ca) k _ hk) rfl rfl rfl (by simp)).head fun z hz => ⟨by simpa using hl1, hl2, _, ?_, ?_, hz⟩
    · simp only [List.size_toArray, List.length_append, List.length_take, List.length_drop, Array.length_toList]
      omega
    · have hpe : ((xs.flatMap enc).drop (i * sz)).take sz = enc p := by
        apply List.ext_getElem?
        intro k
        rw [List.getElem?_take]
        by_cases hk : k < sz
        · rw [if_pos hk, List.getElem?_drop]
          exact he.get xs i k p hp hk
        · rw [if_neg hk, List.getElem?_eq_none (by rw [he.len]; omega)]
      rw [← hfl] at hq hfit
      generalize ys.flatMap encI = vs at hq hfit hst ⊢
      rw [List.length_set, he.set xs i q hil, hq, ← hpe, splice_mid _ _ _ _ _ hfit (by rw [he.flat]; exact hle), ← hc2]
      have hA : (cur.toList.take (i * sz + f)).length = i * sz + f := by rw [List.length_take, Array.length_toList]; omega
      have e1 : (cur.toList.take (i * sz + f) ++ vs ++ cur.toList.drop (i * sz + f + vs.length)).take (xs.length * sz) = cur.toList.take (i * sz + f) ++ vs ++ (cur.toList.drop (i * sz + f + vs.length)).take (xs.length * sz - (i * sz + f + vs.length)) := by
        rw [List.take_append, List.take_of_length_le (by rw [List.length_append, hA]; omega), List.length_append, hA]
      rw [List.toList_toArray, e1, List.take_take, Nat.min_eq_left (by omega), List.drop_take]
end
end Go.Proofs.YtpikpffbcjpmcaaGreatDoor.GX

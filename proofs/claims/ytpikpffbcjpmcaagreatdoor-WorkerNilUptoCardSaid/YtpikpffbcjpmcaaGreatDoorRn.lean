/- Slices of slices that are only read; a package variable that is only read; bits of numbers; make of slices. No program is named here. -/
import Derived.Test.YtpikpffbcjpmcaaGreatDoorC
namespace Go.Proofs.YtpikpffbcjpmcaaGreatDoor.GX
open Go Go.RowKit Go.Proofs.YtpikpffbcjpmcaaGreatDoor.SL
set_option linter.unusedVariables false
section
variable {P : Program} {w w0 w1 z : World} {ops : Array Oper} {a : Act} {rest : List Oper} {e : Nat → Value} {o : Oper} {t E : TypeId} {n d cc sz szI : Nat} {α β : Type} {l : List (Nat × Value)} {j : Nat → Value} {Df : List Deferred} {L : List HProp}
/-- Elements that hold, beside numbers, one slice each, and that slice's elements; hs: the slices' headers. -/
def RdN (L : List HProp) (sz szI : Nat) (enc : Option Addr → Nat → α → List Value) (encI : β → List Value) (fld : α → List β) (va : Option Addr) (hs : Nat → Option Addr × Nat) (l : List α) : Prop :=
  ∀ i x, l[i]? = some x → va = some ⟨blk va, offs va, none⟩ ∧ (∀ f u, (enc (hs i).1 (hs i).2 x)[f]? = some u → ∀ z w, Fit z (sepL L) w → w.cell? ⟨blk va, offs va + i * sz + f, none⟩ = some u) ∧ RdRow L szI encI (hs i).1 (fld x)
section
variable {enc : Option Addr → Nat → α → List Value} {encI : β → List Value} {fld : α → List β} {va : Option Addr} {hs : Nat → Option Addr × Nat} {l : List α}
theorem RdN.nil {L : List HProp} : RdN L sz szI enc encI fld va hs ([] : List α) := fun i x h => by simp at h
theorem RdN.up (k : Nat) {L' : List HProp} (h : RdN (L'.drop k) sz szI enc encI fld va hs l) : RdN L' sz szI enc encI fld va hs l :=
  fun i x hx => ⟨(h i x hx).1, fun f u hu z w hw => (h i x hx).2.1 f u hu z w (hw.dn k), (h i x hx).2.2.up k⟩
theorem RdN.take {L : List HProp} (h : RdN L sz szI enc encI fld va hs l) (k : Nat) : RdN L sz szI enc encI fld va hs (l.take k) := by
  intro i x hx
  refine h i x ?_
  rw [List.getElem?_take] at hx
  split at hx
  · exact hx
  · cases hx
theorem RdN.cell {z : World} {L : List HProp} [Inhabited α] {i : Int} (hF : RdN L sz szI enc encI fld va hs l) (hi : inr_ i l.length) (h : Fit z (sepL L) w) (f : Nat) {u : Value} (hu : (enc (hs i.toNat).1 (hs i.toNat).2 (at_ l i.toNat))[f]? = some u) : w.cell? ⟨blk va, offs va + i.toNat * sz + f, none⟩ = some u :=
  (hF _ _ (at_ok hi)).2.1 f u hu z w h
theorem RdN.inn {L : List HProp} [Inhabited α] {i : Int} (hF : RdN L sz szI enc encI fld va hs l) (hi : inr_ i l.length) : RdRow L szI encI (hs i.toNat).1 (fld (at_ l i.toNat)) := (hF _ _ (at_ok hi)).2.2
theorem RdN.cast {L : List HProp} {l2 : List α} (h : RdN L sz szI enc encI fld va hs l) (e : l = l2) : RdN L sz szI enc encI fld va hs l2 := e ▸ h
theorem RdN.ne {L : List HProp} (hF : RdN L sz szI enc encI fld va hs l) (h : 0 < l.length) : va = some ⟨blk va, offs va, none⟩ := (hF 0 _ (List.getElem?_eq_getElem h)).1
end
theorem RdRow.ne {L : List HProp} {enc : α → List Value} {va : Option Addr} {l : List α} (hF : RdRow L sz enc va l) (h : 0 < l.length) : va = some ⟨blk va, offs va, none⟩ := (hF 0 _ (List.getElem?_eq_getElem h)).1
theorem RdRow.cell0 {z : World} {L : List HProp} {enc : α → List Value} {b : Nat} [Inhabited α] {l : List α} {i : Int} (hF : RdRow L sz enc (some ⟨b, 0, none⟩) l) (hi : inr_ i l.length) (h : Fit z (sepL L) w) (f : Nat) {u : Value} (hu : (enc (at_ l i.toNat))[f]? = some u) : w.cell? ⟨blk (some ⟨b, 0, none⟩), i.toNat * sz + f, none⟩ = some u := by
  have e := (hF _ _ (at_ok hi)).2 f u hu z w h
  have o : offs (some ⟨b, 0, none⟩ : Option Addr) = 0 := rfl
  rw [o, Nat.zero_add] at e
  exact e
theorem ri_rn {x y : Operand} {k : IntKind} {i : Int} {n0 : Nat} {L : List HProp} {enc : Option Addr → Nat → α → List Value} {encI : β → List Value} {fld : α → List β} {va : Option Addr} {hs : Nat → Option Addr × Nat} [Inhabited α] {l : List α} (ho : o.op = .indexAddr t x y) (hx : evE e x = .slice va n0 cc) (hy : evE e y = .int k i) (hn0 : n0 = l.length)
    (ht : P.underlying t = some (.slice E)) (hs' : (P.info? E).map (·.size) = some sz) (hF : RdN L sz szI enc encI fld va hs l) (hi : inr_ i l.length) : (execOp (evE e) o).run P w = .ok (.value (.pointer (some ⟨blk va, offs va + i.toNat * sz, none⟩))) w := by
  have h0 := hi.1; have h1 := hi.2
  exact rie (hF _ _ (at_ok hi)).1 ho hx hy ht hs' h0 (by omega)
theorem run_eqnil (d : Nat) {T : TypeId} (b : Addr) (m c n' c' : Nat) (h : P.underlying T = some (.slice E)) : (Op.equalIn (d + 1) T (.slice (some b) m c) (.slice none n' c')).run P w = .ok false w := by
  simp [Op.equalIn, run_underlying h]
/-- A slice that is known not to be nil, beside nil. -/
theorem rnil_ne {x y : Operand} {T T' : TypeId} {n0 : Nat} {va : Option Addr} (ho : o.op = .binOp .eql T x y T') (hx : evE e x = .slice va n0 cc) (hy : evE e y = .slice none 0 0) (ht : P.underlying T = some (.slice E)) (hv : va = some ⟨blk va, offs va, none⟩) : (execOp (evE e) o).run P w = .ok (.value (.bool false)) w := by
  rw [hv] at hx
  have h := run_eqnil (P := P) (w := w) 9999 ⟨blk va, offs va, none⟩ n0 cc 0 0 ht
  unfold execOp
  simp only [ho, hx, hy, eqGuard, binOp, Op.equal, Op.maxDepth]
  simp [h]
theorem rnil_neq {x y : Operand} {T T' : TypeId} {n0 : Nat} {va : Option Addr} (ho : o.op = .binOp .neq T x y T') (hx : evE e x = .slice va n0 cc) (hy : evE e y = .slice none 0 0) (ht : P.underlying T = some (.slice E)) (hv : va = some ⟨blk va, offs va, none⟩) : (execOp (evE e) o).run P w = .ok (.value (.bool true)) w := by
  rw [hv] at hx
  have h := run_eqnil (P := P) (w := w) 9999 ⟨blk va, offs va, none⟩ n0 cc 0 0 ht
  unfold execOp
  simp only [ho, hx, hy, eqGuard, binOp, Op.equal, Op.maxDepth]
  simp [h]
/-- & and | of 64-bit numbers. -/
def band (x y : Int) : Int := IntKind.i64.wrap ((BitVec.ofInt 64 x &&& BitVec.ofInt 64 y).toNat)
def bor (x y : Int) : Int := IntKind.i64.wrap ((BitVec.ofInt 64 x ||| BitVec.ofInt 64 y).toNat)
theorem rand {x y : Operand} {p q : Int} {T T' : TypeId} (ho : o.op = .binOp .and T x y T') (hx : evE e x = .int .i64 p) (hy : evE e y = .int .i64 q) : (execOp (evE e) o).run P w = .ok (.value (.int .i64 (band p q))) w := by
  unfold execOp
  simp [ho, hx, hy, eqGuard, binOp, Op.intBits]; rfl
theorem ror {x y : Operand} {p q : Int} {T T' : TypeId} (ho : o.op = .binOp .or T x y T') (hx : evE e x = .int .i64 p) (hy : evE e y = .int .i64 q) : (execOp (evE e) o).run P w = .ok (.value (.int .i64 (bor p q))) w := by
  unfold execOp
  simp [ho, hx, hy, eqGuard, binOp, Op.intBits]; rfl
theorem _root_.Go.Proofs.YtpikpffbcjpmcaaGreatDoor.SL.Fit.row_ne {L : List HProp} {enc : α → List Value} {ca : Option Addr} {n : Nat} {l : List α} (h : Fit w0 (sepL (rowOf E sz enc (.slice ca n cc) l :: L)) w) (hl : 0 < l.length) : ca = some ⟨blk ca, offs ca, none⟩ := by
  have e := (h.row_addr hl).1
  rw [e]; rfl
theorem _root_.Go.Proofs.YtpikpffbcjpmcaaGreatDoor.SL.Fit.rowN_ne {L : List HProp} {own : α → List Value → HProp} {ca : Option Addr} {n : Nat} {l : List α} (h : Fit w0 (sepL (rowN E sz own (.slice ca n cc) l :: L)) w) (hl : 0 < l.length) : ca = some ⟨blk ca, offs ca, none⟩ := by
  have e := h.rowN_addr hl
  rw [e]; rfl
theorem _root_.Go.Proofs.YtpikpffbcjpmcaaGreatDoor.SL.Fit.row_cut {L : List HProp} {enc : α → List Value} {ca : Option Addr} {n : Nat} {l : List α} (he : Enc enc sz) (h : Fit w0 (sepL (rowOf E sz enc (.slice ca n cc) l :: L)) w) (l' : List α) (hl : ∃ k, l' = l.take k := by exact ⟨_, rfl⟩) : Fit w0 (sepL (rowOf E sz enc (.slice ca l'.length cc) l' :: L)) w := by
  obtain ⟨k, rfl⟩ := hl
  refine h.head fun x hx => ?_
  rcases hx with ⟨h1, h2, h3⟩ | ⟨g, cap, cur, h1, h2, h3, h4, h5, h6⟩
  · left
    simp only [Value.slice.injEq] at h1
    obtain ⟨rfl, rfl, rfl⟩ := h1
    subst h2
    exact ⟨by simp, by simp, h3⟩
  · right
    simp only [Value.slice.injEq] at h1
    obtain ⟨rfl, rfl, rfl⟩ := h1
    refine ⟨g, cc, cur, rfl, by rw [List.length_take]; omega, h3, h4, ?_, h6⟩
    have h7 : (l.take k).flatMap enc = (l.flatMap enc).take ((l.take k).length * sz) := by
      have e : (l.take k).flatMap enc ++ (l.drop k).flatMap enc = l.flatMap enc := by rw [← List.flatMap_append, List.take_append_drop]
      rw [← e, ← he.flat (l.take k), List.take_left]
    rw [h7, ← h5, List.take_take]
    congr 1
    rw [Nat.min_eq_left]
    exact Nat.mul_le_mul_right _ (by rw [List.length_take]; omega)
/-! ### make of slices -/
theorem Fit.many' {Q : HProp} (hz : ∀ {z w : World} {L : List HProp}, Fit z (sepL L) w → Fit z (sepL (Q :: L)) w) {L : List HProp} (h : Fit w0 (sepL L) w) : ∀ n, Fit w0 (sepL (List.replicate n Q ++ L)) w
  | 0 => h
  | n + 1 => by rw [List.replicate_succ]; exact hz (Fit.many' hz h n)
theorem _root_.Go.Proofs.YtpikpffbcjpmcaaGreatDoor.SL.Fit.rowN_fill {own : α → List Value → HProp} {v : Value} {z0 : α} {c : CellN sz} {L : List HProp} (hz : ∀ {z w : World} {L : List HProp}, Fit z (sepL L) w → Fit z (sepL (own z0 c.cs :: L)) w) (n : Nat) (h : Fit w0 (sepL (rowOf E sz CellN.cs v (List.replicate n c) :: L)) w) : Fit w0 (sepL (rowN E sz own v (List.replicate n z0) :: L)) w := by
  refine Fit.rowN_sh (css := List.replicate n c) (by simp) ?_
  have e : List.zipWith (fun x c => own x c.cs) (List.replicate n z0) (List.replicate n c) = List.replicate n (own z0 c.cs) := by simp [List.zipWith_replicate']
  rw [e]
  exact (Fit.many' hz h n).perm List.perm_middle
variable {Q : Exit → Act → World → Prop}
theorem op_make_rowN {x y : Operand} {i : Int} {bytes : Nat} {zc : Array Value} {own : α → List Value → HProp} (z0 : α) (hw : Region.wanted o (yielded ops a.tmps) = true) (hd : o.dst = some d) (hn : Nat.blt d n = true) (hr : RepD Df n (lk l j) a)
    (ho : o.op = .makeSlice t x y) (hx : evE (lk l j) x = .int .i64 i) (hy : evE (lk l j) y = .int .i64 i) (hi : 0 ≤ i ∧ i * bytes ≤ 140737488355328) (hlen : zc.toList.length = sz) (hone : ∀ u ∈ zc.toList, u.oneCell' = true) (hsz : 0 < sz) (hty : P.underlying t = some (.slice E))
    (hinfo : (P.info? E).map (fun i => (i.size, i.bytes, i.zero.map (·.cells))) = some (sz, bytes, some zc)) (hbp : Nat.blt 0 bytes = true) (hz : ∀ {z w : World} {L : List HProp}, Fit z (sepL L) w → Fit z (sepL (own z0 zc.toList :: L)) w) (hF : Fit w0 (sepL L) w)
    (k : ∀ ca w1 a, Fit w0 (sepL (rowN E sz own (.slice ca (List.replicate i.toNat z0).length i.toNat) (List.replicate i.toNat z0) :: L)) w1 → RepD Df n (lk ((d, .slice ca (List.replicate i.toNat z0).length i.toNat) :: l) j) a → wpList P ops Q rest a w1) : wpList P ops Q (o :: rest) a w :=
  op_make_row (⟨zc.toList, hlen, hone⟩ : CellN sz) hw hd hn hr ho hx hy hi (encN_ok hsz) hty hinfo rfl hbp hF fun ca w1 a h hr' => by
    have e : (List.replicate i.toNat (⟨zc.toList, hlen, hone⟩ : CellN sz)).length = (List.replicate i.toNat z0).length := by simp
    rw [e] at h hr'
    exact k ca w1 a (h.rowN_fill hz) hr'
/-! ### a part of an element -/
theorem splice_mid {β : Type} (F vs : List β) (a s f : Nat) (hf : f + vs.length ≤ s) (hs : a + s ≤ F.length) :
    F.take a ++ (((F.drop a).take s).take f ++ vs ++ ((F.drop a).take s).drop (f + vs.length)) ++ F.drop (a + s) = F.take (a + f) ++ vs ++ F.drop (a + f + vs.length) := by
  have e1 : F.take a ++ ((F.drop a).take s).take f = F.take (a + f) := by
    rw [List.take_take, Nat.min_eq_left (by omega), List.take_add]
  have e2 : ((F.drop a).take s).drop (f + vs.length) ++ F.drop (a + s) = F.drop (a + f + vs.length) := by
    have h := List.take_append_drop s (F.drop a)
    rw [List.drop_drop] at h
    have h2 := congrArg (List.drop (f + vs.length)) h
    rw [List.drop_append_of_le_length (by rw [List.length_take, List.length_drop]; omega), List.drop_drop] at h2
    rw [h2]; congr 1; omega
  rw [← e1, ← e2]
  simp only [List.append_assoc]
theorem op_stores_part {x y : Operand} {vs : List Value} {f : Nat} {α : Type} {sz n0 cc : Nat} {enc : α → List Value} {xs : List α} {ca : Option Addr} (hw : Region.wanted o (yielded ops a.tmps) = true) (hd : o.dst = none) (hr : RepD Df n (lk l j) a) (ho : o.op = .store t x y)
    {i : Nat} (hx : evE (lk l j) x = .pointer (some ⟨blk ca, i * sz + f, none⟩)) (hy : evE (lk l j) y = .agg vs.toArray) (h1 : vs.all (·.oneCell') = true) (hs : (P.info? t).map (·.size) = some vs.length)
    (he : Enc enc sz) (hF : Fit w0 (sepL (rowOf E sz enc (.slice ca n0 cc) xs :: L)) w) {p q : α} (hp : xs[i]? = some p) (hfit : f + vs.length ≤ sz) (hq : enc q = (enc p).take f ++ vs ++ (enc p).drop (f + vs.length))
    (k : ∀ w1, Fit w0 (sepL (rowOf E sz enc (.slice ca n0 cc) (xs.set i q) :: L)) w1 → wpList P ops Q rest a w1) : wpList P ops Q (o :: rest) a w := by
  have hi : i < xs.length := (List.getElem?_eq_some_iff.1 hp).1
  have hn := hF.row_n
  obtain ⟨hca, hF'⟩ := hF.row_addr (by omega)
  obtain ⟨hl1, hl2⟩ := hF'.slc_len
  obtain ⟨cur, hc1, hc2, hP⟩ := hF'.slc_cells
  have hle : i * sz + sz ≤ xs.length * sz := by
    have : (i + 1) * sz ≤ xs.length * sz := Nat.mul_le_mul_right _ hi
    rw [Nat.add_mul] at this
    omega
  have hle2 : xs.length * sz ≤ cc * sz := Nat.mul_le_mul_right _ hl1
  have hst := run_storeCells_at P (blk ca) (i * sz + f) E vs 0 cur w hP.block (by omega) (by simpa using h1)
  simp only [Nat.add_zero] at hst
  refine op_skip (w1 := w.setRow (blk ca) (cur.toList.take (i * sz + f) ++ vs ++ cur.toList.drop (i * sz + f + vs.length)).toArray) hw hd hr ?_ (k _ (Fit.row_again ?_ hca (by rw [List.length_set]; exact hn)))
  · unfold execOp
    cases hinf : P.info? t with
    | none => simp [hinf] at hs
    | some q =>
      simp [hinf] at hs
      simp only [ho, hx, hy, Instr.storeAt, Instr.sureAddr, storeVar, Sem.run_bind, Sem.run_pure, Result.andThen_ok, sizeOf, typeInfo, run_program, hinf, Value.cells]
      simp [hs, hst]
  · refine (hP.turn (w' := w.setRow (blk ca) (cur.toList.take (i * sz + f) ++ vs ++ cur.toList.drop (i * sz + f + vs.length)).toArray) (setRow_heap w (blk ca) cur _ E (0, 0) hP.block) (fun k hk _ => setRow_other w (blk ca) k _ hk) rfl rfl rfl (by simp)).head fun z hz => ⟨by simpa using hl1, hl2, _, ?_, ?_, hz⟩
    · simp only [List.size_toArray, List.length_append, List.length_take, List.length_drop, Array.length_toList]
      omega
    · have hpe : ((xs.flatMap enc).drop (i * sz)).take sz = enc p := by
        apply List.ext_getElem?
        intro k
        rw [List.getElem?_take]
        by_cases hk : k < sz
        · rw [if_pos hk, List.getElem?_drop]
          exact he.get xs i k p hp hk
        · rw [if_neg hk, List.getElem?_eq_none (by rw [he.len]; omega)]
      rw [List.length_set, he.set xs i q hi, hq, ← hpe, splice_mid _ _ _ _ _ hfit (by rw [he.flat]; exact hle), ← hc2]
      have hA : (cur.toList.take (i * sz + f)).length = i * sz + f := by rw [List.length_take, Array.length_toList]; omega
      have e1 : (cur.toList.take (i * sz + f) ++ vs ++ cur.toList.drop (i * sz + f + vs.length)).take (xs.length * sz) = cur.toList.take (i * sz + f) ++ vs ++ (cur.toList.drop (i * sz + f + vs.length)).take (xs.length * sz - (i * sz + f + vs.length)) := by
        rw [List.take_append, List.take_of_length_le (by rw [List.length_append, hA]; omega), List.length_append, hA]
      rw [List.toList_toArray, e1, List.take_take, Nat.min_eq_left (by omega), List.drop_take]
/-! ### fields that are structs or arrays -/
structure EncP (l : List Value) (n : Nat) : Prop where
  len : l.length = n
  one : ∀ u ∈ l, u.oneCell' = true
theorem EncP.lit {l : List Value} (n : Nat) (h : (Nat.beq l.length n && l.all (·.oneCell')) = true) : EncP l n := by
  simp only [Bool.and_eq_true, List.all_eq_true] at h
  exact ⟨Nat.eq_of_beq_eq_true h.1, h.2⟩
theorem EncP.app {a b : List Value} {m n : Nat} (h : EncP a m) (k : EncP b n) : EncP (a ++ b) (m + n) :=
  ⟨by rw [List.length_append, h.len, k.len], fun u hu => (List.mem_append.1 hu).elim (h.one u) (k.one u)⟩
theorem _root_.Go.Proofs.YtpikpffbcjpmcaaGreatDoor.SL.Enc.p {enc : α → List Value} (he : Enc enc sz) (x : α) : EncP (enc x) sz := ⟨he.len x, he.one x⟩
theorem EncP.enc {enc : α → List Value} {N : Nat} (h : ∀ x, EncP (enc x) N) (hp : 0 < N) (e : N = sz) : Enc enc sz := by
  subst e; exact ⟨fun x => (h x).len, fun x => (h x).one, hp⟩
def encA [Inhabited α] (N : Nat) (enc : α → List Value) (l : List α) : List Value := (List.range N).flatMap (fun i => enc (at_ l i))
theorem encA_ok [Inhabited α] (N : Nat) {enc : α → List Value} (he : Enc enc sz) (l : List α) : EncP (encA N enc l) (N * sz) := by
  unfold encA
  refine ⟨?_, fun u hu => ?_⟩
  · have e : (List.range N).flatMap (fun i => enc (at_ l i)) = ((List.range N).map (fun i => at_ l i)).flatMap enc := by rw [List.flatMap_map]
    rw [e, he.flat]; simp
  · obtain ⟨i, _, hi⟩ := List.mem_flatMap.1 hu
    exact he.one _ u hi
theorem heldC_mk {b : Nat} : ∀ (xs : List Value) (off : Nat), (∀ k u, xs[k]? = some u → w.cell? ⟨b, off + k, none⟩ = some u) → heldC w b off xs
  | [], _, _ => trivial
  | x :: xs, off, h => ⟨by simpa using h 0 x rfl, heldC_mk xs (off + 1) fun k u hu => by have := h (k + 1) u (by simpa using hu); rw [show off + 1 + k = off + (k + 1) by omega]; exact this⟩
theorem _root_.Go.Proofs.YtpikpffbcjpmcaaGreatDoor.SL.Fit.row_held {L : List HProp} {enc : α → List Value} {ca : Option Addr} {n i f : Nat} {l : List α} {x : α} {xs : List Value} (h : Fit w0 (sepL (rowOf E sz enc (.slice ca n cc) l :: L)) w) (he : Enc enc sz) (hx : l[i]? = some x) (hxs : ((enc x).drop f).take xs.length = xs) : heldC w (blk ca) (i * sz + f) xs := by
  refine heldC_mk xs _ fun k u hu => ?_
  rw [← hxs, List.getElem?_take] at hu
  split at hu
  · rw [List.getElem?_drop] at hu
    rw [show i * sz + f + k = i * sz + (f + k) by omega]
    exact h.row_cell he hx hu
  · cases hu
/-- The first of l are those of ys. -/
def cpA [Inhabited α] (N : Nat) (ys l : List α) : List α := (List.range N).map (fun i => if i < ys.length then at_ ys i else at_ l i)
/-- One of N is y. -/
def aset [Inhabited α] (N : Nat) (l : List α) (k : Nat) (y : α) : List α := (List.range N).map (fun i => if i = k then y else at_ l i)
theorem at_lt [Inhabited α] {l : List α} {i : Nat} (h : i < l.length) : at_ l i = l[i] := by
  have := get_at h
  rw [List.getElem?_eq_getElem h] at this
  exact (Option.some.inj this).symm
theorem at_mk [Inhabited α] {N i : Nat} (f : Nat → α) (h : i < N) : at_ ((List.range N).map f) i = f i := by
  rw [at_lt (by simpa using h)]
  simp
theorem encA_eq [Inhabited α] (N : Nat) (enc : α → List Value) (l : List α) : encA N enc l = ((List.range N).map (fun i => at_ l i)).flatMap enc := by unfold encA; rw [List.flatMap_map]
theorem range_at [Inhabited α] (l : List α) : (List.range l.length).map (fun i => at_ l i) = l := by
  apply List.ext_getElem (by simp)
  intro i h1 h2
  simp [at_lt h2]
theorem encA_cp [Inhabited α] {N : Nat} {enc : α → List Value} (he : Enc enc sz) {ys l : List α} (h : ys.length ≤ N) : encA N enc (cpA N ys l) = ys.flatMap enc ++ (encA N enc l).drop (ys.length * sz) := by
  have e1 : (List.range N).map (fun i => at_ (cpA N ys l) i) = ys ++ ((List.range N).map (fun i => at_ l i)).drop ys.length := by
    apply List.ext_getElem
    · simp; omega
    · intro i h1 h2
      have hi : i < N := by simpa using h1
      simp only [List.getElem_map, List.getElem_range]
      unfold cpA
      rw [at_mk _ hi, List.getElem_append]
      by_cases c : i < ys.length
      · rw [if_pos c, dif_pos c, at_lt c]
      · rw [if_neg c, dif_neg c]
        simp only [List.getElem_drop, List.getElem_map, List.getElem_range]
        congr 1; omega
  have e2 : ∀ (m : List α) (k : Nat), (m.drop k).flatMap enc = (m.flatMap enc).drop (k * sz) := by
    intro m k
    by_cases hk : k ≤ m.length
    · have e : (m.take k).flatMap enc ++ (m.drop k).flatMap enc = m.flatMap enc := by rw [← List.flatMap_append, List.take_append_drop]
      have hl : ((m.take k).flatMap enc).length = k * sz := by rw [he.flat, List.length_take, Nat.min_eq_left hk]
      rw [← e, ← hl, List.drop_left]
    · rw [List.drop_eq_nil_of_le (by omega), List.drop_eq_nil_of_le (by rw [he.flat]; exact Nat.mul_le_mul_right _ (by omega))]; rfl
  rw [encA_eq, e1, List.flatMap_append, e2, ← encA_eq]
theorem encA_set [Inhabited α] {N k : Nat} {enc : α → List Value} (he : Enc enc sz) {l : List α} {y : α} (h : k < N) : encA N enc (aset N l k y) = (encA N enc l).take (k * sz) ++ enc y ++ (encA N enc l).drop (k * sz + sz) := by
  have e1 : (List.range N).map (fun i => at_ (aset N l k y) i) = ((List.range N).map (fun i => at_ l i)).set k y := by
    apply List.ext_getElem
    · simp
    · intro i h1 h2
      have hi : i < N := by simpa using h1
      simp only [List.getElem_map, List.getElem_range]
      unfold aset
      rw [at_mk _ hi, List.getElem_set]
      by_cases c : i = k
      · rw [if_pos c, if_pos c.symm]
      · rw [if_neg c, if_neg (fun e => c e.symm)]
        simp
  rw [encA_eq, e1, he.set _ _ _ (by simpa using h), ← encA_eq]
theorem cp_hq {A E ys : List Value} {f k : Nat} (hA : A.length = f) : A ++ (ys ++ E.drop k) = (A ++ E).take f ++ ys ++ (A ++ E).drop (f + k) := by
  subst hA
  rw [List.take_left, List.append_assoc, List.drop_append]
  simp
/-- copy over an array that lies in an element of a row. -/
theorem op_copy_in {s x : Operand} {α β : Type} {sz szI n0 cc i f N cv : Nat} {enc : α → List Value} {encI : β → List Value} {xs : List α} {ca va : Option Addr} {ys : List β} {E I : TypeId} {p q : α} (hw : Region.wanted o (yielded ops a.tmps) = true) (hd : o.dst = some d) (hn : Nat.blt d n = true) (hr : RepD Df n (lk l j) a)
    (ho : o.op = .call { callee := .builtin .copy, args := #[s, x], argTypes := #[t, t] }) (hs : evE (lk l j) s = .slice (some ⟨blk ca, i * sz + f, none⟩) N N) (hx : evE (lk l j) x = .slice va ys.length cv)
    (he : Enc enc sz) (hi : Enc encI szI) (hty : P.underlying t = some (.slice I)) (hsz : (P.info? I).map (·.size) = some szI) (hlen : ys.length ≤ N)
    (hF : Fit w0 (sepL (rowOf E sz enc (.slice ca n0 cc) xs :: L)) w) (hv : RdRow L szI encI va ys) (hp : xs[i]? = some p) (hfit : f + ys.length * szI ≤ sz) (hq : enc q = (enc p).take f ++ ys.flatMap encI ++ (enc p).drop (f + ys.length * szI))
    (k : ∀ w1 a, Fit w0 (sepL (rowOf E sz enc (.slice ca n0 cc) (xs.set i q) :: L)) w1 → RepD Df n (lk ((d, .int .i64 ((ys.length : Nat) : Int)) :: l) j) a → wpList P ops Q rest a w1) : wpList P ops Q (o :: rest) a w := by
  have hil : i < xs.length := (List.getElem?_eq_some_iff.1 hp).1
  have hn' := hF.row_n
  obtain ⟨hca, hF'⟩ := hF.row_addr (by omega)
  obtain ⟨hl1, hl2⟩ := hF'.slc_len
  obtain ⟨cur, hc1, hc2, hP⟩ := hF'.slc_cells
  have hle : i * sz + sz ≤ xs.length * sz := by
    have : (i + 1) * sz ≤ xs.length * sz := Nat.mul_le_mul_right _ hil
    rw [Nat.add_mul] at this
    omega
  have hle2 : xs.length * sz ≤ cc * sz := Nat.mul_le_mul_right _ hl1
  have hfl : (ys.flatMap encI).length = ys.length * szI := hi.flat ys
  have hmin : Nat.min ys.length N = ys.length := Nat.min_eq_left hlen
  have hcells : (Builtin.firstCells szI ys.length (.slice va ys.length cv)).run P w = .ok (ys.flatMap encI).toArray w := by
    rcases Nat.eq_zero_or_pos ys.length with h0 | h0
    · have e : ys = [] := List.eq_nil_of_length_eq_zero h0
      subst e
      cases va with
      | none => exact run_firstCells_none (P := P) w szI _ _ _
      | some ad => exact run_firstCells_some (P := P) w szI 0 _ _ _ [] (by simp) (by simp)
    · have hva := hv.ne h0
      rw [hva]
      refine run_firstCells_some (P := P) w szI ys.length _ _ _ (ys.flatMap encI) hfl ?_
      intro jj u hu
      have hj : jj < ys.length * szI := by rw [← hfl]; exact (List.getElem?_eq_some_iff.1 hu).1
      have hpos : 0 < szI := hi.pos
      have h1 : jj / szI < ys.length := Nat.div_lt_of_lt_mul (by rw [Nat.mul_comm]; exact hj)
      have h2 : jj % szI < szI := Nat.mod_lt _ hpos
      have h3 : jj / szI * szI + jj % szI = jj := by rw [Nat.mul_comm]; exact Nat.div_add_mod jj szI
      have h4 := hi.get ys (jj / szI) (jj % szI) ys[jj / szI] (List.getElem?_eq_getElem h1) h2
      rw [h3, hu] at h4
      have h5 := (hv _ _ (List.getElem?_eq_getElem h1)).2 _ _ h4.symm _ _ hF.drop
      rw [Addr.add_lit, show offs va + jj = offs va + jj / szI * szI + jj % szI by omega]
      exact h5
  have hst := run_storeCells_at P (blk ca) (i * sz + f) E (ys.flatMap encI) 0 cur w hP.block (by rw [hfl]; omega) (hi.flat_one ys)
  simp only [Nat.add_zero] at hst
  refine op_valw (w1 := w.setRow (blk ca) (cur.toList.take (i * sz + f) ++ ys.flatMap encI ++ cur.toList.drop (i * sz + f + (ys.flatMap encI).length)).toArray) (v := .int .i64 ((ys.length : Nat) : Int)) hw hd hn hr ?_ (fun a hr => k _ a (Fit.row_again ?_ hca (by rw [List.length_set]; exact hn')) hr)
  · unfold execOp
    cases hinf : P.info? I with
    | none => simp [hinf] at hsz
    | some q =>
      simp [hinf] at hsz
      simp only [ho, resolve, invoke, builtin, Sem.run_bind, Sem.run_pure, Result.andThen_ok, List.map_toArray, List.map_cons, List.map_nil, hs, hx]
      simp [Builtin.copy_, run_underlying hty, Builtin.lenOf, sizeOf, typeInfo, hinf, hsz, hmin, hcells, hst, goInt]
  · refine (hP.turn (w' := w.setRow (blk ca) (cur.toList.take (i * sz + f) ++ ys.flatMap encI ++ cur.toList.drop (i * sz + f + (ys.flatMap encI).length)).toArray) (setRow_heap w (blk ca) cur _ E (0, 0) hP.block) (fun k hk _ => setRow_other w (blk ca) k _ hk) rfl rfl rfl (by simp)).head fun z hz => ⟨by simpa using hl1, hl2, _, ?_, ?_, hz⟩
    · simp only [List.size_toArray, List.length_append, List.length_take, List.length_drop, Array.length_toList]
      omega
    · have hpe : ((xs.flatMap enc).drop (i * sz)).take sz = enc p := by
        apply List.ext_getElem?
        intro k
        rw [List.getElem?_take]
        by_cases hk : k < sz
        · rw [if_pos hk, List.getElem?_drop]
          exact he.get xs i k p hp hk
        · rw [if_neg hk, List.getElem?_eq_none (by rw [he.len]; omega)]
      rw [← hfl] at hq hfit
      generalize ys.flatMap encI = vs at hq hfit hst ⊢
      rw [List.length_set, he.set xs i q hil, hq, ← hpe, splice_mid _ _ _ _ _ hfit (by rw [he.flat]; exact hle), ← hc2]
      have hA : (cur.toList.take (i * sz + f)).length = i * sz + f := by rw [List.length_take, Array.length_toList]; omega
      have e1 : (cur.toList.take (i * sz + f) ++ vs ++ cur.toList.drop (i * sz + f + vs.length)).take (xs.length * sz) = cur.toList.take (i * sz + f) ++ vs ++ (cur.toList.drop (i * sz + f + vs.length)).take (xs.length * sz - (i * sz + f + vs.length)) := by
        rw [List.take_append, List.take_of_length_le (by rw [List.length_append, hA]; omega), List.length_append, hA]
      rw [List.toList_toArray, e1, List.take_take, Nat.min_eq_left (by omega), List.drop_take]
/-! ### a row of rows, seen as one that is only read -/
def ownP (cn : Option Addr → Nat → α → List Value) (I : TypeId) (szI : Nat) (encI : β → List Value) (fld : α → List β) (p : α × (Option Addr × Nat)) (cs : List Value) : HProp :=
  sepL [pur (cs = cn p.2.1 p.2.2 p.1), rowOf I szI encI (.slice p.2.1 (fld p.1).length p.2.2) (fld p.1)]
section
variable {cn : Option Addr → Nat → α → List Value} {I : TypeId} {encI : β → List Value} {fld : α → List β} {own : α → List Value → HProp} {v : Value}
theorem ownP_op {p : α × (Option Addr × Nat)} {cs : List Value} {L : List HProp} (h : Fit z (sepL (ownP cn I szI encI fld p cs :: L)) w) : cs = cn p.2.1 p.2.2 p.1 ∧ Fit z (sepL (rowOf I szI encI (.slice p.2.1 (fld p.1).length p.2.2) (fld p.1) :: L)) w := by
  have h := h.open_sepL
  obtain ⟨e, h⟩ := h.open_pur
  exact ⟨e, h⟩
theorem ownP_sh {p : α × (Option Addr × Nat)} {L : List HProp} (h : Fit z (sepL (rowOf I szI encI (.slice p.2.1 (fld p.1).length p.2.2) (fld p.1) :: L)) w) : Fit z (sepL (ownP cn I szI encI fld p (cn p.2.1 p.2.2 p.1) :: L)) w := by
  refine Fit.shut_sepL (pur (cn p.2.1 p.2.2 p.1 = cn p.2.1 p.2.2 p.1) :: [rowOf I szI encI (.slice p.2.1 (fld p.1).length p.2.2) (fld p.1)]) L ?_
  exact h.shut_pur rfl
theorem zip_fix (hown : ∀ {z w : World} {L : List HProp} {x : α} {cs : List Value}, Fit z (sepL (own x cs :: L)) w → ∃ (ca : Option Addr) (cc : Nat), cs = cn ca cc x ∧ Fit z (sepL (rowOf I szI encI (.slice ca (fld x).length cc) (fld x) :: L)) w) :
    ∀ (l : List α) (css : List (CellN sz)) (M : List HProp), css.length = l.length → Fit z (sepL (List.zipWith (fun x c => own x c.cs) l css ++ M)) w → ∃ l' : List (α × (Option Addr × Nat)), l'.map Prod.fst = l ∧ l'.length = css.length ∧ Fit z (sepL (List.zipWith (fun x c => ownP cn I szI encI fld x c.cs) l' css ++ M)) w
  | [], css, M, hl, h => ⟨[], rfl, by simpa using hl.symm, by simpa using h⟩
  | x :: l, [], M, hl, h => by simp at hl
  | x :: l, c :: css, M, hl, h => by
    obtain ⟨ca, cc, e, h⟩ := hown h
    have h := ownP_sh (cn := cn) (p := (x, (ca, cc))) h
    rw [← e] at h
    have h2 := h.perm (List.perm_middle (l₁ := List.zipWith (fun x c => own x c.cs) l css) (a := ownP cn I szI encI fld (x, (ca, cc)) c.cs) (l₂ := M)).symm
    obtain ⟨l', e1, e2, h3⟩ := zip_fix (fun h => hown h) l css _ (by simpa using hl) h2
    exact ⟨(x, (ca, cc)) :: l', by simp [e1], by simp [e2], h3.perm List.perm_middle⟩
theorem zip_unfix (hsh : ∀ {z w : World} {L : List HProp} {x : α} {ca : Option Addr} {cc : Nat}, Fit z (sepL (rowOf I szI encI (.slice ca (fld x).length cc) (fld x) :: L)) w → Fit z (sepL (own x (cn ca cc x) :: L)) w) :
    ∀ (l' : List (α × (Option Addr × Nat))) (css : List (CellN sz)) (M : List HProp), css.length = l'.length → Fit z (sepL (List.zipWith (fun x c => ownP cn I szI encI fld x c.cs) l' css ++ M)) w → Fit z (sepL (List.zipWith (fun x c => own x c.cs) (l'.map Prod.fst) css ++ M)) w
  | [], css, M, hl, h => by simpa using h
  | p :: l, [], M, hl, h => by simp at hl
  | p :: l, c :: css, M, hl, h => by
    obtain ⟨e, h⟩ := ownP_op h
    have h := hsh h
    rw [← e] at h
    have h2 := h.perm (List.perm_middle (l₁ := List.zipWith (fun x c => ownP cn I szI encI fld x c.cs) l css) (a := own p.1 c.cs) (l₂ := M)).symm
    have h3 := zip_unfix (fun h => hsh h) l css _ (by simpa using hl) h2
    exact h3.perm List.perm_middle
/-- Each element's header is named. -/
theorem rowN_fix (hown : ∀ {z w : World} {L : List HProp} {x : α} {cs : List Value}, Fit z (sepL (own x cs :: L)) w → ∃ (ca : Option Addr) (cc : Nat), cs = cn ca cc x ∧ Fit z (sepL (rowOf I szI encI (.slice ca (fld x).length cc) (fld x) :: L)) w) {l : List α} {L : List HProp}
    (h : Fit z (sepL (rowN E sz own v l :: L)) w) : ∃ l' : List (α × (Option Addr × Nat)), l'.map Prod.fst = l ∧ Fit z (sepL (rowN E sz (ownP cn I szI encI fld) v l' :: L)) w := by
  obtain ⟨css, hl, h⟩ := h.rowN_op
  have h := h.perm (List.perm_middle (l₁ := List.zipWith (fun x c => own x c.cs) l css) (a := rowOf E sz CellN.cs v css) (l₂ := L)).symm
  obtain ⟨l', e1, e2, h⟩ := zip_fix (own := own) (cn := cn) (fun h => hown h) l css _ hl h
  exact ⟨l', e1, Fit.rowN_sh (css := css) e2.symm (h.perm List.perm_middle)⟩
theorem rowN_unfix (hsh : ∀ {z w : World} {L : List HProp} {x : α} {ca : Option Addr} {cc : Nat}, Fit z (sepL (rowOf I szI encI (.slice ca (fld x).length cc) (fld x) :: L)) w → Fit z (sepL (own x (cn ca cc x) :: L)) w) {l' : List (α × (Option Addr × Nat))} {L : List HProp}
    (h : Fit z (sepL (rowN E sz (ownP cn I szI encI fld) v l' :: L)) w) {l : List α} (e : l'.map Prod.fst = l) : Fit z (sepL (rowN E sz own v l :: L)) w := by
  subst e
  obtain ⟨css, hl, h⟩ := h.rowN_op
  have h := h.perm (List.perm_middle (l₁ := List.zipWith (fun x c => ownP cn I szI encI fld x c.cs) l' css) (a := rowOf E sz CellN.cs v css) (l₂ := L)).symm
  have h := zip_unfix (own := own) (fun h => hsh h) l' css _ hl h
  exact Fit.rowN_sh (css := css) (by simpa using hl) (h.perm List.perm_middle)
theorem RdN.of_rowP [Inhabited α] {l' : List (α × (Option Addr × Nat))} {L' L'' L3 : List HProp} {ca : Option Addr} {n cc : Nat} (heI : Enc encI szI) (hsz : 0 < sz) (h0 : Fit z (sepL (rowN E sz (ownP cn I szI encI fld) (.slice ca n cc) l' :: L'')) w)
    (f : ∀ {z w : World}, Fit z (sepL L') w → Fit z (sepL (rowN E sz (ownP cn I szI encI fld) (.slice ca n cc) l' :: L3)) w) : RdN L' sz szI cn encI fld ca (fun i => (at_ l' i).2) (l'.map Prod.fst) := by
  intro i x hx
  rw [List.getElem?_map] at hx
  cases hp : l'[i]? with
  | none => simp [hp] at hx
  | some p =>
    simp [hp] at hx
    subst hx
    have hil : i < l'.length := (List.getElem?_eq_some_iff.1 hp).1
    have hat : at_ l' i = p := by
      have := get_at hil
      rw [hp] at this
      exact (Option.some.inj this).symm
    have hca := h0.rowN_addr (by omega)
    have ho : offs ca = 0 := by rw [hca]; rfl
    simp only [hat]
    refine ⟨by rw [ho]; exact hca, fun g u hu z w hw => ?_, ?_⟩
    · rw [ho, Nat.zero_add]
      obtain ⟨cs, h⟩ := (f hw).rowN_take hp
      obtain ⟨e, _⟩ := ownP_op (h.pick 1)
      subst e
      exact h.rowH_cell hsz hu
    · intro k y hy
      have main : ∀ {z w : World}, Fit z (sepL L') w → ∃ M, Fit z (sepL (rowOf I szI encI (.slice p.2.1 (fld p.1).length p.2.2) (fld p.1) :: M)) w := fun hw => by
        obtain ⟨cs, h⟩ := (f hw).rowN_take hp
        obtain ⟨_, h⟩ := ownP_op (h.pick 1)
        exact ⟨_, h⟩
      have hkl : k < (fld p.1).length := (List.getElem?_eq_some_iff.1 hy).1
      have h1 : ∃ M, Fit z (sepL (rowOf I szI encI (.slice p.2.1 (fld p.1).length p.2.2) (fld p.1) :: M)) w := by
        obtain ⟨cs, h⟩ := h0.rowN_take hp
        obtain ⟨_, h⟩ := ownP_op (h.pick 1)
        exact ⟨_, h⟩
      obtain ⟨M, h1⟩ := h1
      have hc := (h1.row_addr (by omega)).1
      have ho2 : offs p.2.1 = 0 := by rw [hc]; rfl
      refine ⟨by rw [ho2]; exact hc, fun g u hu z w hw => ?_⟩
      obtain ⟨M, h2⟩ := main hw
      rw [ho2, Nat.zero_add]
      exact h2.row_cell heI hy hu
end
end
end Go.Proofs.YtpikpffbcjpmcaaGreatDoor.GX

/- A new world: the program's and the document's, whole. No memory is spoken of. -/
import Derived.Test.YtpikpffbcjpmcaaGreatDoorNewB
namespace Go.Proofs.YtpikpffbcjpmcaaGreatDoor.Mo
open Go Go.Proofs.YtpikpffbcjpmcaaGreatDoor.SL Go.Proofs.YtpikpffbcjpmcaaGreatDoor.GX
set_option linter.unusedVariables false
set_option linter.unusedSimpArgs false
section
variable {K : Nat}
theorem drop_at {α : Type} [Inhabited α] {l : List α} {i : Nat} (h : i < l.length) : l.drop i = at_ l i :: l.drop (i + 1) := by
  rw [List.drop_eq_getElem_cons h]; unfold at_; rw [List.getD_eq_getElem?_getD, List.getElem?_eq_getElem h]; rfl
theorem code_l {p : T_api_Program} (hv : Valid p) : ∀ (d k i : Nat) (l : List T_api_Func), i + d = p.Funcs.length → d < k → l.length = i → worker_New_iface_l1 K p k l (i : Int) = some (l ++ p.Funcs.drop i)
  | d, k, i, l, hd, hk, hl => by
    obtain ⟨k, rfl⟩ : ∃ m, k = m + 1 := ⟨k - 1, by omega⟩
    have := hv.n32
    rw [worker_New_iface_l1]
    by_cases hi : i < p.Funcs.length
    · obtain ⟨d, rfl⟩ : ∃ m, d = m + 1 := ⟨d - 1, by omega⟩
      have := (hv.shp i hi).c512
      rw [if_pos (by omega), if_pos ⟨by omega, by omega⟩, Int.toNat_natCast, if_pos (by simp; omega), if_pos (by omega), wiN (by omega), List.nil_append, code_l hv d k (i + 1) _ (by omega) (by omega) (by simp [hl]), drop_at hi, List.append_assoc]; rfl
    · rw [if_neg (by omega), List.drop_of_length_le (by omega), List.append_nil]
def zDeq : T_deque_Op := ⟨0, 0, 0, 0, 0, 0, 0, 0, 0, 0, 0, 0, 0, false, 0, 0⟩
def zTab : T_frames_Op := ⟨0, 0, 0, 0, 0, 0, 0, 0, 0⟩
def zLot : T_park_Op := ⟨0, 0, 0, 0, 0, 0, 0, 0, 0, List.replicate 64 ⟨0, 0⟩, ⟨0, 0, 0, 0, 0, 0, 0, 0, 0, 0, 0, 0, 0, false, 0, 0⟩⟩
/-- a worker at the beginning -/
def actor0 (i : Int) : T_worker_actor := ⟨i, 9, -1, 0, 0, 0, 0, 0, zDeq, zTab, zLot, false⟩
def actors (i : Nat) : Nat → List T_worker_actor
  | 0 => []
  | d + 1 => actor0 i :: actors (i + 1) d
theorem actors_len : ∀ (d i : Nat), (actors i d).length = d
  | 0, i => rfl
  | d + 1, i => by rw [actors, List.length_cons, actors_len d (i + 1)]
theorem actors_at : ∀ (d i j : Nat), j < d → at_ (actors i d) j = actor0 ((i + j : Nat) : Int)
  | d + 1, i, 0, _ => rfl
  | d + 1, i, j + 1, h => by
    have := actors_at d (i + 1) j (by omega)
    rw [show i + 1 + j = i + (j + 1) by omega] at this
    exact this
theorem actors_l {N : Nat} (hN : N ≤ 64) : ∀ (d k i : Nat) (l : List T_worker_actor), i + d = N → d < k → l.length = i → worker_New_iface_l2 K (N : Int) k l (i : Int) = some (l ++ actors i d)
  | d, k, i, l, hd, hk, hl => by
    obtain ⟨k, rfl⟩ : ∃ m, k = m + 1 := ⟨k - 1, by omega⟩
    rw [worker_New_iface_l2]
    by_cases hi : i < N
    · obtain ⟨d, rfl⟩ : ∃ m, d = m + 1 := ⟨d - 1, by omega⟩
      rw [if_pos (by omega), if_pos (by omega), wiN (by omega), actors_l hN d k (i + 1) _ (by omega) (by omega) (by simp [hl]), actors, List.append_assoc]; rfl
    · rw [if_neg (by omega)]
      obtain rfl : d = 0 := by omega
      rw [actors, List.append_nil]
def task0 : T_worker_task := ⟨0, 0, 0, 0, 0, 0, List.replicate 16 0⟩
/-- the program's new world -/
def wNew (p : T_api_Program) (args : List Int) (N F W : Nat) (most : Int) : T_worker_World :=
  { code := p.Funcs, result := 0, table_Base := 1, table_Frames := F, lot_Base := 2 + 10 * (F : Int), lot_Workers := N, deques := dqs (4 + 10 * F + N) W most 0 N,
    tasks := (List.replicate F task0).set 0 ⟨0, 0, -1, 0, 0, 1, cpA 16 args (List.replicate 16 0)⟩,
    workers := (actors 0 N).set 0 { actor0 0 with frame := 0, from_ := -1, about := 0 }, value := 0, left := false }
theorem setset {α : Type} {l : List α} {i : Nat} {x y : α} : (l.set i x).set i y = l.set i y := by rw [List.set_set]
/-- what New comes to -/
theorem new_ok {sz a : Int} {w : Bool} {p : T_api_Program} {args : List Int} {N F W : Nat} {lim : T_api_Limits} (hv : Valid p) (ha : (args.length : Int) = (at_ p.Funcs 0).Params) (hl : Lim lim.Frames lim.First lim.Most) (hF : lim.Frames = F) (hN1 : 1 ≤ N) (hN : N ≤ 64) (hW : (W : Int) = 4 + lim.First) (hs : sz ≤ 1000000000) (hs0 : 0 ≤ sz) (hK : 5000 < K) (hr : worker_refuse K p args (N : Int) lim = some 0) :
    (((4 + 10 * F + N + N * W : Nat) : Int) ≤ sz → ∃ c, worker_New_iface K (ar sz [] [] a w) p args (N : Int) lim = some (some (wNew p args N F W lim.Most), 0, ar sz c (wl w [] (laidL a N F lim.First)) a w) ∧ cutL sz (laidL a N F lim.First) = laidL a N F lim.First ∧ Laid0 N F W lim.First c) ∧
    (¬ ((4 + 10 * F + N + N * W : Nat) : Int) ≤ sz → ∃ c, worker_New_iface K (ar sz [] [] a w) p args (N : Int) lim = some (none, 22, ar sz c (wl w [] (cutL sz (laidL a N F lim.First))) a w)) := by
  have f1 := hl.f1
  have f2 := hl.f2
  have hp8 := (hv.shp 0 (by have := hv.n1; omega)).p8
  have hcode := code_l (K := K) hv p.Funcs.length K 0 [] (by omega) (by have := hv.n32; omega) rfl
  rw [Int.ofNat_zero, List.nil_append, List.drop_zero] at hcode
  unfold worker_New_iface
  rw [hr, ob1_some, if_pos rfl, if_pos ⟨by omega, by omega⟩, hcode, ob1_some]
  obtain ⟨l1, l2⟩ := lay_ok (K := K) (a := a) (w := w) hl hF hN1 hN hW hs hs0 hK (p0 := (⟨p.Funcs, 0, 0, 0, 0, 0, ([] : List T_deque_Deque), List.replicate lim.Frames.toNat (⟨0, 0, 0, 0, 0, 0, List.replicate 16 (0 : Int)⟩ : T_worker_task), ([] : List T_worker_actor), 0, false⟩ : T_worker_World)) rfl
  refine ⟨fun hf => ?_, fun hf => ?_⟩
  · obtain ⟨c, e1, e2, e3⟩ := l1 hf
    have hFt : lim.Frames.toNat = F := by omega
    have hact := actors_l (K := K) hN N K 0 [] (by omega) (by omega) rfl
    rw [Int.ofNat_zero, List.nil_append] at hact
    refine ⟨c, ?_, e2, e3⟩
    rw [e1, ob3_some, if_pos rfl]
    dsimp only
    rw [hFt, if_pos ⟨by decide, by rw [List.length_replicate]; omega⟩, if_pos ⟨by decide, by rw [List.length_set, List.length_replicate]; omega⟩, if_pos (by omega), hact, ob1_some, if_pos ⟨by decide, by rw [actors_len]; omega⟩]
    rw [setset, setset, setset, actors_at N 0 0 (by omega)]
    rfl
  · obtain ⟨X, c, e1⟩ := l2 hf
    rw [e1, ob3_some, if_neg (by decide)]
    exact ⟨c, rfl⟩
theorem new_no {S : T_cells_Arena} {p : T_api_Program} {args : List Int} {n : Int} {lim : T_api_Limits} {e : Int} (hr : worker_refuse K p args n lim = some e) (he : e ≠ 0) : worker_New_iface K S p args n lim = some (none, e, S) := by
  unfold worker_New_iface
  rw [hr, ob1_some, if_neg he]
/-! ### the document's -/
theorem zeros_l {n : Nat} (hn : n ≤ 1000000000) : ∀ (d k i : Nat) (l : List Int), i + d = n → d < k → l.length = i → plunderref11_New_l1 K (n : Int) k l (i : Int) = some (l ++ List.replicate d 0)
  | d, k, i, l, hd, hk, hl => by
    obtain ⟨k, rfl⟩ : ∃ m, k = m + 1 := ⟨k - 1, by omega⟩
    rw [plunderref11_New_l1]
    by_cases hi : i < n
    · obtain ⟨d, rfl⟩ : ∃ m, d = m + 1 := ⟨d - 1, by omega⟩
      rw [if_pos (by omega), if_pos (by omega), wiN (by omega), zeros_l hn d k (i + 1) _ (by omega) (by omega) (by simp [hl]), List.append_assoc, List.replicate_succ]; rfl
    · rw [if_neg (by omega)]
      obtain rfl : d = 0 := by omega
      simp
theorem join_ok (S : T_plunderref11_World) (fs : List T_api_Func) (ds : List Int) (f : Nat) (hf : f ≤ 100000) : plunderref11_World_join S fs ds (f : Int) = some (((2 + 10 * f : Nat) : Int)) := by
  unfold plunderref11_World_join
  rw [wi_in (x := (f : Int) * 10) (by omega), wi_in (by omega)]; congr 1; omega
theorem rjoin_l {p : T_api_Program} {lim : T_api_Limits} {ds : List Int} {F : Nat} (hF : lim.Frames = F) (hF2 : F ≤ 4096) : ∀ (d k i : Nat) (S : T_plunderref11_World), i + d = F → d < k → 2 + 10 * F ≤ S.Cells.length →
    ∃ c', plunderref11_New_l2 K p lim ds k S (i : Int) = some { S with Cells := c' } ∧ c'.length = S.Cells.length ∧ (∀ f, i ≤ f → f < F → at_ c' (2 + 10 * f) = 1) ∧ (∀ x, (∀ f, i ≤ f → f < F → x ≠ 2 + 10 * f) → at_ c' x = at_ S.Cells x)
  | d, k, i, S, hd, hk, hc => by
    obtain ⟨k, rfl⟩ : ∃ m, k = m + 1 := ⟨k - 1, by omega⟩
    rw [plunderref11_New_l2, hF]
    by_cases hi : i < F
    · obtain ⟨d, rfl⟩ : ∃ m, d = m + 1 := ⟨d - 1, by omega⟩
      rw [if_pos (by omega), join_ok _ _ _ _ (by omega), ob1_some, if_pos ⟨by omega, by omega⟩, Int.toNat_natCast, wiN (by omega)]
      obtain ⟨c', r1, r2, r3, r4⟩ := rjoin_l hF hF2 d k (i + 1) { S with Cells := S.Cells.set (2 + 10 * i) 1 } (by omega) (by omega) (by show 2 + 10 * F ≤ (S.Cells.set _ _).length; rw [List.length_set]; exact hc)
      refine ⟨c', r1, by rw [r2]; exact List.length_set, fun f h1 h2 => ?_, fun x hx => ?_⟩
      · by_cases e : f = i
        · subst e; rw [r4 _ (fun g h3 h4 => by omega), atset (by omega), if_pos rfl]
        · exact r3 f (by omega) h2
      · rw [r4 x (fun f h3 h4 => hx f (by omega) h4), atset (by omega), if_neg (hx i (Nat.le_refl _) hi)]
    · rw [if_neg (by omega)]
      exact ⟨S.Cells, rfl, rfl, fun f h1 h2 => by omega, fun _ _ => rfl⟩
theorem top_ok {S : T_plunderref11_World} (fs : List T_api_Func) (ds : List Int) {N F W : Nat} (hF : S.Lim_Frames = F) (hF2 : F ≤ 4096) (hN : S.N = N) (hN2 : N ≤ 64) (hW : (W : Int) = 4 + S.Lim_First) (hW2 : W ≤ 4100) {i : Nat} (hi : i ≤ N) :
    plunderref11_World_top S fs ds (i : Int) = some (((4 + 10 * F + N + i * W : Nat) : Int)) := by
  have h : i * W ≤ 64 * 4100 := Nat.mul_le_mul (by omega) hW2
  unfold plunderref11_World_top plunderref11_World_flag plunderref11_World_sleepers
  rw [hF, hN, wi_in (x := (F : Int) * 10) (by omega), wi_in (x := 2 + (F : Int) * 10) (by omega), ob1_some, wi_in (x := 2 + (F : Int) * 10 + 2) (by omega), wi_in (x := 2 + (F : Int) * 10 + 2 + (N : Int)) (by omega), ob1_some, wi_in (x := 4 + S.Lim_First) (by omega), ← hW]
  have e : (i : Int) * (W : Int) = ((i * W : Nat) : Int) := by simp
  rw [e, wi_in (x := ((i * W : Nat) : Int)) (by omega), wi_in (by omega)]; congr 1; omega
def rWk0 : T_plunderref11_Worker := ⟨38, 0, 0, 0, -1, 0, 0, 0, 0, 0, 0, 0, 0, 0⟩
theorem rdq_l {p : T_api_Program} {lim : T_api_Limits} {ds : List Int} {N F W : Nat} (hF2 : F ≤ 4096) (hN2 : N ≤ 64) (hW : (W : Int) = 4 + lim.First) (hW2 : 5 ≤ W) (hW3 : W ≤ 4100) : ∀ (d k i : Nat) (S : T_plunderref11_World), i + d = N → d < k → S.Lim_Frames = F → S.N = N → S.Lim_First = lim.First → S.Workers.length = i → S.Cells.length = 4 + 10 * F + N + N * W →
    (∀ j, i ≤ j → j < N → ∀ r, r < W → at_ S.Cells (4 + 10 * F + N + j * W + r) = 0) →
    ∃ c', plunderref11_New_l3 K p (N : Int) lim ds k S (i : Int) = some { S with Cells := c', Workers := S.Workers ++ List.replicate d rWk0 } ∧ c'.length = S.Cells.length ∧ (∀ x, x < 4 + 10 * F + N + i * W → at_ c' x = at_ S.Cells x) ∧
      (∀ j, i ≤ j → j < N → ∀ r, r < W → at_ c' (4 + 10 * F + N + j * W + r) = if r = 2 then ((4 + 10 * F + N + j * W + 3 : Nat) : Int) else if r = 3 then lim.First else 0)
  | d, k, i, S, hd, hk, h1, h2, h3, h4, h5, h6 => by
    obtain ⟨k, rfl⟩ : ∃ m, k = m + 1 := ⟨k - 1, by omega⟩
    rw [plunderref11_New_l3]
    by_cases hi : i < N
    · obtain ⟨d, rfl⟩ : ∃ m, d = m + 1 := ⟨d - 1, by omega⟩
      have hb : i * W + W ≤ N * W := by have := Nat.mul_le_mul_right W (show i + 1 ≤ N by omega); rw [Nat.succ_mul] at this; exact this
      have hNW : N * W ≤ 64 * 4100 := Nat.mul_le_mul hN2 hW3
      have ht : ∀ c, plunderref11_World_top ({ S with Cells := c } : T_plunderref11_World) p.Funcs ds (i : Int) = some (((4 + 10 * F + N + i * W : Nat) : Int)) := fun c => top_ok p.Funcs ds (N := N) (F := F) (W := W) h1 hF2 h2 hN2 (by rw [hW]; show 4 + lim.First = 4 + S.Lim_First; rw [h3]) hW3 (by omega)
      have ht0 := ht S.Cells
      unfold plunderref11_World_buf
      rw [if_pos (by omega)]
      rw [show plunderref11_World_top S p.Funcs ds (i : Int) = some (((4 + 10 * F + N + i * W : Nat) : Int)) from ht0, ob1_some, wi_in (x := ((4 + 10 * F + N + i * W : Nat) : Int) + 2) (by omega), ob1_some, ob1_some, wi_in (x := ((4 + 10 * F + N + i * W : Nat) : Int) + 3) (by omega), if_pos ⟨by omega, by omega⟩, ht, ob1_some,
        wi_in (x := ((4 + 10 * F + N + i * W : Nat) : Int) + 3) (by omega), if_pos ⟨by omega, by rw [List.length_set]; omega⟩, if_pos (by omega), wiN (by omega), show (((4 + 10 * F + N + i * W : Nat) : Int) + 2).toNat = 4 + 10 * F + N + i * W + 2 by omega, show (((4 + 10 * F + N + i * W : Nat) : Int) + 3).toNat = 4 + 10 * F + N + i * W + 3 by omega]
      have hcl : ((S.Cells.set (4 + 10 * F + N + i * W + 2) (((4 + 10 * F + N + i * W : Nat) : Int) + 3)).set (4 + 10 * F + N + i * W + 3) lim.First).length = S.Cells.length := by rw [List.length_set, List.length_set]
      have hget : ∀ x, at_ ((S.Cells.set (4 + 10 * F + N + i * W + 2) (((4 + 10 * F + N + i * W : Nat) : Int) + 3)).set (4 + 10 * F + N + i * W + 3) lim.First) x = if x = 4 + 10 * F + N + i * W + 3 then lim.First else if x = 4 + 10 * F + N + i * W + 2 then ((4 + 10 * F + N + i * W : Nat) : Int) + 3 else at_ S.Cells x := fun x => by
        rw [atset (by rw [List.length_set]; omega), atset (by omega)]
      obtain ⟨c', r1, r2, r3, r4⟩ := rdq_l (p := p) (ds := ds) hF2 hN2 hW hW2 hW3 d k (i + 1) { S with Cells := (S.Cells.set (4 + 10 * F + N + i * W + 2) (((4 + 10 * F + N + i * W : Nat) : Int) + 3)).set (4 + 10 * F + N + i * W + 3) lim.First, Workers := S.Workers ++ [rWk0] } (by omega) (by omega) h1 h2 h3 (by simp [h4]) (by rw [hcl]; exact h5) (fun j hj1 hj2 r hr => by
        have := Nat.mul_le_mul_right W (show i + 1 ≤ j by omega)
        rw [Nat.succ_mul] at this
        rw [hget, if_neg (by omega), if_neg (by omega)]; exact h6 j (by omega) hj2 r hr)
      refine ⟨c', ?_, by rw [r2]; exact hcl, fun x hx => ?_, fun j hj1 hj2 r hr => ?_⟩
      · rw [List.replicate_succ, show S.Workers ++ rWk0 :: List.replicate d rWk0 = (S.Workers ++ [rWk0]) ++ List.replicate d rWk0 by rw [List.append_assoc]; rfl]
        exact r1
      · rw [r3 x (by rw [Nat.succ_mul i W]; omega), hget, if_neg (by omega), if_neg (by omega)]
      · by_cases e : j = i
        · subst e
          rw [r3 _ (by rw [Nat.succ_mul j W]; omega), hget]
          by_cases e2 : r = 2
          · subst e2; rw [if_neg (by omega), if_pos rfl, if_pos rfl]; omega
          · by_cases e3 : r = 3
            · subst e3; rw [if_pos rfl, if_neg (by omega), if_pos rfl]
            · rw [if_neg (by omega), if_neg (by omega), if_neg e2, if_neg e3]; exact h6 j (Nat.le_refl _) hi r hr
        · exact r4 j (by omega) hj2 r hr
    · rw [if_neg (by omega)]
      obtain rfl : d = 0 := by omega
      refine ⟨S.Cells, by simp, rfl, fun _ _ => rfl, fun j h1 h2 => by omega⟩
theorem regs_l {p : T_api_Program} (hv : Valid p) : ∀ (d k i : Nat) (l : List Int), i + d = (at_ p.Funcs 0).Regs.toNat → d < k → l.length = i → plunderref11_New_l4 K p k l (i : Int) = some (l ++ List.replicate d 0)
  | d, k, i, l, hd, hk, hl => by
    obtain ⟨k, rfl⟩ : ∃ m, k = m + 1 := ⟨k - 1, by omega⟩
    have h1 := hv.n1
    have h2 := (hv.shp 0 (by omega)).r16
    have h3 := (hv.shp 0 (by omega)).r1
    rw [plunderref11_New_l4, if_pos ⟨by decide, by omega⟩]
    by_cases hi : i < (at_ p.Funcs 0).Regs.toNat
    · obtain ⟨d, rfl⟩ : ∃ m, d = m + 1 := ⟨d - 1, by omega⟩
      rw [if_pos (by omega), if_pos (by omega), wiN (by omega), regs_l hv d k (i + 1) _ (by omega) (by omega) (by simp [hl]), List.append_assoc, List.replicate_succ]; rfl
    · rw [if_neg (by omega)]
      obtain rfl : d = 0 := by omega
      simp
/-- the first of r are those of args -/
def over (args r : List Int) : List Int := args ++ r.drop args.length
theorem args_l {args : List Int} (h16 : args.length ≤ 16) : ∀ (d k i : Nat) (r : List Int), i + d = args.length → d < k → args.length ≤ r.length → r.take i = args.take i → plunderref11_New_l5 K args k r (i : Int) = some (over args r)
  | d, k, i, r, hd, hk, hr, hi' => by
    obtain ⟨k, rfl⟩ : ∃ m, k = m + 1 := ⟨k - 1, by omega⟩
    rw [plunderref11_New_l5]
    by_cases hi : i < args.length
    · obtain ⟨d, rfl⟩ : ∃ m, d = m + 1 := ⟨d - 1, by omega⟩
      rw [if_pos (by omega), if_pos ⟨by omega, by omega⟩, if_pos ⟨by omega, by omega⟩, Int.toNat_natCast, wiN (by omega), args_l h16 d k (i + 1) _ (by omega) (by omega) (by rw [List.length_set]; exact hr) (by
        rw [List.take_set, List.take_add_one, hi', List.take_add_one, List.getElem?_eq_getElem hi, List.getElem?_eq_getElem (by omega)]
        have hl : (List.take i args).length = i := by simp; omega
        rw [List.set_append, if_neg (by rw [hl]; omega)]
        simp only [Option.toList_some, hl, Nat.sub_self, List.set_cons_zero]
        unfold at_; rw [List.getD_eq_getElem?_getD, List.getElem?_eq_getElem hi]; rfl)]
      unfold over; rw [List.drop_set, if_pos hi]
    · rw [if_neg (by omega)]
      obtain rfl : i = args.length := by omega
      rw [List.take_length] at hi'
      unfold over
      have := List.take_append_drop args.length r
      rw [hi'] at this; rw [this]
/-- the document's new world -/
def rNew (p : T_api_Program) (args : List Int) (N F : Nat) (lim : T_api_Limits) (c : List Int) : T_plunderref11_World :=
  { N := N, Lim_Frames := lim.Frames, Lim_First := lim.First, Lim_Most := lim.Most, Cells := c, Frames := [⟨0, 0, -1, 0, 0, 1, over args (List.replicate (at_ p.Funcs 0).Regs.toNat 0)⟩],
    Workers := (List.replicate N rWk0).set 0 { rWk0 with Frame := 0, Now_K := 2, Now_A := 0, Now_B := -1, Now_C := 0 }, Events := [], Log := [], Drawn := 0, At := 0, Value := 0, HasV := false, Capped := false }
theorem rnew_ok {p : T_api_Program} {args ds : List Int} {N F W : Nat} {lim : T_api_Limits} (hv : Valid p) (ha : (args.length : Int) = (at_ p.Funcs 0).Params) (hl : Lim lim.Frames lim.First lim.Most) (hF : lim.Frames = F) (hN1 : 1 ≤ N) (hN : N ≤ 64) (hW : (W : Int) = 4 + lim.First) (hK : 400000 < K) :
    ∃ c, plunderref11_New K p args (N : Int) lim ds = some (rNew p args N F lim c) ∧ Laid0 N F W lim.First c := by
  have f1 := hl.f1
  have f2 := hl.f2
  have a1 := hl.a1
  have a2 := hl.a2
  have m2 := hl.m2
  have h0 := hv.shp 0 (by have := hv.n1; omega)
  have hp8 := h0.p8
  have hrp := h0.rp
  have hr16 := h0.r16
  have hNW : N * W ≤ 64 * 4100 := Nat.mul_le_mul hN (by omega)
  unfold plunderref11_New
  rw [top_ok p.Funcs ds (N := N) (F := F) (W := W) hF (by omega) rfl hN hW (by omega) (Nat.le_refl _), ob1_some]
  have hz := zeros_l (K := K) (n := 4 + 10 * F + N + N * W) (by omega) (4 + 10 * F + N + N * W) K 0 [] (by omega) (by omega) rfl
  rw [Int.ofNat_zero, List.nil_append] at hz
  rw [hz, ob1_some, if_pos ⟨by decide, by rw [List.length_replicate]; omega⟩, hF]
  have hc1 : ((List.replicate (4 + 10 * F + N + N * W) (0 : Int)).set 1 1).length = 4 + 10 * F + N + N * W := by rw [List.length_set, List.length_replicate]
  obtain ⟨c1, e1, e2, e3, e4⟩ := rjoin_l (K := K) (p := p) (lim := lim) (ds := ds) hF (by omega) F K 0 (⟨N, (F : Nat), lim.First, lim.Most, (List.replicate (4 + 10 * F + N + N * W) (0 : Int)).set 1 1, ([] : List T_plunderref11_Frame), ([] : List T_plunderref11_Worker), ([] : List T_api_Event), ([] : List T_api_Access), 0, 0, 0, false, false⟩ : T_plunderref11_World) (by omega) (by omega) (by rw [hc1]; omega)
  rw [Int.ofNat_zero] at e1
  rw [e1, ob1_some]
  have hb : ∀ x, 2 + 10 * F ≤ x → x < 4 + 10 * F + N + N * W → at_ c1 x = 0 := fun x h1 h2 => by
    rw [e4 x (fun f _ hf => by omega)]
    show at_ ((List.replicate (4 + 10 * F + N + N * W) (0 : Int)).set 1 1) x = 0
    rw [atset (by rw [List.length_replicate]; omega), if_neg (by omega), at_reps h2]
  obtain ⟨c2, g1, g2, g3, g4⟩ := rdq_l (K := K) (p := p) (lim := lim) (ds := ds) (N := N) (F := F) (W := W) (by omega) hN hW (by omega) (by omega) N K 0 (⟨N, (F : Nat), lim.First, lim.Most, c1, ([] : List T_plunderref11_Frame), ([] : List T_plunderref11_Worker), ([] : List T_api_Event), ([] : List T_api_Access), 0, 0, 0, false, false⟩ : T_plunderref11_World) (by omega) (by omega) rfl rfl rfl rfl (by rw [← hc1]; exact e2) (fun j hj1 hj2 r hr => hb _ (by omega) (by
      have := Nat.mul_le_mul_right W (show j + 1 ≤ N by omega)
      rw [Nat.succ_mul] at this; omega))
  rw [Int.ofNat_zero] at g1
  rw [g1, ob1_some]
  dsimp only
  have hwl : ([] ++ List.replicate N rWk0 : List T_plunderref11_Worker).length = N := by simp
  have hw0 : at_ ([] ++ List.replicate N rWk0 : List T_plunderref11_Worker) 0 = rWk0 := by rw [List.nil_append, at_reps (by omega)]
  rw [if_pos ⟨by decide, by rw [hwl]; omega⟩, if_pos ⟨by decide, by rw [List.length_set, hwl]; omega⟩, hw0]
  have hreg := regs_l (K := K) hv (at_ p.Funcs 0).Regs.toNat K 0 [] (by omega) (by omega) rfl
  rw [Int.ofNat_zero, List.nil_append] at hreg
  have harg := args_l (K := K) (args := args) (by omega) args.length K 0 (List.replicate (at_ p.Funcs 0).Regs.toNat 0) (by omega) (by omega) (by rw [List.length_replicate]; omega) rfl
  rw [Int.ofNat_zero] at harg
  refine ⟨c2, ?_, ⟨by rw [g2]; exact e2.trans hc1, ?_, ?_, fun f hf r hr => ?_, fun r hr => ?_, fun i hi r hr => g4 i (Nat.zero_le _) hi r hr⟩⟩
  · have hs : ∀ (x y : Option (List T_plunderref11_Worker)), x = y → ∀ f : List T_plunderref11_Worker → Option T_plunderref11_World, ob1 x f = ob1 y f := fun x y h f => by rw [h]
    rw [hs _ (some ((List.replicate N rWk0).set 0 { rWk0 with Frame := 0, Now_K := 2, Now_A := 0, Now_B := -1, Now_C := 0 })) (by
      split
      · rw [if_pos ⟨by decide, by rw [List.length_set, List.length_set, hwl]; omega⟩, setset, setset, List.nil_append]
      · rw [setset, List.nil_append]), ob1_some, hreg, ob1_some, harg, ob1_some, if_pos (by simp)]
    unfold rNew; rw [hF]; rfl
  · rw [g3 0 (by omega)]
    show at_ c1 0 = 0
    rw [e4 0 (fun f _ _ => by omega)]
    show at_ ((List.replicate (4 + 10 * F + N + N * W) (0 : Int)).set 1 1) 0 = 0
    rw [atset (by rw [List.length_replicate]; omega), if_neg (by decide), at_reps (by omega)]
  · rw [g3 1 (by omega)]
    show at_ c1 1 = 1
    rw [e4 1 (fun f _ _ => by omega)]
    show at_ ((List.replicate (4 + 10 * F + N + N * W) (0 : Int)).set 1 1) 1 = 1
    rw [atset (by rw [List.length_replicate]; omega), if_pos rfl]
  · rw [g3 _ (by omega)]
    show at_ c1 _ = _
    by_cases e : r = 0
    · subst e; rw [if_pos rfl]; exact e3 f (Nat.zero_le _) hf
    · rw [if_neg e, e4 _ (fun g _ _ => by omega)]
      show at_ ((List.replicate (4 + 10 * F + N + N * W) (0 : Int)).set 1 1) _ = 0
      rw [atset (by rw [List.length_replicate]; omega), if_neg (by omega), at_reps (by omega)]
  · rw [g3 _ (by omega)]; exact hb _ (by omega) (by omega)
end
end Go.Proofs.YtpikpffbcjpmcaaGreatDoor.Mo

/- The document's check of a program and the program's own go along the same points: plain lists. No memory is spoken of. -/
import Derived.Test.YtpikpffbcjpmcaaGreatDoorWo2
namespace Go.Proofs.YtpikpffbcjpmcaaGreatDoor.Mo
open Go Go.Proofs.YtpikpffbcjpmcaaGreatDoor.SL Go.Proofs.YtpikpffbcjpmcaaGreatDoor.GX
set_option linter.unusedVariables false
set_option linter.unusedSimpArgs false
section
variable {K : Nat}
theorem wiN {i : Nat} (h : i < 4611686018427387904) : wi ((i : Int) + 1) = ((i + 1 : Nat) : Int) := by rw [wi_in (by omega)]; omega
theorem at_reps {α : Type} [Inhabited α] {n i : Nat} {x : α} (h : i < n) : at_ (List.replicate n x) i = x := by
  unfold at_; rw [List.getD_eq_getElem?_getD, List.getElem?_replicate, if_pos h]; rfl
theorem at_mem_ {α : Type} [Inhabited α] {l : List α} {i : Nat} (h : i < l.length) : at_ l i ∈ l := by
  unfold at_; rw [List.getD_eq_getElem?_getD, List.getElem?_eq_getElem h]; exact List.getElem_mem h
theorem at_map_ {α β : Type} [Inhabited α] [Inhabited β] (f : α → β) {l : List α} {i : Nat} (h : i < l.length) : at_ (l.map f) i = f (at_ l i) := by
  unfold at_; rw [List.getD_eq_getElem?_getD, List.getD_eq_getElem?_getD, List.getElem?_map, List.getElem?_eq_getElem h]; rfl
/-! ### the points -/
abbrev Pt := Int × Int
def nx (f : T_api_Func) (a : Int) : List Int :=
  if (at_ f.Code a.toNat).Kind = 3 then [(at_ f.Code a.toNat).A] else if (at_ f.Code a.toNat).Kind = 9 then [] else if (at_ f.Code a.toNat).Kind = 4 then [a + 1, (at_ f.Code a.toNat).B] else [a + 1]
def aft (f : T_api_Func) (sl a st : Int) : Int :=
  if (at_ f.Code a.toNat).Kind = 5 ∧ (at_ f.Code a.toNat).A = sl then 2 else if (at_ f.Code a.toNat).Kind = 6 ∧ st = 2 then 4 else st
/-- the new points, out of one with the successors ns -/
def nw (V : List Pt) (s : Int) : List Int → List Pt
  | [] => []
  | n :: ns => if (n, s) ∈ V then nw V s ns else (n, s) :: nw (V ++ [(n, s)]) s ns
def bfs (f : T_api_Func) (sl : Int) : Nat → List Pt → Nat → List Pt
  | 0, V, _ => V
  | d + 1, V, k => if k < V.length then bfs f sl d (V ++ nw V (aft f sl (at_ V k).1 (at_ V k).2) (nx f (at_ V k).1)) (k + 1) else V
/-- a function that is sound: where it may go on lies within it -/
structure Snd (f : T_api_Func) : Prop where
  lo : 1 ≤ f.Code.length
  hi : f.Code.length ≤ 512
  nx : ∀ a : Int, 0 ≤ a → a < f.Code.length → ∀ n ∈ nx f a, 0 ≤ n ∧ n < f.Code.length
  kind : ∀ a : Int, 0 ≤ a → a < f.Code.length → 0 ≤ (at_ f.Code a.toNat).Kind ∧ (at_ f.Code a.toNat).Kind < 10
def st3 (s : Int) : Prop := s = 1 ∨ s = 2 ∨ s = 4
structure VOK (f : T_api_Func) (V : List Pt) : Prop where
  rng : ∀ x ∈ V, 0 ≤ x.1 ∧ x.1 < f.Code.length ∧ st3 x.2
  nd : V.Nodup
theorem nodup_le : ∀ (n : Nat) (l : List Nat), l.Nodup → (∀ x ∈ l, x < n) → l.length ≤ n
  | 0, l, _, h => by cases l with | nil => simp | cons a l => exact absurd (h a (by simp)) (by omega)
  | n + 1, l, hd, h => by
    by_cases e : n ∈ l
    · have := nodup_le n (l.erase n) (hd.erase n) (fun x hx => by
        have h1 := h x (List.mem_of_mem_erase hx)
        have : x ≠ n := fun e => by subst e; exact (List.Nodup.not_mem_erase hd) hx
        omega)
      rw [List.length_erase_of_mem e] at this; omega
    · have := nodup_le n l hd (fun x hx => by
        have h1 := h x hx
        have : x ≠ n := fun e' => by subst e'; exact e hx
        omega)
      omega
def cd (x : Pt) : Nat := x.1.toNat * 3 + (if x.2 = 1 then 0 else if x.2 = 2 then 1 else 2)
theorem VOK.len {f : T_api_Func} {V : List Pt} (h : VOK f V) : V.length ≤ 3 * f.Code.length := by
  have := nodup_le (3 * f.Code.length) (V.map cd) (by
    refine List.pairwise_map.2 (h.nd.imp_of_mem fun {x y} hx hy hxy e => hxy ?_)
    obtain ⟨a1, a2, a3⟩ := h.rng x hx
    obtain ⟨b1, b2, b3⟩ := h.rng y hy
    obtain ⟨x1, x2⟩ := x
    obtain ⟨y1, y2⟩ := y
    unfold cd at e
    simp only at *
    rcases a3 with rfl | rfl | rfl <;> rcases b3 with rfl | rfl | rfl <;> simp at e <;> first | omega | (obtain rfl : x1 = y1 := (by omega)); rfl) (fun n hn => by
    obtain ⟨x, hx, rfl⟩ := List.mem_map.1 hn
    obtain ⟨a1, a2, a3⟩ := h.rng x hx
    unfold cd
    rcases a3 with h | h | h <;> simp only [h] <;> simp <;> omega)
  simpa using this
theorem nw_spec {f : T_api_Func} {s : Int} (hs : st3 s) : ∀ (ns : List Int) (V : List Pt), VOK f V → (∀ n ∈ ns, 0 ≤ n ∧ n < f.Code.length) → VOK f (V ++ nw V s ns) ∧ ∀ n ∈ ns, (n, s) ∈ V ++ nw V s ns
  | [], V, h, _ => by simp [nw]; exact h
  | n :: ns, V, h, hn => by
    unfold nw
    split
    · rename_i e
      obtain ⟨a, b⟩ := nw_spec hs ns V h (fun m hm => hn m (List.mem_cons_of_mem _ hm))
      refine ⟨a, fun m hm => ?_⟩
      rcases List.mem_cons.1 hm with rfl | hm
      · exact List.mem_append_left _ e
      · exact b m hm
    · rename_i e
      have h' : VOK f (V ++ [(n, s)]) := ⟨fun x hx => by
        rcases List.mem_append.1 hx with hx | hx
        · exact h.rng x hx
        · rw [List.mem_singleton.1 hx]; exact ⟨(hn n (by simp)).1, (hn n (by simp)).2, hs⟩, List.nodup_append.2 ⟨h.nd, by simp, fun x hx y hy e' => by rw [List.mem_singleton.1 hy] at e'; subst e'; exact e hx⟩⟩
      obtain ⟨a, b⟩ := nw_spec hs ns (V ++ [(n, s)]) h' (fun m hm => hn m (List.mem_cons_of_mem _ hm))
      rw [List.append_assoc, List.singleton_append] at a b
      refine ⟨a, fun m hm => ?_⟩
      rcases List.mem_cons.1 hm with rfl | hm
      · simp
      · exact b m hm
/-- up to k, all that a point leads to is there -/
def Closed (f : T_api_Func) (sl : Int) (V : List Pt) (k : Nat) : Prop := ∀ j, j < k → j < V.length → ∀ n ∈ nx f (at_ V j).1, (n, aft f sl (at_ V j).1 (at_ V j).2) ∈ V
theorem aft3 {f : T_api_Func} {sl a s : Int} (h : st3 s) : st3 (aft f sl a s) := by
  unfold aft; split
  · exact .inr (.inl rfl)
  · split
    · exact .inr (.inr rfl)
    · exact h
theorem bfs_round {f : T_api_Func} (hf : Snd f) {sl : Int} {V : List Pt} {k : Nat} (h : VOK f V) (hk : k < V.length) (hc : Closed f sl V k) :
    VOK f (V ++ nw V (aft f sl (at_ V k).1 (at_ V k).2) (nx f (at_ V k).1)) ∧ Closed f sl (V ++ nw V (aft f sl (at_ V k).1 (at_ V k).2) (nx f (at_ V k).1)) (k + 1) := by
  obtain ⟨a1, a2, a3⟩ := h.rng _ (at_mem_ hk)
  obtain ⟨a, b⟩ := nw_spec (aft3 (f := f) (sl := sl) (a := (at_ V k).1) a3) (nx f (at_ V k).1) V h (hf.nx _ a1 a2)
  refine ⟨a, fun j hj hl n hn => ?_⟩
  have hjV : j < V.length := by omega
  rw [at_append_left hjV] at hn ⊢
  by_cases e : j = k
  · subst e; exact b n hn
  · exact List.mem_append_left _ (hc j (by omega) hjV n hn)
theorem bfs_ok {f : T_api_Func} (hf : Snd f) {sl : Int} : ∀ (d k : Nat) (V : List Pt), k + d = 3 * f.Code.length → VOK f V → Closed f sl V k → k ≤ V.length →
    VOK f (bfs f sl d V k) ∧ Closed f sl (bfs f sl d V k) (bfs f sl d V k).length ∧ (∀ x ∈ V, x ∈ bfs f sl d V k)
  | 0, k, V, hd, h, hc, hk => by
    unfold bfs
    have := h.len
    obtain rfl : k = V.length := by omega
    exact ⟨h, hc, fun _ h => h⟩
  | d + 1, k, V, hd, h, hc, hk => by
    unfold bfs
    split
    · rename_i e
      obtain ⟨a, b⟩ := bfs_round hf h e hc
      obtain ⟨r1, r2, r3⟩ := bfs_ok hf d (k + 1) _ (by omega) a b (by rw [List.length_append]; omega)
      exact ⟨r1, r2, fun x hx => r3 x (List.mem_append_left _ hx)⟩
    · rename_i e
      obtain rfl : k = V.length := by omega
      exact ⟨h, hc, fun _ h => h⟩
/-! ### the document's way -/
def wt (V : List Pt) (a : Int) : Int := (if (a, 1) ∈ V then 1 else 0) + (if (a, 2) ∈ V then 2 else 0) + (if (a, 4) ∈ V then 4 else 0)
structure Met (f : T_api_Func) (V : List Pt) (met : List Int) : Prop where
  len : met.length = f.Code.length
  val : ∀ a, a < f.Code.length → at_ met a = wt V a
theorem band0 : ∀ (a b c : Bool) (s : Int), st3 s → ((band ((if a then 1 else 0) + (if b then 2 else 0) + (if c then 4 else 0)) s = 0) ↔ (s = 1 ∧ a = false) ∨ (s = 2 ∧ b = false) ∨ (s = 4 ∧ c = false)) := by
  intro a b c s hs
  rcases hs with rfl | rfl | rfl <;> cases a <;> cases b <;> cases c <;> decide
theorem band_wt {V : List Pt} {a s : Int} (hs : st3 s) : band (wt V a) s = 0 ↔ (a, s) ∉ V := by
  have := band0 (decide ((a, 1) ∈ V)) (decide ((a, 2) ∈ V)) (decide ((a, 4) ∈ V)) s hs
  simp only [decide_eq_true_eq, decide_eq_false_iff_not] at this
  unfold wt; rw [this]
  rcases hs with rfl | rfl | rfl <;> simp
theorem wt_rng {V : List Pt} {a : Int} : 0 ≤ wt V a ∧ wt V a ≤ 7 := by
  unfold wt; split <;> split <;> split <;> omega
theorem wt_add {V : List Pt} {n s : Int} (hs : st3 s) (hn : (n, s) ∉ V) (a : Int) : wt (V ++ [(n, s)]) a = if a = n then wt V a + s else wt V a := by
  unfold wt
  by_cases e : a = n
  · subst e; rw [if_pos rfl]
    rcases hs with rfl | rfl | rfl <;> simp [hn] <;> omega
  · rw [if_neg e]; simp [e]
theorem Met.add {f : T_api_Func} {V : List Pt} {met : List Int} {n s : Int} (h : Met f V met) (hs : st3 s) (hn : (n, s) ∉ V) (h0 : 0 ≤ n) (h1 : n < f.Code.length) :
    Met f (V ++ [(n, s)]) (met.set n.toNat (wi (at_ met n.toNat + s))) := by
  refine ⟨by rw [List.length_set]; exact h.len, fun a ha => ?_⟩
  rw [wt_add hs hn]
  by_cases e : n.toNat = a
  · subst e
    rw [at_set_same (by rw [h.len]; omega), if_pos (by omega), h.val _ ha]
    have := wt_rng (V := V) (a := ((n.toNat : Nat) : Int))
    rw [wi_in]; rcases hs with rfl | rfl | rfl <;> omega
  · rw [at_set_ne e, if_neg (by omega), h.val a ha]
theorem ref_l2 {f : T_api_Func} {s : Int} (hs : st3 s) {ns : List Int} (hns : ∀ n ∈ ns, 0 ≤ n ∧ n < f.Code.length) (hlen : f.Code.length ≤ 512) (hnl : ns.length ≤ 2) : ∀ (d k i : Nat) (V : List Pt) (met : List Int), i + d = ns.length → d < k → VOK f V → Met f V met →
    ∃ met', plunderref5_slotStates_l2 K s ns k met (V.map (·.1)) (V.map (·.2)) (i : Int) = some (met', (V ++ nw V s (ns.drop i)).map (·.1), (V ++ nw V s (ns.drop i)).map (·.2)) ∧ Met f (V ++ nw V s (ns.drop i)) met'
  | d, k, i, V, met, hd, hk, hV, hm => by
    obtain ⟨k, rfl⟩ : ∃ m, k = m + 1 := ⟨k - 1, by omega⟩
    rw [plunderref5_slotStates_l2]
    have hL := hV.len
    by_cases hi : i < ns.length
    · obtain ⟨d, rfl⟩ : ∃ m, d = m + 1 := ⟨d - 1, by omega⟩
      have hdr : ns.drop i = at_ ns i :: ns.drop (i + 1) := by
        rw [List.drop_eq_getElem_cons hi]; unfold at_; rw [List.getD_eq_getElem?_getD, List.getElem?_eq_getElem hi]; rfl
      obtain ⟨n0, n1⟩ := hns _ (at_mem_ hi)
      rw [if_pos (by omega), if_pos ⟨by omega, by omega⟩, Int.toNat_natCast, if_pos ⟨n0, by rw [hm.len]; exact n1⟩, hm.val _ (by omega), show (((at_ ns i).toNat : Nat) : Int) = at_ ns i by omega, wiN (by omega), hdr]
      rw [nw]
      by_cases e : (at_ ns i, s) ∈ V
      · rw [if_neg (fun h => (band_wt hs).1 h e), if_pos e]
        exact ref_l2 hs hns hlen hnl d k (i + 1) V met (by omega) (by omega) hV hm
      · rw [if_pos ((band_wt hs).2 e), if_neg e, if_pos (by rw [List.length_map]; omega), if_pos (by rw [List.length_map]; omega)]
        have hV' : VOK f (V ++ [(at_ ns i, s)]) := ⟨fun x hx => by
          rcases List.mem_append.1 hx with hx | hx
          · exact hV.rng x hx
          · rw [List.mem_singleton.1 hx]; exact ⟨n0, n1, hs⟩, List.nodup_append.2 ⟨hV.nd, by simp, fun x hx y hy e' => by rw [List.mem_singleton.1 hy] at e'; subst e'; exact e hx⟩⟩
        have hm' := hm.add hs e n0 n1
        rw [hm.val _ (by omega), show (((at_ ns i).toNat : Nat) : Int) = at_ ns i by omega] at hm'
        obtain ⟨met', r1, r2⟩ := ref_l2 hs hns hlen hnl d k (i + 1) _ _ (by omega) (by omega) hV' hm'
        refine ⟨met', ?_, ?_⟩
        · rw [List.map_append, List.map_append, List.append_assoc, List.singleton_append] at r1
          exact r1
        · rw [List.append_assoc, List.singleton_append] at r2; exact r2
    · rw [if_neg (by omega), List.drop_of_length_le (by omega)]
      simp only [nw, List.append_nil]
      exact ⟨met, rfl, hm⟩
theorem after_ok {f : T_api_Func} {sl a s : Int} : plunderref5_After (at_ f.Code a.toNat) sl s = some (aft f sl a s) ∧ prog_behind (at_ f.Code a.toNat) sl s = some (aft f sl a s) := by
  unfold plunderref5_After prog_behind aft
  by_cases h1 : (at_ f.Code a.toNat).Kind = 5
  · by_cases h2 : (at_ f.Code a.toNat).A = sl
    · simp [h1, h2]
    · simp [h1, h2]
  · by_cases h2 : (at_ f.Code a.toNat).Kind = 6
    · by_cases h3 : s = 2 <;> simp [h1, h2, h3]
    · simp [h1, h2]
theorem nexts_ok {f : T_api_Func} (hlen : f.Code.length ≤ 512) {a : Int} (h0 : 0 ≤ a) (h1 : a < f.Code.length) : plunderref5_Nexts f a = some (nx f a) := by
  unfold plunderref5_Nexts nx
  rw [if_pos ⟨h0, h1⟩, wi_in (x := a + 1) (by omega)]
  split
  · rfl
  · split
    · rfl
    · split <;> rfl
theorem nx_len {f : T_api_Func} {a : Int} : (nx f a).length ≤ 2 := by unfold nx; split; · simp
                                                                      split; · simp
                                                                      split <;> simp
theorem ref_l1 {f : T_api_Func} (hf : Snd f) {sl : Int} (hK : 3000 < K) : ∀ (d j k : Nat) (V : List Pt) (met : List Int), j + d = 3 * f.Code.length → d < k → j ≤ V.length → VOK f V → Closed f sl V j → Met f V met →
    ∃ met', plunderref5_slotStates_l1 K f sl k met (V.map (·.1)) (V.map (·.2)) (j : Int) = some met' ∧ Met f (bfs f sl d V j) met'
  | d, j, k, V, met, hd, hk, hj, hV, hc, hm => by
    obtain ⟨k, rfl⟩ : ∃ m, k = m + 1 := ⟨k - 1, by omega⟩
    rw [plunderref5_slotStates_l1]
    have hL := hV.len
    have h512 := hf.hi
    by_cases hi : j < V.length
    · obtain ⟨d, rfl⟩ : ∃ m, d = m + 1 := ⟨d - 1, by omega⟩
      obtain ⟨a1, a2, a3⟩ := hV.rng _ (at_mem_ hi)
      rw [if_pos (by rw [List.length_map]; omega), if_pos ⟨by omega, by rw [List.length_map]; omega⟩, Int.toNat_natCast, at_map_ _ hi, at_map_ _ hi, if_pos ⟨a1, a2⟩, if_pos ⟨by omega, by rw [List.length_map]; omega⟩, after_ok.1, ob1_some, nexts_ok h512 a1 a2, ob1_some, wiN (by omega)]
      obtain ⟨met', r1, r2⟩ := ref_l2 (K := K) (f := f) (s := aft f sl (at_ V j).1 (at_ V j).2) (aft3 a3) (ns := nx f (at_ V j).1) (hf.nx _ a1 a2) h512 nx_len (nx f (at_ V j).1).length K 0 V met (by omega) (by have := nx_len (f := f) (a := (at_ V j).1); omega) hV hm
      rw [Int.ofNat_zero] at r1; rw [r1, ob3_some, bfs, if_pos hi]
      obtain ⟨b1, b2⟩ := bfs_round hf hV hi hc
      exact ref_l1 hf hK d (j + 1) k _ _ (by omega) (by omega) (by rw [List.length_append]; omega) b1 b2 r2
    · rw [if_neg (by rw [List.length_map]; omega)]
      refine ⟨met, rfl, ?_⟩
      cases d with
      | zero => exact hm
      | succ d => rw [bfs, if_neg hi]; exact hm
def reach (f : T_api_Func) (sl : Int) : List Pt := bfs f sl (3 * f.Code.length) [(0, 1)] 0
theorem vok0 {f : T_api_Func} (hf : Snd f) : VOK f [(0, 1)] := ⟨fun x hx => by rw [List.mem_singleton.1 hx]; exact ⟨by decide, by have := hf.lo; omega, .inl rfl⟩, by simp⟩
theorem reach_ok {f : T_api_Func} (hf : Snd f) (sl : Int) : VOK f (reach f sl) ∧ Closed f sl (reach f sl) (reach f sl).length ∧ (0, 1) ∈ reach f sl := by
  obtain ⟨a, b, c⟩ := bfs_ok hf (sl := sl) (3 * f.Code.length) 0 [(0, 1)] (by omega) (vok0 hf) (fun j hj => by omega) (by simp)
  exact ⟨a, b, c _ (by simp)⟩
theorem ref_states {f : T_api_Func} (hf : Snd f) (sl : Int) (hK : 3000 < K) : ∃ met, plunderref5_slotStates K f sl = some met ∧ Met f (reach f sl) met := by
  unfold plunderref5_slotStates
  have h1 := hf.lo
  have h2 := hf.hi
  rw [if_pos ⟨by omega, by omega⟩, if_pos ⟨by decide, by rw [List.length_replicate]; omega⟩]
  exact ref_l1 hf hK (3 * f.Code.length) 0 K [(0, 1)] _ (by omega) (by omega) (by simp) (vok0 hf) (fun j hj => by omega) ⟨by simp, fun a ha => by
    by_cases e : a = 0
    · subst e; rw [at_set_same (by simpa using ha)]; simp [wt]
    · rw [at_set_ne (by omega), at_reps ha]; unfold wt; rw [if_neg (by simp; omega), if_neg (by simp), if_neg (by simp)]; rfl⟩
end
end Go.Proofs.YtpikpffbcjpmcaaGreatDoor.Mo

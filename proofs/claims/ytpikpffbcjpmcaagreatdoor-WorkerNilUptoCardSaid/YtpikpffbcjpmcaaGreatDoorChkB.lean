/- The program's own search goes along the document's points. No memory is spoken of. -/
import Derived.Test.YtpikpffbcjpmcaaGreatDoorChkA
namespace Go.Proofs.YtpikpffbcjpmcaaGreatDoor.Mo
open Go Go.Proofs.YtpikpffbcjpmcaaGreatDoor.SL Go.Proofs.YtpikpffbcjpmcaaGreatDoor.GX
set_option linter.unusedVariables false
set_option linter.unusedSimpArgs false
section
variable {K : Nat}
abbrev pt (x : Pt) : T_prog_point := ⟨x.1, x.2⟩
theorem pt_inj {x y : Pt} (h : pt x = pt y) : x = y := by
  obtain ⟨a, b⟩ := x; obtain ⟨c, d⟩ := y
  simp only [pt, T_prog_point.mk.injEq] at h
  rw [h.1, h.2]
theorem mget_mem {β : Type} : ∀ (l : List (T_prog_point × β)) (k : T_prog_point), (mget l k).isSome = true ↔ k ∈ l.map (·.1)
  | [], k => by simp [mget]
  | (a, b) :: l, k => by
    unfold mget
    by_cases e : k = a
    · simp [e]
    · rw [if_neg e, mget_mem l k]; simp [e]
theorem mem_keys {V : List Pt} {m : List (T_prog_point × T_prog_point)} (h : m.map (·.1) = V.map pt) (x : Pt) : (mget m (pt x)).isSome = true ↔ x ∈ V := by
  rw [mget_mem, h, List.mem_map]
  exact ⟨fun ⟨y, hy, e⟩ => pt_inj e ▸ hy, fun hx => ⟨x, hx, rfl⟩⟩
theorem srch_l2 {f : T_api_Func} {s : Int} (hs : st3 s) {ns : List Int} (l8 : List T_prog_point) (hns : ∀ n ∈ ns, 0 ≤ n ∧ n < f.Code.length) (hlen : f.Code.length ≤ 512) (hnl : ns.length ≤ 2) : ∀ (d k i : Nat) (V : List Pt) (m : List (T_prog_point × T_prog_point)) (W : List T_prog_point), i + d = ns.length → d < k → VOK f V → m.map (·.1) = V.map pt → W.length ≤ V.length →
    ∃ m', prog_search_f199_l2 K l8 s ns k m W (i : Int) = some (m', W ++ (nw V s (ns.drop i)).map pt) ∧ m'.map (·.1) = (V ++ nw V s (ns.drop i)).map pt
  | d, k, i, V, m, W, hd, hk, hV, hm, hW => by
    obtain ⟨k, rfl⟩ : ∃ m, k = m + 1 := ⟨k - 1, by omega⟩
    rw [prog_search_f199_l2]
    have hL := hV.len
    by_cases hi : i < ns.length
    · obtain ⟨d, rfl⟩ : ∃ m, d = m + 1 := ⟨d - 1, by omega⟩
      have hdr : ns.drop i = at_ ns i :: ns.drop (i + 1) := by
        rw [List.drop_eq_getElem_cons hi]; unfold at_; rw [List.getD_eq_getElem?_getD, List.getElem?_eq_getElem hi]; rfl
      obtain ⟨n0, n1⟩ := hns _ (at_mem_ hi)
      rw [if_pos (by omega), if_pos ⟨by omega, by omega⟩, Int.toNat_natCast, wiN (by omega), hdr, nw]
      by_cases e : (at_ ns i, s) ∈ V
      · rw [if_pos ((mem_keys hm (at_ ns i, s)).2 e), if_pos e]
        exact srch_l2 hs l8 hns hlen hnl d k (i + 1) V m W (by omega) (by omega) hV hm hW
      · have e0 : ¬ (mget m (⟨at_ ns i, s⟩ : T_prog_point)).isSome = true := fun h => e ((mem_keys hm (at_ ns i, s)).1 h)
        have e1 : mget m (⟨at_ ns i, s⟩ : T_prog_point) = none := by
          cases h : mget m (⟨at_ ns i, s⟩ : T_prog_point) with
          | none => rfl
          | some x => rw [h] at e0; exact absurd rfl e0
        rw [if_neg e0, if_neg e, if_pos e1, if_pos (by omega)]
        have hV' : VOK f (V ++ [(at_ ns i, s)]) := ⟨fun x hx => by
          rcases List.mem_append.1 hx with hx | hx
          · exact hV.rng x hx
          · rw [List.mem_singleton.1 hx]; exact ⟨n0, n1, hs⟩, List.nodup_append.2 ⟨hV.nd, by simp, fun x hx y hy e' => by rw [List.mem_singleton.1 hy] at e'; subst e'; exact e hx⟩⟩
        obtain ⟨m', r1, r2⟩ := srch_l2 hs l8 hns hlen hnl d k (i + 1) (V ++ [(at_ ns i, s)]) (m ++ [((⟨at_ ns i, s⟩ : T_prog_point), at_ l8 0)]) (W ++ [(⟨at_ ns i, s⟩ : T_prog_point)]) (by omega) (by omega) hV' (by rw [List.map_append, List.map_append, hm]; rfl) (by simp; omega)
        refine ⟨m', ?_, ?_⟩
        · rw [List.append_assoc, List.singleton_append] at r1; exact r1
        · rw [List.append_assoc, List.singleton_append] at r2; exact r2
    · rw [if_neg (by omega), List.drop_of_length_le (by omega)]
      simp only [nw, List.append_nil, List.map_nil]
      exact ⟨m, rfl, hm⟩
theorem flds {k : Int} (h0 : 0 ≤ k) (h1 : k < 10) : (at_ gl1 k.toNat).next = !(decide (k = 3) || decide (k = 9)) := by
  rcases (by omega : k = 0 ∨ k = 1 ∨ k = 2 ∨ k = 3 ∨ k = 4 ∨ k = 5 ∨ k = 6 ∨ k = 7 ∨ k = 8 ∨ k = 9) with rfl | rfl | rfl | rfl | rfl | rfl | rfl | rfl | rfl | rfl <;> rfl
theorem follow_ok {f : T_api_Func} (hf : Snd f) {a : Int} (h0 : 0 ≤ a) (h1 : a < f.Code.length) : prog_follow f a = some (nx f a) := by
  have h512 := hf.hi
  obtain ⟨k0, k1⟩ := hf.kind a h0 h1
  have hn := hf.nx a h0 h1
  unfold prog_follow
  rw [if_pos ⟨h0, h1⟩, if_pos ⟨k0, by exact k1⟩, flds k0 k1, wi_in (x := a + 1) (by omega)]
  unfold nx at hn ⊢
  by_cases e3 : (at_ f.Code a.toNat).Kind = 3
  · simp [e3]
  · by_cases e9 : (at_ f.Code a.toNat).Kind = 9
    · simp [e9]
    · by_cases e4 : (at_ f.Code a.toNat).Kind = 4
      · have : a + 1 < f.Code.length := by rw [if_neg e3, if_neg e9, if_pos e4] at hn; exact (hn (a + 1) (by simp)).2
        simp [e4, this]
      · have : a + 1 < f.Code.length := by rw [if_neg e3, if_neg e9, if_neg e4] at hn; exact (hn (a + 1) (by simp)).2
        simp [e3, e4, e9, this]
theorem srch_l1 {f : T_api_Func} (hf : Snd f) {sl : Int} (hK : 3000 < K) : ∀ (d j k : Nat) (V : List Pt) (m : List (T_prog_point × T_prog_point)), j + d = 3 * f.Code.length → d < k → j ≤ V.length → VOK f V → Closed f sl V j → m.map (·.1) = V.map pt →
    ∃ m', prog_search_f199_l1 K f sl k m ((V.drop j).map pt) = some m' ∧ m'.map (·.1) = (bfs f sl d V j).map pt
  | d, j, k, V, m, hd, hk, hj, hV, hc, hm => by
    obtain ⟨k, rfl⟩ : ∃ m, k = m + 1 := ⟨k - 1, by omega⟩
    rw [prog_search_f199_l1]
    have hL := hV.len
    have h512 := hf.hi
    by_cases hi : j < V.length
    · obtain ⟨d, rfl⟩ : ∃ m, d = m + 1 := ⟨d - 1, by omega⟩
      obtain ⟨a1, a2, a3⟩ := hV.rng _ (at_mem_ hi)
      have hl : ((V.drop j).map pt).length = V.length - j := by simp
      have h0 : at_ ((V.drop j).map pt) 0 = pt (at_ V j) := by
        rw [at_map_ _ (by simp; omega)]; congr 1; unfold at_; simp [List.getD_eq_getElem?_getD]
      have h1 : ((V.drop j).map pt).drop 1 = (V.drop (j + 1)).map pt := by rw [← List.map_drop, List.drop_drop]
      rw [if_pos (by rw [hl]; omega), if_pos ⟨by decide, by rw [hl]; omega⟩, if_pos ⟨by decide, by rw [hl]; omega⟩, if_pos (by rw [hl]; omega), h0, h1, prog_states_1, ob1_some, if_neg (by decide), if_pos ⟨a1, a2⟩, after_ok.2, ob1_some, follow_ok hf a1 a2, ob1_some]
      obtain ⟨m', r1, r2⟩ := srch_l2 (K := K) (f := f) (s := aft f sl (at_ V j).1 (at_ V j).2) (aft3 a3) (ns := nx f (at_ V j).1) ((V.drop j).map pt) (hf.nx _ a1 a2) h512 nx_len (nx f (at_ V j).1).length K 0 V m ((V.drop (j + 1)).map pt) (by omega) (by have := nx_len (f := f) (a := (at_ V j).1); omega) hV hm (by simp)
      rw [Int.ofNat_zero] at r1
      rw [r1, ob2_some, bfs, if_pos hi, List.drop_zero]
      rw [List.drop_zero] at r2
      obtain ⟨b1, b2⟩ := bfs_round hf hV hi hc
      rw [show (V.drop (j + 1)).map pt ++ (nw V (aft f sl (at_ V j).1 (at_ V j).2) (nx f (at_ V j).1)).map pt = ((V ++ nw V (aft f sl (at_ V j).1 (at_ V j).2) (nx f (at_ V j).1)).drop (j + 1)).map pt by rw [List.drop_append_of_le_length (by omega), List.map_append]]
      exact srch_l1 hf hK d (j + 1) k _ m' (by omega) (by omega) (by rw [List.length_append]; omega) b1 b2 r2
    · have : (V.drop j).map pt = [] := by rw [List.drop_of_length_le (by omega)]; rfl
      rw [this, if_neg (by simp)]
      refine ⟨m, rfl, ?_⟩
      cases d with
      | zero => exact hm
      | succ d => rw [bfs, if_neg hi]; exact hm
theorem srch_ok {f : T_api_Func} (hf : Snd f) (sl : Int) (hK : 3000 < K) : ∃ m, prog_search_f199 K f sl = some m ∧ m.map (·.1) = (reach f sl).map pt := by
  unfold prog_search_f199
  have h2 := hf.hi
  exact srch_l1 hf hK (3 * f.Code.length) 0 K [(0, 1)] _ (by omega) (by omega) (by simp) (vok0 hf) (fun j hj => by omega) rfl
/-! ### the rows -/
/-- a table of the slots' states: the columns below n are right -/
structure Tab (f : T_api_Func) (R : List (List Int)) (n : Nat) : Prop where
  len : R.length = f.Code.length
  wid : ∀ a, a < f.Code.length → (at_ R a).length = f.Slots.toNat
  val : ∀ a, a < f.Code.length → ∀ c, c < n → c < f.Slots.toNat → at_ (at_ R a) c = wt (reach f c) a
  zero : ∀ a, a < f.Code.length → ∀ c, n ≤ c → c < f.Slots.toNat → at_ (at_ R a) c = 0
theorem tab_eq {f : T_api_Func} {R Q : List (List Int)} {n : Nat} (h : Tab f R n) (k : Tab f Q n) : R = Q := by
  have ext : ∀ {α : Type} [Inhabited α] (x y : List α), x.length = y.length → (∀ i, i < x.length → at_ x i = at_ y i) → x = y := by
    intro α _ x y hl he
    refine List.ext_getElem hl fun i h1 h2 => ?_
    have := he i h1
    unfold at_ at this
    rw [List.getD_eq_getElem?_getD, List.getD_eq_getElem?_getD, List.getElem?_eq_getElem h1, List.getElem?_eq_getElem h2] at this
    exact this
  refine ext R Q (by rw [h.len, k.len]) fun i hi => ?_
  rw [h.len] at hi
  exact ext _ _ (by rw [h.wid i hi, k.wid i hi]) fun c hc => by
    rw [h.wid i hi] at hc
    by_cases e : c < n
    · rw [h.val i hi c e hc, k.val i hi c e hc]
    · rw [h.zero i hi c (by omega) hc, k.zero i hi c (by omega) hc]
end
end Go.Proofs.YtpikpffbcjpmcaaGreatDoor.Mo

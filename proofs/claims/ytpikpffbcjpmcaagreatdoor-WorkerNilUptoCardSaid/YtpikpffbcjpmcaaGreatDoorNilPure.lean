/- WorkerNil answers true. No memory is spoken of. -/
import Derived.Test.YtpikpffbcjpmcaaGreatDoorNeed
namespace Go.Proofs.YtpikpffbcjpmcaaGreatDoor.Mo
open Go Go.Proofs.YtpikpffbcjpmcaaGreatDoor.SL Go.Proofs.YtpikpffbcjpmcaaGreatDoor.GX
set_option linter.unusedVariables false
set_option linter.unusedSimpArgs false
set_option maxRecDepth 100000
section
variable {K : Nat}
theorem scel_l {p : List Int} (hb : p.length ≤ 100000000) : ∀ (d k i : Nat), i + d = p.length → d < k → plunderlaw11_sameCells_l1 K p p k (i : Int) = some true
  | d, k, i, h, hk => by
    obtain ⟨k, rfl⟩ : ∃ n, k = n + 1 := ⟨k - 1, by omega⟩
    rw [plunderlaw11_sameCells_l1]
    by_cases hi : i < p.length
    · obtain ⟨d, rfl⟩ : ∃ n, d = n + 1 := ⟨d - 1, by omega⟩
      rw [if_pos (by omega), if_pos ⟨by omega, by omega⟩, if_pos ⟨by omega, by omega⟩, if_pos rfl, wiN (by omega)]
      exact scel_l hb d k (i + 1) (by omega) (by omega)
    · rw [if_neg (by omega)]
theorem scel_ok {p : List Int} (hb : p.length ≤ 100000000) (hK : p.length < K) : plunderlaw11_sameCells K p p = some true := by
  unfold plunderlaw11_sameCells; rw [if_pos rfl]; exact scel_l hb p.length K 0 (by omega) hK
theorem acells_ok {S : T_cells_Arena} (h : S.cell.length ≤ 1000000000) : cells_Arena_Cells S = some S.cell := by
  unfold cells_Arena_Cells
  rw [if_pos ⟨by omega, by omega⟩, if_pos (by simp)]
theorem wnew_at {p : T_api_Program} {args : List Int} {N F W : Nat} {most : Int} {i : Nat} (hi : i < N) : at_ (wNew p args N F W most).workers i = if i = 0 then { actor0 0 with frame := 0, from_ := -1, about := 0 } else actor0 i := by
  show at_ ((actors 0 N).set 0 _) i = _
  rw [setat (by rw [actors_len]; omega)]
  split
  · rfl
  · rw [actors_at N 0 i hi, Nat.zero_add]
theorem wnew_len {p : T_api_Program} {args : List Int} {N F W : Nat} {most : Int} : (wNew p args N F W most).workers.length = N := by
  show ((actors 0 N).set 0 _).length = N
  rw [List.length_set, actors_len]
theorem nil_true (i : Int) {c : T_plunderlaw11_Case} (h : c.S_Draws.length ≤ 1048576) (hK : 4000000 < K) : plunderlaw11_WorkerNil K c i = some true := by
  unfold plunderlaw11_WorkerNil worker_World_Step_nil_iface worker_World_Result_nil worker_World_Halted_nil worker_World_Holds_nil
  rw [if_pos (by omega), ob2_some, ob2_some, if_pos rfl, if_pos rfl, if_neg (by decide), ob1_some, if_neg (by decide), ob1_some, if_pos rfl, jn0_inl]
  obtain ⟨e, r1, r2, r3, r4⟩ := refuse_ok (K := K) ⟨c.P_Funcs⟩ c.Args c.Workers ⟨c.Lim_Frames, c.Lim_First, c.Lim_Most⟩ (by omega)
  rw [r1, ob1_some]
  by_cases he : e = 0
  · subst he
    obtain ⟨hv, ha, hn1, hn2, hl⟩ := r4 rfl
    obtain ⟨N, hN⟩ : ∃ N : Nat, c.Workers = N := ⟨c.Workers.toNat, by omega⟩
    have f1 := hl.f1
    have f2 := hl.f2
    have a1 := hl.a1
    have a2 := hl.a2
    have m2 := hl.m2
    simp only at f1 f2 a1 a2 m2
    obtain ⟨F, hF⟩ : ∃ F : Nat, c.Lim_Frames = F := ⟨c.Lim_Frames.toNat, by omega⟩
    obtain ⟨f, hf⟩ : ∃ f : Nat, c.Lim_First = f := ⟨c.Lim_First.toNat, by omega⟩
    obtain ⟨m, hm⟩ : ∃ m : Nat, c.Lim_Most = m := ⟨c.Lim_Most.toNat, by omega⟩
    rw [hN] at r2 hn1 hn2 ⊢
    obtain ⟨G, q1, q2, q3, q4, q5⟩ := need_ok (K := K) (N := N) (F := F) (lim := ⟨c.Lim_Frames, c.Lim_First, c.Lim_Most⟩) (f := f) (m := m) hl hF hf hm (by omega) (by omega) (by omega)
    generalize hsz : 4 + 10 * F + N + N * (4 + f + tq f m G) = sz at q4 q5
    have hNW : N * (4 + f) ≤ N * (4 + f + tq f m G) := Nat.mul_le_mul_left _ (by omega)
    rw [if_pos rfl, q4, ob1_some]
    unfold cells_New cells_good
    rw [if_pos (show ((sz : Nat) : Int) ≥ 0 by omega), decide_eq_true (show ((sz : Nat) : Int) ≤ 1048576 by omega), ob1_some, if_pos rfl, ob2_some]
    dsimp only
    obtain ⟨n1, n2⟩ := new_ok (K := K) (sz := sz) (a := 0) (w := false) (N := N) (F := F) (W := 4 + f) hv ha hl hF (by omega) (by omega) (by first | omega | (simp only; omega)) (by omega) (by omega) (by omega) r2
    obtain ⟨cs, e1, e2, e3⟩ := n1 (by omega)
    obtain ⟨cr, g1, g2⟩ := rnew_ok (K := K) (p := ⟨c.P_Funcs⟩) (args := c.Args) (ds := []) (N := N) (F := F) (W := 4 + f) (lim := ⟨c.Lim_Frames, c.Lim_First, c.Lim_Most⟩) hv ha hl hF (by omega) (by omega) (by first | omega | (simp only; omega)) (by omega)
    obtain rfl : cs = cr := e3.eq (by first | omega | (simp only; omega)) g2
    have hcl := e3.len
    dsimp only at e1 e2 hcl
    rw [show (⟨((sz : Nat) : Int), 0, ([] : List Int), ([] : List T_api_Access), 0, false⟩ : T_cells_Arena) = ar sz [] [] 0 false from rfl, e1, ob3_some]
    dsimp only
    unfold worker_World_Step worker_World_Holds
    rw [if_pos rfl, ob2_some, g1, ob1_some, if_pos rfl, if_pos rfl, acells_ok (by show cs.length ≤ _; omega), ob1_some, show (rNew ⟨c.P_Funcs⟩ c.Args N F ⟨c.Lim_Frames, c.Lim_First, c.Lim_Most⟩ cs).Cells = cs from rfl, scel_ok (p := cs) (by omega) (by omega), ob1_some, if_pos rfl, wnew_len, if_neg (by decide), if_neg (by omega), if_pos ⟨by decide, by omega⟩, ob1_some, show ((0 : Int)).toNat = 0 from rfl, wnew_at (by omega), if_pos rfl]
    rfl
  · rw [if_neg he]
end
end Go.Proofs.YtpikpffbcjpmcaaGreatDoor.Mo

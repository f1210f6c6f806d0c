/- A drawer over a list: script.List and Draw. -/
import Derived.Test.YtpikpffbcjpmcaaGreatDoorSg
import Derived.Test.YtpikpffbcjpmcaaGreatDoorWh1
import Derived.Test.YtpikpffbcjpmcaaGreatDoorProg
namespace Go.Proofs.YtpikpffbcjpmcaaGreatDoor.Mo
open Go Go.RowKit Go.Proofs.YtpikpffbcjpmcaaGreatDoor.SL Go.Proofs.YtpikpffbcjpmcaaGreatDoor.GX
set_option linter.unusedVariables false
set_option maxRecDepth 100000
/-- what is still to be drawn -/
structure T_script_Drawer where
  rest : List Int
deriving Inhabited, DecidableEq
def drwV (x : T_script_Drawer) : Int := x.rest.headD 0
def drwN (x : T_script_Drawer) : T_script_Drawer := ⟨x.rest.tail⟩
/-- a drawer's object, what its closure has caught, the list -/
def drw (b : Nat) (x : T_script_Drawer) : HProp := exs fun k : Nat => exs fun pa : Nat => exs fun pl : Nat => exs fun pg : Nat => exs fun ca : Option Addr => exs fun cc : Nat => exs fun l : List Int =>
  sepL [pur (k ≤ l.length ∧ l.length * 8 ≤ 140737488355328 ∧ x.rest = l.drop k), pts b (.cells #[.func (.func 84) #[] #[pA pa 0, pA pl 0, pA pg 0]] 181), pts pa (.cells #[vI k] 3), pts pl (.cells #[.slice ca l.length cc] 28), rowOf 3 1 encZ_i64 (.slice ca l.length cc) l, pts pg (.cells #[vB false] 4)]
theorem along_eq {l : List Int} {k : Nat} (hk : k ≤ l.length) (hb : l.length * 8 ≤ 140737488355328) : Md.script_along_1 (k : Int) l false = some (if k = l.length then (0, (k : Int)) else (at_ l k, ((k + 1 : Nat) : Int))) := by
  have e1 : wi ((k : Int) + 1) = ((k + 1 : Nat) : Int) := by rw [wi_in (by omega)]; omega
  have e2 : wi (((k + 1 : Nat) : Int) - 1) = (k : Int) := by rw [wi_in (by omega)]; omega
  unfold Md.script_along_1
  by_cases c : k = l.length
  · subst c; simp [ob1]
  · have c' : ¬ (k : Int) = ((l.length : Nat) : Int) := by omega
    have hi : inr_ (k : Int) l.length := by unfold inr_; omega
    simp only [if_neg c', if_neg c, ob1, e1, e2, if_pos hi, Int.toNat_natCast]
theorem drw_next {l : List Int} {k : Nat} {x : T_script_Drawer} (hk : k ≤ l.length) (hx : x.rest = l.drop k) : (if k = l.length then (0, (k : Int)) else (at_ l k, ((k + 1 : Nat) : Int))) = (drwV x, (((if k = l.length then k else k + 1) : Nat) : Int)) ∧ (if k = l.length then k else k + 1) ≤ l.length ∧ (drwN x).rest = l.drop (if k = l.length then k else k + 1) := by
  unfold drwV drwN
  rw [hx]
  by_cases c : k = l.length
  · subst c; simp
  · have hlt : k < l.length := by omega
    simp only [if_neg c]
    refine ⟨?_, by omega, by rw [List.tail_drop]⟩
    rw [at_lt hlt, List.drop_eq_getElem_cons hlt]; rfl
theorem row_empty {z w : World} {L : List HProp} {α : Type} {b : Nat} {E : TypeId} {sz : Nat} {enc : α → List Value} (h : Fit z (sepL (pts b (.cells #[] E) :: L)) w) : Fit z (sepL (rowOf E sz enc (.slice (some ⟨b, 0, none⟩) 0 0) ([] : List α) :: L)) w :=
  h.head fun y hy => .inr ⟨b, 0, #[], rfl, Nat.le_refl _, by simp [maxLen], by simp, by simp, hy⟩
theorem Clone_ok {z w : World} {L : List HProp} {va : Option Addr} {vc : Nat} {l : List Int} (hv : RdRow L 1 encZ_i64 va l) (h : Fit z (sepL L) w) (hb : l.length * 8 ≤ 140737488355328) :
    Calls Tryz.prog 83 #[.slice va l.length vc] w fun e w => ∃ ca cc, e = .returned (.slice ca l.length cc) ∧ Fit z (sepL (rowOf 3 1 encZ_i64 (.slice ca l.length cc) l :: L)) w := by
  refine ke Tryz.func83 8 rfl fun j => ks <| ko [U] <| kn <| wq <| ?_
  cases va with
  | none =>
    have hl : l = [] := by
      cases l with
      | nil => rfl
      | cons x xs => exact absurd (hv.ne (by simp)) (by simp)
    subst hl
    refine ks <| ko [U, vB true] <| kn <| fun _ r => cond_tt r (b := true) rfl <| qq r <| ks <| ko [U] <| kn <| wr <| tr <| ?_
    exact xy2 none 0 h.row_nil
  | some ad =>
    refine ks <| ko [U, vB false] <| kn <| fun _ r => cond_ff r (b := false) rfl <| qq r <| wk <| tn <| ks <| fun _ r => onew (wn rfl) r h (fun b => .slice (some ⟨b, 0, none⟩) 0 0) #[] 3 fun b w _ h r => ?_
    refine qq r <| ko [U] <| fun _ r => op_append_rd (m0 := 0) (n0 := 0) (ca := some ⟨b, 0, none⟩) (cc := 0) (c := vc) (va := some ad) (bytes := 8) (wn rfl) rfl rfl r rfl (by kernel_rfl) (news := l) (by kernel_rfl) encZ_i64_ok (E := 3) (xs := ([] : List Int)) (by kernel_rfl) (by kernel_rfl) (row_empty h) hv (by simpa using hb) rfl fun ca cc w _ h r => ?_
    rw [List.nil_append] at h r
    refine qq r <| ko [U] <| kn <| wr <| ?_
    exact xy2 ca cc h
theorem Drawer_Draw_ok {z w : World} {L : List HProp} {b : Nat} {x : T_script_Drawer} (h : Fit z (sepL (drw b x :: L)) w) :
    Calls Tryz.prog 264 #[pA b 0] w fun e w => e = .returned (vI (drwV x)) ∧ Fit z (sepL (drw b (drwN x) :: L)) w := by
  obtain ⟨k, h⟩ := h.open_exs
  obtain ⟨pa, h⟩ := h.open_exs
  obtain ⟨pl, h⟩ := h.open_exs
  obtain ⟨pg, h⟩ := h.open_exs
  obtain ⟨ca, h⟩ := h.open_exs
  obtain ⟨cc, h⟩ := h.open_exs
  obtain ⟨l, h⟩ := h.open_exs
  have h := h.open_sepL
  obtain ⟨⟨hk, hb, hx⟩, h⟩ := h.open_pur
  obtain ⟨e1, e2, e3⟩ := drw_next hk hx
  have H := along_eq hk hb
  rw [e1] at H
  generalize hm : (if k = l.length then k else k + 1) = m at *
  refine ke Tryz.func264 17 rfl fun j => ks <| ko [U] <| kn <| wq <| ks <| ko [U, vB false, vB false] <| konl (rfl : false = false) [6, 7, 8] [pA b 0, pA b 0, pA b 0] <| kLg (rfl : false = false) h 0 <| konl (rfl : false = false) [10] [vB false] <| kF' (rfl : false = false) (vB false) <| kn <| fun _ r => cond_ff r (b := false) rfl <| qq r <| wk <| tn <| ks <| ko [U, U, U] <| kL h 0 <| qh h.m4.m4.m4.m4 fun h => xc0 (Md.script_along_1_ok (H := H) (h := h) :) fun w h => ko [U] <| kn <| wr <| ?_
  exact xy0 (Fit.shut_exs m <| Fit.shut_exs pa <| Fit.shut_exs pl <| Fit.shut_exs pg <| Fit.shut_exs ca <| Fit.shut_exs cc <| Fit.shut_exs l <| Fit.shut_sepL _ L <| Fit.shut_pur ⟨e2, hb, e3⟩ h.m4)
theorem along_ok {z w : World} {L : List HProp} {va : Option Addr} {vc : Nat} {l : List Int} (hv : RdRow L 1 encZ_i64 va l) (h : Fit z (sepL L) w) (hb : l.length * 8 ≤ 140737488355328) :
    Calls Tryz.prog 53 #[.slice va l.length vc, vB false] w fun e w => ∃ b, e = .returned (pA b 0) ∧ Fit z (sepL (drw b ⟨l⟩ :: L)) w := by
  refine ke Tryz.func53 12 rfl fun j => ks <| kN h #[vB false] 4 fun pg w h => ko [U] <| kn <| ks <| ko [U] <| xc2 (Clone_ok (va := va) (vc := vc) (RdRow.up (L' := pts pg (.cells #[vB false] 4) :: L) 1 hv) h hb :) fun ca cc w h => kN h #[.slice none 0 0] 28 fun pl w h => kS h 0 (pts pl (.cells #[.slice ca l.length cc] 28)) fun w h => kn <| ks <| kN h #[vI 0] 3 fun pa w h => kS h 0 (pts pa (.cells #[vI 0] 3)) fun w h => kn <| ks <| ko [U, U] <| kN h #[.func (.func 84) #[] #[pA pa 0, pA pl 0, pA pg 0]] 181 fun b w h => ko [U] <| kn <| wr <| ?_
  exact xy1 b (Fit.shut_exs 0 <| Fit.shut_exs pa <| Fit.shut_exs pl <| Fit.shut_exs pg <| Fit.shut_exs ca <| Fit.shut_exs cc <| Fit.shut_exs l <| Fit.shut_sepL _ L <| Fit.shut_pur ⟨Nat.zero_le _, hb, rfl⟩ h)
theorem script_List_ok {z w : World} {L : List HProp} {va : Option Addr} {c : Nat} {l : List Int} (h : Fit z (sepL L) w) (hv : RdRow L 1 encZ_i64 va l) (hb : l.length * 8 ≤ 140737488355328) :
    Calls Tryz.prog 18 #[.slice va l.length c] w fun e w => ∃ b, e = .returned (pA b 0) ∧ Fit z (sepL (drw b ⟨l⟩ :: L)) w := by
  refine ke Tryz.func18 5 rfl fun j => ks <| ko [U] <| kn <| ks <| ko [U] <| xc1 (along_ok (vc := c) hv h hb :) fun b w h => ko [U] <| kn <| wr <| ?_
  exact xy1 b h
end Go.Proofs.YtpikpffbcjpmcaaGreatDoor.Mo

/- what the functions compute, as plain Lean functions, and that they do -/
import Derived.Test.YtacgigkonoegiaaMv2
namespace Go.Proofs.Ytacgigkonoegiaa.Mo
open Go Go.RowKit Go.Proofs.Ytacgigkonoegiaa.SL Go.Proofs.Ytacgigkonoegiaa.GX
set_option linter.unusedVariables false
set_option linter.unusedSimpArgs false

def plunderlaw2_book_accesses_l1 (K : Nat) (p1 : List T_api_Access) (r6 : Int) : Nat → (List T_api_Access) → Int → Option ((List T_api_Access))
  | 0, _, _ => none
  | k1 + 1, l16, g17 => (if g17 < ((p1.length : Nat) : Int) then ob1 (plunderlaw2_entry r6) (fun r19 => if inr_ g17 l16.length then (plunderlaw2_book_accesses_l1 K p1 r6 k1 (l16.set g17.toNat r19) (wi (g17 + (1 : Int)))) else none) else some l16)
def plunderlaw2_book_accesses_l2 (K : Nat) (r6 : Int) : Nat → (List T_api_Access) → Int → Option (Unit)
  | 0, _, _ => none
  | k2 + 1, l26, g27 => (if g27 < (64 : Int) then ob1 (plunderlaw2_entry (wi (r6 + (7 : Int)))) (fun r35 => if (l26.length + 1) * 48 ≤ 140737488355328 then (plunderlaw2_book_accesses_l2 K r6 k2 (l26 ++ [r35]) (wi (g27 + (1 : Int)))) else none) else some ())
/-- (*plunder/plunderlaw2.book).accesses -/
def plunderlaw2_book_accesses (K : Nat) (p0 : T_plunderlaw2_book) (p1 : List T_api_Access) : Option (T_plunderlaw2_book) :=
  ob2 (plunderlaw2_book_mark p0) (fun r6 S7 => ob1 ((plunderlaw2_book_accesses_l1 K p1 r6 K p1 0)) (fun l13 => ob0 (ob1 (plunderlaw2_entry (wi (r6 + (7 : Int)))) (fun r28 => if (l13.length + 1) * 48 ≤ 140737488355328 then (plunderlaw2_book_accesses_l2 K r6 K (l13 ++ [r28]) 1) else none)) (ob1 (plunderlaw2_entry (wi (r6 + (1 : Int)))) (fun r41 => if (l13.length + 1) * 48 ≤ 140737488355328 then ob1 (plunderlaw2_entry (wi (r6 + (2 : Int)))) (fun r47 => ob1 (plunderlaw2_entry (wi (r6 + (3 : Int)))) (fun r49 => if (l13.length + 2) * 48 ≤ 140737488355328 then ob1 (plunderlaw2_entry (wi (r6 + (4 : Int)))) (fun r55 => ob1 (plunderlaw2_entry (wi (r6 + (5 : Int)))) (fun r57 => ob1 (plunderlaw2_entry (wi (r6 + (6 : Int)))) (fun r59 => if (l13.length + 3) * 48 ≤ 140737488355328 then if (S7.accessLists.length + 1) * 104 ≤ 140737488355328 then some ({ S7 with accessLists := S7.accessLists ++ [(⟨r6, l13, l13 ++ [r41], l13 ++ [r47, r49], l13 ++ [r55, r57, r59]⟩ : T_plunderlaw2_noted)] }) else none else none))) else none)) else none))))
set_option maxRecDepth 100000 in
set_option maxHeartbeats 4000000 in
theorem plunderlaw2_book_accesses_ok {z w : World} {L : List HProp} {K : Nat} {p0 : T_plunderlaw2_book} {p1 : List T_api_Access} {B0 : Nat} {ca1 : Option Addr} {cc2 : Nat} {ca3 : Option Addr} {cc4 : Nat} {ca5 : Option Addr} {q0 : T_plunderlaw2_book} (H : plunderlaw2_book_accesses K p0 p1 = some q0) (h : Fit z (sepL (ob78 B0 p0 ca1 cc2 ca3 cc4 :: rn139 ca1 cc2 p0.numberLists :: rn142 ca3 cc4 p0.accessLists :: ro90 ca5 p1.length p1 :: L)) w)  :
    Calls Try.prog 43 #[.pointer (some ⟨B0, 0, none⟩), .slice ca5 p1.length p1.length] w fun e w => ∃ caq0_1 : Option Addr, ∃ ccq0_2 : Nat, ∃ caq0_3 : Option Addr, ∃ ccq0_4 : Nat, e = .returned (.tuple #[]) ∧ Fit z (sepL (ob78 B0 q0 caq0_1 ccq0_2 caq0_3 ccq0_4 :: rn139 caq0_1 ccq0_2 q0.numberLists :: rn142 caq0_3 ccq0_4 q0.accessLists :: L)) w := by
  unfold plunderlaw2_book_accesses at H
  refine enter Try.func43 rfl 77 rfl rfl [(0, .pointer (some ⟨B0, 0, none⟩)), (1, .slice ca5 p1.length p1.length)] ⟨rfl, rfl, trivial⟩ ?_
  intro j a hr
  refine wp_seq ?_
  refine wp_region_lit ?_
  replace H := bd2 H; obtain ⟨r6, S7, e8, H⟩ := H
  refine ov hr (.pointer (some ⟨B0, 0, none⟩)) (by kernel_rfl) ?_; clear hr a; intro a hr
  have hc := plunderlaw2_book_mark_ok (H := e8) (h := h)
  refine op_call (wn rfl) rfl rfl hr (f := 90) (args := #[.pointer (some ⟨B0, 0, none⟩)]) (by kernel_rfl) hc ?_; clear hc h
  rintro _ w ⟨caq9, ccq10, caq11, ccq12, rfl, h⟩; refine ⟨_, rfl, ?_⟩
  clear hr a; intro a hr
  refine ov hr (.int .i64 r6) (by kernel_rfl) ?_; clear hr a; intro a hr
  refine wpList_nil ?_
  refine then_normal ?_
  replace H := kd1 H; obtain ⟨o15, H, hK14⟩ := H
  refine cut_rule (β := Unit) (fun _ a w => ∃ l13 : List T_api_Access, l13 = o15 ∧ ∃ j, Rep 77 (lk [(0, .pointer (some ⟨B0, 0, none⟩)), (1, .slice ca5 p1.length p1.length), (4, .int .i64 r6)] j) a ∧ Fit z (sepL (ob78 B0 S7 caq9 ccq10 caq11 ccq12 :: rn139 caq9 ccq10 S7.numberLists :: rn142 caq11 ccq12 S7.accessLists :: rowOf 90 6 enc_T_api_Access (.slice ca5 p1.length p1.length) l13 :: L)) w) ?_ ?_
  ·
    refine wp_seq ?_
    refine wp_region_lit ?_
    refine ov hr (.int .i64 0) (by kernel_rfl) ?_; clear hr a; intro a hr
    refine wpList_nil ?_
    refine then_normal ?_
    refine wp_block ?_
    replace hr := hr.fold2 [(0, .pointer (some ⟨B0, 0, none⟩)), (1, .slice ca5 p1.length p1.length), (4, .int .i64 r6), (5, .int .i64 0)] (by kernel_rfl); obtain ⟨j, hr⟩ := hr
    refine loop_rule (β := Nat) id (fun m a w => ∃ l16 : List T_api_Access, ∃ g17 : Int, (plunderlaw2_book_accesses_l1 K p1 r6 m l16 g17) = some o15 ∧ ∃ j, Rep 77 (lk [(0, .pointer (some ⟨B0, 0, none⟩)), (1, .slice ca5 p1.length p1.length), (4, .int .i64 r6), (5, .int .i64 g17)] j) a ∧ Fit z (sepL (ob78 B0 S7 caq9 ccq10 caq11 ccq12 :: rn139 caq9 ccq10 S7.numberLists :: rn142 caq11 ccq12 S7.accessLists :: rowOf 90 6 enc_T_api_Access (.slice ca5 p1.length p1.length) l16 :: L)) w) K ⟨p1, 0, H, j, hr, h⟩ ?_
    clear h hr a H; rintro k1 a w ⟨l16, g17, H, j, hr, h⟩
    cases k1 with
    | zero => exact absurd H (by simp [plunderlaw2_book_accesses_l1])
    | succ k1 =>
      rw [plunderlaw2_book_accesses_l1] at H
      refine wp_seq ?_
      refine wp_seq ?_
      refine wp_region_lit ?_
      refine ovs [13, 14, 15, 16] [.int .i64 g17, .slice ca5 p1.length p1.length, .int .i64 ((p1.length : Nat) : Int), .bool (decide (g17 < ((p1.length : Nat) : Int)))] hr ⟨rfl, rfl⟩ (by kernel_rfl) ?_; clear hr a; intro a hr
      refine wpList_nil ?_
      refine then_normal ?_
      by_cases c18 : g17 < ((p1.length : Nat) : Int)
      ·
        replace H := ifT c18 H
        refine cond_tt hr (b := (decide (g17 < ((p1.length : Nat) : Int)))) (decide_eq_true c18) ?_
        refine wp_skip ?_
        refine then_normal ?_
        refine wp_seq ?_
        refine wp_block ?_
        refine wp_region_lit ?_
        replace H := bd1 H; obtain ⟨r19, e20, H⟩ := H
        refine ovs [19, 20, 21] [.slice ca5 p1.length p1.length, .int .i64 g17, .int .i64 r6] hr ⟨rfl, rfl⟩ (by kernel_rfl) ?_; clear hr a; intro a hr
        have hc := plunderlaw2_entry_ok (H := e20) (h := h)
        refine op_call (wn rfl) rfl rfl hr (f := 91) (args := #[.int .i64 r6]) (by kernel_rfl) hc ?_; clear hc h
        rintro _ w ⟨rfl, h⟩; refine ⟨_, rfl, ?_⟩
        clear hr a; intro a hr
        replace H := gd H; obtain ⟨c21, H⟩ := H
        refine op_val (wn rfl) rfl rfl hr (v := .pointer (some ⟨blk ca5, g17.toNat * 6, none⟩)) (ri_row (k := .i64) (E := 90) rfl (by kernel_rfl) (by kernel_rfl) (by kernel_rfl) (by kernel_rfl) (h.pick 3) c21) ?_; clear hr a; intro a hr
        replace h : Fit z (sepL (rowOf 90 6 enc_T_api_Access (.slice ca5 p1.length p1.length) l16 :: ob78 B0 S7 caq9 ccq10 caq11 ccq12 :: rn139 caq9 ccq10 S7.numberLists :: rn142 caq11 ccq12 S7.accessLists :: L)) _ := h.sel 4 [3, 0, 1, 2] (by kernel_rfl) (by kernel_rfl)
        refine op_stores_row (wn rfl) rfl hr rfl (by kernel_rfl) (by kernel_rfl) (vs := [.int .i64 r19.Who, .int .i64 r19.Kind, .int .i64 r19.Addr, .int .i64 r19.A, .int .i64 r19.B, .bool r19.OK]) rfl (by kernel_rfl) enc_T_api_Access_ok h (i := g17.toNat) (q := r19) (at_okL c21) rfl ?_; clear h; intro w h
        replace h : Fit z (sepL (rowOf 90 6 enc_T_api_Access (.slice ca5 p1.length p1.length) (l16.set g17.toNat r19) :: ob78 B0 S7 caq9 ccq10 caq11 ccq12 :: rn139 caq9 ccq10 S7.numberLists :: rn142 caq11 ccq12 S7.accessLists :: L)) _ := h
        refine wpList_nil ?_
        refine blk_normal ?_
        refine then_normal ?_
        refine wp_region_lit ?_
        refine ovs [17, 18, 5] [.int .i64 g17, .int .i64 (wi (g17 + (1 : Int))), .int .i64 (wi (g17 + (1 : Int)))] hr ⟨rfl, rfl⟩ (by kernel_rfl) ?_; clear hr a; intro a hr
        refine wpList_nil ?_
        refine then_normal ?_
        replace hr := hr.fold2 [(0, .pointer (some ⟨B0, 0, none⟩)), (1, .slice ca5 p1.length p1.length), (4, .int .i64 r6), (5, .int .i64 (wi (g17 + (1 : Int))))] (by kernel_rfl); obtain ⟨j, hr⟩ := hr
        replace h : Fit z (sepL (ob78 B0 S7 caq9 ccq10 caq11 ccq12 :: rn139 caq9 ccq10 S7.numberLists :: rn142 caq11 ccq12 S7.accessLists :: rowOf 90 6 enc_T_api_Access (.slice ca5 p1.length p1.length) (l16.set g17.toNat r19) :: L)) _ := h.sel 4 [1, 2, 3, 0] (by kernel_rfl) (by kernel_rfl)
        exact ⟨_, ⟨(l16.set g17.toNat r19), (wi (g17 + (1 : Int))), H, j, hr, h⟩, Nat.lt_succ_self _⟩
      ·
        replace H := ifF c18 H
        refine cond_ff hr (b := (decide (g17 < ((p1.length : Nat) : Int)))) (decide_eq_false c18) ?_
        refine wp_exit ?_
        refine then_exit ?_
        refine then_exit ?_
        refine blk_here ?_
        refine then_normal ?_
        replace hr := hr.fold2 [(0, .pointer (some ⟨B0, 0, none⟩)), (1, .slice ca5 p1.length p1.length), (4, .int .i64 r6)] (by kernel_rfl); obtain ⟨j, hr⟩ := hr
        exact ⟨(), l16, sinj H, j, hr, h⟩
  clear h hr a; rintro _ a w ⟨l13, rfl, j, hr, h⟩
  replace H := kk1 hK14
  refine wp_seq ?_
  refine wp_region_lit ?_
  refine ovs [24, 6] [.slice ca5 p1.length p1.length, .slice ca5 p1.length p1.length] hr ⟨rfl, rfl⟩ (by kernel_rfl) ?_; clear hr a; intro a hr
  refine wpList_nil ?_
  refine then_normal ?_
  replace H := kd0 H; obtain ⟨o23, H, hK22⟩ := H
  refine cut_rule (β := Unit) (fun _ a w => () = o23 ∧ ∃ j, Rep 77 (lk [(0, .pointer (some ⟨B0, 0, none⟩)), (1, .slice ca5 p1.length p1.length), (4, .int .i64 r6)] j) a ∧ Fit z (sepL (ob78 B0 S7 caq9 ccq10 caq11 ccq12 :: rn139 caq9 ccq10 S7.numberLists :: rn142 caq11 ccq12 S7.accessLists :: rowOf 90 6 enc_T_api_Access (.slice ca5 p1.length p1.length) l13 :: L)) w) ?_ ?_
  ·
    refine wp_seq ?_
    refine wp_region_lit ?_
    refine ov hr (.int .i64 0) (by kernel_rfl) ?_; clear hr a; intro a hr
    refine wpList_nil ?_
    refine then_normal ?_
    refine wp_block ?_
    refine loop_first (β := Nat) id (fun m a w => ∃ ca24 : Option Addr, ∃ cc25 : Nat, ∃ l26 : List T_api_Access, ∃ g27 : Int, (plunderlaw2_book_accesses_l2 K r6 m l26 g27) = some o23 ∧ ∃ j, Rep 77 (lk [(0, .pointer (some ⟨B0, 0, none⟩)), (1, .slice ca5 p1.length p1.length), (4, .int .i64 r6), (6, .slice ca24 l26.length cc25), (7, .int .i64 g27)] j) a ∧ Fit z (sepL (ob78 B0 S7 caq9 ccq10 caq11 ccq12 :: rn139 caq9 ccq10 S7.numberLists :: rn142 caq11 ccq12 S7.accessLists :: rowOf 90 6 enc_T_api_Access (.slice ca5 p1.length p1.length) l13 :: ro90 ca24 cc25 l26 :: L)) w) ?_ ?_
    ·
      refine wp_seq ?_
      refine wp_seq ?_
      refine wp_region_lit ?_
      refine ovs [25, 26] [.int .i64 0, .bool true] hr ⟨rfl, rfl⟩ (by kernel_rfl) ?_; clear hr a; intro a hr
      refine wpList_nil ?_
      refine then_normal ?_
      refine cond_tt hr (b := true) rfl ?_
      refine wp_skip ?_
      refine then_normal ?_
      refine wp_seq ?_
      refine wp_block ?_
      refine wp_region_lit ?_
      replace H := bd1 H; obtain ⟨r28, e29, H⟩ := H
      refine ovs [29, 30, 31] [.slice ca5 p1.length p1.length, .int .i64 r6, .int .i64 (wi (r6 + (7 : Int)))] hr ⟨rfl, rfl⟩ (by kernel_rfl) ?_; clear hr a; intro a hr
      have hc := plunderlaw2_entry_ok (H := e29) (h := h)
      refine op_call (wn rfl) rfl rfl hr (f := 91) (args := #[.int .i64 (wi (r6 + (7 : Int)))]) (by kernel_rfl) hc ?_; clear hc h
      rintro _ w ⟨rfl, h⟩; refine ⟨_, rfl, ?_⟩
      clear hr a; intro a hr
      refine op_new (wn rfl) rfl rfl hr h (vf := fun b => .slice (some ⟨b, 0, none⟩) 1 1) (cs := #[.int .i64 r28.Who, .int .i64 r28.Kind, .int .i64 r28.Addr, .int .i64 r28.A, .int .i64 r28.B, .bool r28.OK]) (T := 90) (by kernel_rfl) ?_; clear h hr a; intro b30 w a h hr
      replace h : Fit z (sepL (rowOf 90 6 enc_T_api_Access (.slice ca5 p1.length p1.length) l13 :: ob90 b30 r28 :: ob78 B0 S7 caq9 ccq10 caq11 ccq12 :: rn139 caq9 ccq10 S7.numberLists :: rn142 caq11 ccq12 S7.accessLists :: L)) _ := h.sel 5 [4, 0, 1, 2, 3] (by kernel_rfl) (by kernel_rfl)
      replace H := gd H; obtain ⟨c33, H⟩ := H
      refine op_append_fullrow (n0 := p1.length) (c := 1) (bytes := 48) (wn rfl) rfl rfl hr rfl (by kernel_rfl) rfl (by kernel_rfl) (by kernel_rfl) enc_T_api_Access_ok (E := 90) (xs := l13) (by kernel_rfl) (by kernel_rfl) h (news := [r28]) (m := 1) rfl ((h.pick 1).news rfl) c33 rfl ?_; clear h hr a; intro ca31 cc32 w a h hr
      refine ov hr (.slice ca31 ((l13 ++ [r28]).length) cc32) (by kernel_rfl) ?_; clear hr a; intro a hr
      refine wpList_nil ?_
      replace h : Fit z (sepL (ro90 ca31 cc32 (l13 ++ [r28]) :: rowOf 90 6 enc_T_api_Access (.slice ca5 p1.length p1.length) l13 :: ob90 b30 r28 :: ob78 B0 S7 caq9 ccq10 caq11 ccq12 :: rn139 caq9 ccq10 S7.numberLists :: rn142 caq11 ccq12 S7.accessLists :: L)) _ := h
      refine blk_normal ?_
      refine then_normal ?_
      refine wp_region_lit ?_
      refine ovs [27, 28, 7] [.int .i64 0, .int .i64 1, .int .i64 1] hr ⟨rfl, rfl⟩ (by kernel_rfl) ?_; clear hr a; intro a hr
      refine wpList_nil ?_
      refine then_normal ?_
      replace hr := hr.fold2 [(0, .pointer (some ⟨B0, 0, none⟩)), (1, .slice ca5 p1.length p1.length), (4, .int .i64 r6), (6, .slice ca31 ((l13 ++ [r28]).length) cc32), (7, .int .i64 1)] (by kernel_rfl); obtain ⟨j, hr⟩ := hr
      replace h : Fit z (sepL (ob78 B0 S7 caq9 ccq10 caq11 ccq12 :: rn139 caq9 ccq10 S7.numberLists :: rn142 caq11 ccq12 S7.accessLists :: rowOf 90 6 enc_T_api_Access (.slice ca5 p1.length p1.length) l13 :: ro90 ca31 cc32 (l13 ++ [r28]) :: L)) _ := h.sel 6 [3, 4, 5, 1, 0] (by kernel_rfl) (by kernel_rfl)
      exact ⟨K, ca31, cc32, (l13 ++ [r28]), 1, H, j, hr, h⟩
    clear h hr a H; rintro k2 a w ⟨ca24, cc25, l26, g27, H, j, hr, h⟩
    cases k2 with
    | zero => exact absurd H (by simp [plunderlaw2_book_accesses_l2])
    | succ k2 =>
      rw [plunderlaw2_book_accesses_l2] at H
      refine wp_seq ?_
      refine wp_seq ?_
      refine wp_region_lit ?_
      refine ovs [25, 26] [.int .i64 g27, .bool (decide (g27 < (64 : Int)))] hr ⟨rfl, rfl⟩ (by kernel_rfl) ?_; clear hr a; intro a hr
      refine wpList_nil ?_
      refine then_normal ?_
      by_cases c34 : g27 < (64 : Int)
      ·
        replace H := ifT c34 H
        refine cond_tt hr (b := (decide (g27 < (64 : Int)))) (decide_eq_true c34) ?_
        refine wp_skip ?_
        refine then_normal ?_
        refine wp_seq ?_
        refine wp_block ?_
        refine wp_region_lit ?_
        replace H := bd1 H; obtain ⟨r35, e36, H⟩ := H
        refine ovs [29, 30, 31] [.slice ca24 l26.length cc25, .int .i64 r6, .int .i64 (wi (r6 + (7 : Int)))] hr ⟨rfl, rfl⟩ (by kernel_rfl) ?_; clear hr a; intro a hr
        have hc := plunderlaw2_entry_ok (H := e36) (h := h)
        refine op_call (wn rfl) rfl rfl hr (f := 91) (args := #[.int .i64 (wi (r6 + (7 : Int)))]) (by kernel_rfl) hc ?_; clear hc h
        rintro _ w ⟨rfl, h⟩; refine ⟨_, rfl, ?_⟩
        clear hr a; intro a hr
        refine op_new (wn rfl) rfl rfl hr h (vf := fun b => .slice (some ⟨b, 0, none⟩) 1 1) (cs := #[.int .i64 r35.Who, .int .i64 r35.Kind, .int .i64 r35.Addr, .int .i64 r35.A, .int .i64 r35.B, .bool r35.OK]) (T := 90) (by kernel_rfl) ?_; clear h hr a; intro b37 w a h hr
        replace h : Fit z (sepL (ro90 ca24 cc25 l26 :: ob90 b37 r35 :: ob78 B0 S7 caq9 ccq10 caq11 ccq12 :: rn139 caq9 ccq10 S7.numberLists :: rn142 caq11 ccq12 S7.accessLists :: rowOf 90 6 enc_T_api_Access (.slice ca5 p1.length p1.length) l13 :: L)) _ := h.sel 6 [5, 0, 1, 2, 3, 4] (by kernel_rfl) (by kernel_rfl)
        replace H := gd H; obtain ⟨c40, H⟩ := H
        refine op_append (n0 := l26.length) (c := 1) (bytes := 48) (wn rfl) rfl rfl hr rfl (by kernel_rfl) (by kernel_rfl) enc_T_api_Access_ok (E := 90) (xs := l26) (by kernel_rfl) (by kernel_rfl) h (news := [r35]) (m := 1) rfl ((h.pick 1).news rfl) c40 rfl ?_; clear h hr a; intro ca38 cc39 w a h hr
        refine ov hr (.slice ca38 ((l26 ++ [r35]).length) cc39) (by kernel_rfl) ?_; clear hr a; intro a hr
        refine wpList_nil ?_
        replace h : Fit z (sepL (ro90 ca38 cc39 (l26 ++ [r35]) :: ob90 b37 r35 :: ob78 B0 S7 caq9 ccq10 caq11 ccq12 :: rn139 caq9 ccq10 S7.numberLists :: rn142 caq11 ccq12 S7.accessLists :: rowOf 90 6 enc_T_api_Access (.slice ca5 p1.length p1.length) l13 :: L)) _ := h
        refine blk_normal ?_
        refine then_normal ?_
        refine wp_region_lit ?_
        refine ovs [27, 28, 7] [.int .i64 g27, .int .i64 (wi (g27 + (1 : Int))), .int .i64 (wi (g27 + (1 : Int)))] hr ⟨rfl, rfl⟩ (by kernel_rfl) ?_; clear hr a; intro a hr
        refine wpList_nil ?_
        refine then_normal ?_
        replace hr := hr.fold2 [(0, .pointer (some ⟨B0, 0, none⟩)), (1, .slice ca5 p1.length p1.length), (4, .int .i64 r6), (6, .slice ca38 ((l26 ++ [r35]).length) cc39), (7, .int .i64 (wi (g27 + (1 : Int))))] (by kernel_rfl); obtain ⟨j, hr⟩ := hr
        replace h : Fit z (sepL (ob78 B0 S7 caq9 ccq10 caq11 ccq12 :: rn139 caq9 ccq10 S7.numberLists :: rn142 caq11 ccq12 S7.accessLists :: rowOf 90 6 enc_T_api_Access (.slice ca5 p1.length p1.length) l13 :: ro90 ca38 cc39 (l26 ++ [r35]) :: L)) _ := h.sel 6 [2, 3, 4, 5, 0] (by kernel_rfl) (by kernel_rfl)
        exact ⟨_, ⟨ca38, cc39, (l26 ++ [r35]), (wi (g27 + (1 : Int))), H, j, hr, h⟩, Nat.lt_succ_self _⟩
      ·
        replace H := ifF c34 H
        refine cond_ff hr (b := (decide (g27 < (64 : Int)))) (decide_eq_false c34) ?_
        refine wp_exit ?_
        refine then_exit ?_
        refine then_exit ?_
        refine blk_here ?_
        refine then_normal ?_
        replace hr := hr.fold2 [(0, .pointer (some ⟨B0, 0, none⟩)), (1, .slice ca5 p1.length p1.length), (4, .int .i64 r6)] (by kernel_rfl); obtain ⟨j, hr⟩ := hr
        replace h : Fit z (sepL (ob78 B0 S7 caq9 ccq10 caq11 ccq12 :: rn139 caq9 ccq10 S7.numberLists :: rn142 caq11 ccq12 S7.accessLists :: rowOf 90 6 enc_T_api_Access (.slice ca5 p1.length p1.length) l13 :: L)) _ := h.sel 5 [0, 1, 2, 3] (by kernel_rfl) (by kernel_rfl)
        exact ⟨(), sinj H, j, hr, h⟩
  clear h hr a; rintro _ a w ⟨rfl, j, hr, h⟩
  replace H := kk0 hK22
  refine wp_seq ?_
  refine wp_region_lit ?_
  replace H := bd1 H; obtain ⟨r41, e42, H⟩ := H
  refine ovs [35, 36, 37] [.slice ca5 p1.length p1.length, .int .i64 r6, .int .i64 (wi (r6 + (1 : Int)))] hr ⟨rfl, rfl⟩ (by kernel_rfl) ?_; clear hr a; intro a hr
  have hc := plunderlaw2_entry_ok (H := e42) (h := h)
  refine op_call (wn rfl) rfl rfl hr (f := 91) (args := #[.int .i64 (wi (r6 + (1 : Int)))]) (by kernel_rfl) hc ?_; clear hc h
  rintro _ w ⟨rfl, h⟩; refine ⟨_, rfl, ?_⟩
  clear hr a; intro a hr
  refine op_new (wn rfl) rfl rfl hr h (vf := fun b => .slice (some ⟨b, 0, none⟩) 1 1) (cs := #[.int .i64 r41.Who, .int .i64 r41.Kind, .int .i64 r41.Addr, .int .i64 r41.A, .int .i64 r41.B, .bool r41.OK]) (T := 90) (by kernel_rfl) ?_; clear h hr a; intro b43 w a h hr
  replace h : Fit z (sepL (rowOf 90 6 enc_T_api_Access (.slice ca5 p1.length p1.length) l13 :: ob90 b43 r41 :: ob78 B0 S7 caq9 ccq10 caq11 ccq12 :: rn139 caq9 ccq10 S7.numberLists :: rn142 caq11 ccq12 S7.accessLists :: L)) _ := h.sel 5 [4, 0, 1, 2, 3] (by kernel_rfl) (by kernel_rfl)
  replace H := gd H; obtain ⟨c46, H⟩ := H
  refine op_append_fullrow (n0 := p1.length) (c := 1) (bytes := 48) (wn rfl) rfl rfl hr rfl (by kernel_rfl) rfl (by kernel_rfl) (by kernel_rfl) enc_T_api_Access_ok (E := 90) (xs := l13) (by kernel_rfl) (by kernel_rfl) h (news := [r41]) (m := 1) rfl ((h.pick 1).news rfl) c46 rfl ?_; clear h hr a; intro ca44 cc45 w a h hr
  refine ov hr (.slice ca44 ((l13 ++ [r41]).length) cc45) (by kernel_rfl) ?_; clear hr a; intro a hr
  refine wpList_nil ?_
  replace h : Fit z (sepL (ro90 ca44 cc45 (l13 ++ [r41]) :: rowOf 90 6 enc_T_api_Access (.slice ca5 p1.length p1.length) l13 :: ob90 b43 r41 :: ob78 B0 S7 caq9 ccq10 caq11 ccq12 :: rn139 caq9 ccq10 S7.numberLists :: rn142 caq11 ccq12 S7.accessLists :: L)) _ := h
  refine then_normal ?_
  refine wp_seq ?_
  refine wp_region_lit ?_
  replace H := bd1 H; obtain ⟨r47, e48, H⟩ := H
  refine ovs [41, 42, 43] [.slice ca5 p1.length p1.length, .int .i64 r6, .int .i64 (wi (r6 + (2 : Int)))] hr ⟨rfl, rfl⟩ (by kernel_rfl) ?_; clear hr a; intro a hr
  have hc := plunderlaw2_entry_ok (H := e48) (h := h)
  refine op_call (wn rfl) rfl rfl hr (f := 91) (args := #[.int .i64 (wi (r6 + (2 : Int)))]) (by kernel_rfl) hc ?_; clear hc h
  rintro _ w ⟨rfl, h⟩; refine ⟨_, rfl, ?_⟩
  clear hr a; intro a hr
  replace H := bd1 H; obtain ⟨r49, e50, H⟩ := H
  refine ovs [45, 46] [.int .i64 r6, .int .i64 (wi (r6 + (3 : Int)))] hr ⟨rfl, rfl⟩ (by kernel_rfl) ?_; clear hr a; intro a hr
  have hc := plunderlaw2_entry_ok (H := e50) (h := h)
  refine op_call (wn rfl) rfl rfl hr (f := 91) (args := #[.int .i64 (wi (r6 + (3 : Int)))]) (by kernel_rfl) hc ?_; clear hc h
  rintro _ w ⟨rfl, h⟩; refine ⟨_, rfl, ?_⟩
  clear hr a; intro a hr
  refine op_new (wn rfl) rfl rfl hr h (vf := fun b => .slice (some ⟨b, 0, none⟩) 2 2) (cs := #[.int .i64 r47.Who, .int .i64 r47.Kind, .int .i64 r47.Addr, .int .i64 r47.A, .int .i64 r47.B, .bool r47.OK, .int .i64 r49.Who, .int .i64 r49.Kind, .int .i64 r49.Addr, .int .i64 r49.A, .int .i64 r49.B, .bool r49.OK]) (T := 90) (by kernel_rfl) ?_; clear h hr a; intro b51 w a h hr
  replace h : Fit z (sepL (rowOf 90 6 enc_T_api_Access (.slice ca5 p1.length p1.length) l13 :: pts b51 (.cells #[.int .i64 r47.Who, .int .i64 r47.Kind, .int .i64 r47.Addr, .int .i64 r47.A, .int .i64 r47.B, .bool r47.OK, .int .i64 r49.Who, .int .i64 r49.Kind, .int .i64 r49.Addr, .int .i64 r49.A, .int .i64 r49.B, .bool r49.OK] 90) :: ro90 ca44 cc45 (l13 ++ [r41]) :: ob90 b43 r41 :: ob78 B0 S7 caq9 ccq10 caq11 ccq12 :: rn139 caq9 ccq10 S7.numberLists :: rn142 caq11 ccq12 S7.accessLists :: L)) _ := h.sel 7 [2, 0, 1, 3, 4, 5, 6] (by kernel_rfl) (by kernel_rfl)
  replace H := gd H; obtain ⟨c54, H⟩ := H
  refine op_append_fullrow (n0 := p1.length) (c := 2) (bytes := 48) (wn rfl) rfl rfl hr rfl (by kernel_rfl) rfl (by kernel_rfl) (by kernel_rfl) enc_T_api_Access_ok (E := 90) (xs := l13) (by kernel_rfl) (by kernel_rfl) h (news := [r47, r49]) (m := 2) rfl ((h.pick 1).news rfl) c54 rfl ?_; clear h hr a; intro ca52 cc53 w a h hr
  refine ov hr (.slice ca52 ((l13 ++ [r47, r49]).length) cc53) (by kernel_rfl) ?_; clear hr a; intro a hr
  refine wpList_nil ?_
  replace h : Fit z (sepL (ro90 ca52 cc53 (l13 ++ [r47, r49]) :: rowOf 90 6 enc_T_api_Access (.slice ca5 p1.length p1.length) l13 :: pts b51 (.cells #[.int .i64 r47.Who, .int .i64 r47.Kind, .int .i64 r47.Addr, .int .i64 r47.A, .int .i64 r47.B, .bool r47.OK, .int .i64 r49.Who, .int .i64 r49.Kind, .int .i64 r49.Addr, .int .i64 r49.A, .int .i64 r49.B, .bool r49.OK] 90) :: ro90 ca44 cc45 (l13 ++ [r41]) :: ob90 b43 r41 :: ob78 B0 S7 caq9 ccq10 caq11 ccq12 :: rn139 caq9 ccq10 S7.numberLists :: rn142 caq11 ccq12 S7.accessLists :: L)) _ := h
  refine then_normal ?_
  refine wp_seq ?_
  refine wp_region_lit ?_
  replace H := bd1 H; obtain ⟨r55, e56, H⟩ := H
  refine ovs [50, 51, 52] [.slice ca5 p1.length p1.length, .int .i64 r6, .int .i64 (wi (r6 + (4 : Int)))] hr ⟨rfl, rfl⟩ (by kernel_rfl) ?_; clear hr a; intro a hr
  have hc := plunderlaw2_entry_ok (H := e56) (h := h)
  refine op_call (wn rfl) rfl rfl hr (f := 91) (args := #[.int .i64 (wi (r6 + (4 : Int)))]) (by kernel_rfl) hc ?_; clear hc h
  rintro _ w ⟨rfl, h⟩; refine ⟨_, rfl, ?_⟩
  clear hr a; intro a hr
  replace H := bd1 H; obtain ⟨r57, e58, H⟩ := H
  refine ovs [54, 55] [.int .i64 r6, .int .i64 (wi (r6 + (5 : Int)))] hr ⟨rfl, rfl⟩ (by kernel_rfl) ?_; clear hr a; intro a hr
  have hc := plunderlaw2_entry_ok (H := e58) (h := h)
  refine op_call (wn rfl) rfl rfl hr (f := 91) (args := #[.int .i64 (wi (r6 + (5 : Int)))]) (by kernel_rfl) hc ?_; clear hc h
  rintro _ w ⟨rfl, h⟩; refine ⟨_, rfl, ?_⟩
  clear hr a; intro a hr
  replace H := bd1 H; obtain ⟨r59, e60, H⟩ := H
  refine ovs [57, 58] [.int .i64 r6, .int .i64 (wi (r6 + (6 : Int)))] hr ⟨rfl, rfl⟩ (by kernel_rfl) ?_; clear hr a; intro a hr
  have hc := plunderlaw2_entry_ok (H := e60) (h := h)
  refine op_call (wn rfl) rfl rfl hr (f := 91) (args := #[.int .i64 (wi (r6 + (6 : Int)))]) (by kernel_rfl) hc ?_; clear hc h
  rintro _ w ⟨rfl, h⟩; refine ⟨_, rfl, ?_⟩
  clear hr a; intro a hr
  refine op_new (wn rfl) rfl rfl hr h (vf := fun b => .slice (some ⟨b, 0, none⟩) 3 3) (cs := #[.int .i64 r55.Who, .int .i64 r55.Kind, .int .i64 r55.Addr, .int .i64 r55.A, .int .i64 r55.B, .bool r55.OK, .int .i64 r57.Who, .int .i64 r57.Kind, .int .i64 r57.Addr, .int .i64 r57.A, .int .i64 r57.B, .bool r57.OK, .int .i64 r59.Who, .int .i64 r59.Kind, .int .i64 r59.Addr, .int .i64 r59.A, .int .i64 r59.B, .bool r59.OK]) (T := 90) (by kernel_rfl) ?_; clear h hr a; intro b61 w a h hr
  replace h : Fit z (sepL (rowOf 90 6 enc_T_api_Access (.slice ca5 p1.length p1.length) l13 :: pts b61 (.cells #[.int .i64 r55.Who, .int .i64 r55.Kind, .int .i64 r55.Addr, .int .i64 r55.A, .int .i64 r55.B, .bool r55.OK, .int .i64 r57.Who, .int .i64 r57.Kind, .int .i64 r57.Addr, .int .i64 r57.A, .int .i64 r57.B, .bool r57.OK, .int .i64 r59.Who, .int .i64 r59.Kind, .int .i64 r59.Addr, .int .i64 r59.A, .int .i64 r59.B, .bool r59.OK] 90) :: ro90 ca52 cc53 (l13 ++ [r47, r49]) :: pts b51 (.cells #[.int .i64 r47.Who, .int .i64 r47.Kind, .int .i64 r47.Addr, .int .i64 r47.A, .int .i64 r47.B, .bool r47.OK, .int .i64 r49.Who, .int .i64 r49.Kind, .int .i64 r49.Addr, .int .i64 r49.A, .int .i64 r49.B, .bool r49.OK] 90) :: ro90 ca44 cc45 (l13 ++ [r41]) :: ob90 b43 r41 :: ob78 B0 S7 caq9 ccq10 caq11 ccq12 :: rn139 caq9 ccq10 S7.numberLists :: rn142 caq11 ccq12 S7.accessLists :: L)) _ := h.sel 9 [2, 0, 1, 3, 4, 5, 6, 7, 8] (by kernel_rfl) (by kernel_rfl)
  replace H := gd H; obtain ⟨c64, H⟩ := H
  refine op_append_fullrow (n0 := p1.length) (c := 3) (bytes := 48) (wn rfl) rfl rfl hr rfl (by kernel_rfl) rfl (by kernel_rfl) (by kernel_rfl) enc_T_api_Access_ok (E := 90) (xs := l13) (by kernel_rfl) (by kernel_rfl) h (news := [r55, r57, r59]) (m := 3) rfl ((h.pick 1).news rfl) c64 rfl ?_; clear h hr a; intro ca62 cc63 w a h hr
  refine ov hr (.slice ca62 ((l13 ++ [r55, r57, r59]).length) cc63) (by kernel_rfl) ?_; clear hr a; intro a hr
  refine wpList_nil ?_
  replace h : Fit z (sepL (ro90 ca62 cc63 (l13 ++ [r55, r57, r59]) :: rowOf 90 6 enc_T_api_Access (.slice ca5 p1.length p1.length) l13 :: pts b61 (.cells #[.int .i64 r55.Who, .int .i64 r55.Kind, .int .i64 r55.Addr, .int .i64 r55.A, .int .i64 r55.B, .bool r55.OK, .int .i64 r57.Who, .int .i64 r57.Kind, .int .i64 r57.Addr, .int .i64 r57.A, .int .i64 r57.B, .bool r57.OK, .int .i64 r59.Who, .int .i64 r59.Kind, .int .i64 r59.Addr, .int .i64 r59.A, .int .i64 r59.B, .bool r59.OK] 90) :: ro90 ca52 cc53 (l13 ++ [r47, r49]) :: pts b51 (.cells #[.int .i64 r47.Who, .int .i64 r47.Kind, .int .i64 r47.Addr, .int .i64 r47.A, .int .i64 r47.B, .bool r47.OK, .int .i64 r49.Who, .int .i64 r49.Kind, .int .i64 r49.Addr, .int .i64 r49.A, .int .i64 r49.B, .bool r49.OK] 90) :: ro90 ca44 cc45 (l13 ++ [r41]) :: ob90 b43 r41 :: ob78 B0 S7 caq9 ccq10 caq11 ccq12 :: rn139 caq9 ccq10 S7.numberLists :: rn142 caq11 ccq12 S7.accessLists :: L)) _ := h
  refine then_normal ?_
  refine wp_region_lit ?_
  refine ovs [62, 63, 64, 65] [.pointer (some ⟨B0, 0, none⟩), .pointer (some ⟨B0, 0, none⟩), .pointer (some ⟨B0, 0, none⟩), .pointer (some ⟨B0, 1, none⟩)] hr ⟨rfl, rfl⟩ (by kernel_rfl) ?_; clear hr a; intro a hr
  refine op_val (wn rfl) rfl rfl hr (v := .slice caq11 S7.accessLists.length ccq12) (rl rfl (by kernel_rfl) (by kernel_rfl) ((h.pick 7).cell 1 rfl)) ?_; clear hr a; intro a hr
  refine ovs [67, 68, 69, 70, 71, 72] [.int .i64 r6, .slice ca5 p1.length p1.length, .slice ca44 ((l13 ++ [r41]).length) cc45, .slice ca52 ((l13 ++ [r47, r49]).length) cc53, .slice ca62 ((l13 ++ [r55, r57, r59]).length) cc63, .agg #[.int .i64 r6, .slice ca5 p1.length p1.length, .slice ca44 ((l13 ++ [r41]).length) cc45, .slice ca52 ((l13 ++ [r47, r49]).length) cc53, .slice ca62 ((l13 ++ [r55, r57, r59]).length) cc63]] hr ⟨rfl, rfl⟩ (by kernel_rfl) ?_; clear hr a; intro a hr
  refine op_new (wn rfl) rfl rfl hr h (vf := fun b => .slice (some ⟨b, 0, none⟩) 1 1) (cs := #[.int .i64 r6, .slice ca5 p1.length p1.length, .slice ca44 ((l13 ++ [r41]).length) cc45, .slice ca52 ((l13 ++ [r47, r49]).length) cc53, .slice ca62 ((l13 ++ [r55, r57, r59]).length) cc63]) (T := 142) (by kernel_rfl) ?_; clear h hr a; intro b65 w a h hr
  have hn65 := (h.pick 2).row_n
  replace h : Fit z (sepL (pts b65 (.cells #[.int .i64 r6, .slice ca5 l13.length p1.length, .slice ca44 ((l13 ++ [r41]).length) cc45, .slice ca52 ((l13 ++ [r47, r49]).length) cc53, .slice ca62 ((l13 ++ [r55, r57, r59]).length) cc63] 142) :: ro90 ca62 cc63 (l13 ++ [r55, r57, r59]) :: ro90 ca5 p1.length l13 :: pts b61 (.cells #[.int .i64 r55.Who, .int .i64 r55.Kind, .int .i64 r55.Addr, .int .i64 r55.A, .int .i64 r55.B, .bool r55.OK, .int .i64 r57.Who, .int .i64 r57.Kind, .int .i64 r57.Addr, .int .i64 r57.A, .int .i64 r57.B, .bool r57.OK, .int .i64 r59.Who, .int .i64 r59.Kind, .int .i64 r59.Addr, .int .i64 r59.A, .int .i64 r59.B, .bool r59.OK] 90) :: ro90 ca52 cc53 (l13 ++ [r47, r49]) :: pts b51 (.cells #[.int .i64 r47.Who, .int .i64 r47.Kind, .int .i64 r47.Addr, .int .i64 r47.A, .int .i64 r47.B, .bool r47.OK, .int .i64 r49.Who, .int .i64 r49.Kind, .int .i64 r49.Addr, .int .i64 r49.A, .int .i64 r49.B, .bool r49.OK] 90) :: ro90 ca44 cc45 (l13 ++ [r41]) :: ob90 b43 r41 :: ob78 B0 S7 caq9 ccq10 caq11 ccq12 :: rn139 caq9 ccq10 S7.numberLists :: rn142 caq11 ccq12 S7.accessLists :: L)) w := (congrArg (fun q_ : Nat => Fit z (sepL (pts b65 (.cells #[.int .i64 r6, .slice ca5 q_ p1.length, .slice ca44 ((l13 ++ [r41]).length) cc45, .slice ca52 ((l13 ++ [r47, r49]).length) cc53, .slice ca62 ((l13 ++ [r55, r57, r59]).length) cc63] 142) :: ro90 ca62 cc63 (l13 ++ [r55, r57, r59]) :: rowOf 90 6 enc_T_api_Access (.slice ca5 q_ p1.length) l13 :: pts b61 (.cells #[.int .i64 r55.Who, .int .i64 r55.Kind, .int .i64 r55.Addr, .int .i64 r55.A, .int .i64 r55.B, .bool r55.OK, .int .i64 r57.Who, .int .i64 r57.Kind, .int .i64 r57.Addr, .int .i64 r57.A, .int .i64 r57.B, .bool r57.OK, .int .i64 r59.Who, .int .i64 r59.Kind, .int .i64 r59.Addr, .int .i64 r59.A, .int .i64 r59.B, .bool r59.OK] 90) :: ro90 ca52 cc53 (l13 ++ [r47, r49]) :: pts b51 (.cells #[.int .i64 r47.Who, .int .i64 r47.Kind, .int .i64 r47.Addr, .int .i64 r47.A, .int .i64 r47.B, .bool r47.OK, .int .i64 r49.Who, .int .i64 r49.Kind, .int .i64 r49.Addr, .int .i64 r49.A, .int .i64 r49.B, .bool r49.OK] 90) :: ro90 ca44 cc45 (l13 ++ [r41]) :: ob90 b43 r41 :: ob78 B0 S7 caq9 ccq10 caq11 ccq12 :: rn139 caq9 ccq10 S7.numberLists :: rn142 caq11 ccq12 S7.accessLists :: L)) w) (h.pick 2).row_n).mp h
  replace h : Fit z (sepL (ro90 ca5 p1.length l13 :: ro90 ca44 cc45 (l13 ++ [r41]) :: ro90 ca52 cc53 (l13 ++ [r47, r49]) :: ro90 ca62 cc63 (l13 ++ [r55, r57, r59]) :: pts b65 (.cells #[.int .i64 r6, .slice ca5 l13.length p1.length, .slice ca44 ((l13 ++ [r41]).length) cc45, .slice ca52 ((l13 ++ [r47, r49]).length) cc53, .slice ca62 ((l13 ++ [r55, r57, r59]).length) cc63] 142) :: pts b61 (.cells #[.int .i64 r55.Who, .int .i64 r55.Kind, .int .i64 r55.Addr, .int .i64 r55.A, .int .i64 r55.B, .bool r55.OK, .int .i64 r57.Who, .int .i64 r57.Kind, .int .i64 r57.Addr, .int .i64 r57.A, .int .i64 r57.B, .bool r57.OK, .int .i64 r59.Who, .int .i64 r59.Kind, .int .i64 r59.Addr, .int .i64 r59.A, .int .i64 r59.B, .bool r59.OK] 90) :: pts b51 (.cells #[.int .i64 r47.Who, .int .i64 r47.Kind, .int .i64 r47.Addr, .int .i64 r47.A, .int .i64 r47.B, .bool r47.OK, .int .i64 r49.Who, .int .i64 r49.Kind, .int .i64 r49.Addr, .int .i64 r49.A, .int .i64 r49.B, .bool r49.OK] 90) :: ob90 b43 r41 :: ob78 B0 S7 caq9 ccq10 caq11 ccq12 :: rn139 caq9 ccq10 S7.numberLists :: rn142 caq11 ccq12 S7.accessLists :: L)) _ := h.sel 11 [2, 6, 4, 1, 0, 3, 5, 7, 8, 9, 10] (by kernel_rfl) (by kernel_rfl)
  replace h := own_T_plunderlaw2_noted_sh (x := (⟨r6, l13, l13 ++ [r41], l13 ++ [r47, r49], l13 ++ [r55, r57, r59]⟩ : T_plunderlaw2_noted)) h
  replace H := gd H; obtain ⟨c67, H⟩ := H
  replace h : Fit z (sepL (rn142 caq11 ccq12 S7.accessLists :: own_T_plunderlaw2_noted (⟨r6, l13, l13 ++ [r41], l13 ++ [r47, r49], l13 ++ [r55, r57, r59]⟩ : T_plunderlaw2_noted) [.int .i64 r6, .slice ca5 l13.length p1.length, .slice ca44 ((l13 ++ [r41]).length) cc45, .slice ca52 ((l13 ++ [r47, r49]).length) cc53, .slice ca62 ((l13 ++ [r55, r57, r59]).length) cc63] :: pts b65 (.cells #[.int .i64 r6, .slice ca5 l13.length p1.length, .slice ca44 ((l13 ++ [r41]).length) cc45, .slice ca52 ((l13 ++ [r47, r49]).length) cc53, .slice ca62 ((l13 ++ [r55, r57, r59]).length) cc63] 142) :: pts b61 (.cells #[.int .i64 r55.Who, .int .i64 r55.Kind, .int .i64 r55.Addr, .int .i64 r55.A, .int .i64 r55.B, .bool r55.OK, .int .i64 r57.Who, .int .i64 r57.Kind, .int .i64 r57.Addr, .int .i64 r57.A, .int .i64 r57.B, .bool r57.OK, .int .i64 r59.Who, .int .i64 r59.Kind, .int .i64 r59.Addr, .int .i64 r59.A, .int .i64 r59.B, .bool r59.OK] 90) :: pts b51 (.cells #[.int .i64 r47.Who, .int .i64 r47.Kind, .int .i64 r47.Addr, .int .i64 r47.A, .int .i64 r47.B, .bool r47.OK, .int .i64 r49.Who, .int .i64 r49.Kind, .int .i64 r49.Addr, .int .i64 r49.A, .int .i64 r49.B, .bool r49.OK] 90) :: ob90 b43 r41 :: ob78 B0 S7 caq9 ccq10 caq11 ccq12 :: rn139 caq9 ccq10 S7.numberLists :: L)) _ := h.sel 8 [7, 0, 1, 2, 3, 4, 5, 6] (by kernel_rfl) (by kernel_rfl)
  refine op_append_N (n0 := S7.accessLists.length) (c := 1) (bytes := 104) (sz := 5) (wn rfl) rfl rfl hr rfl (by kernel_rfl) (by kernel_rfl) (E := 142) (xs := S7.accessLists) (by kernel_rfl) (by kernel_rfl) rfl rfl rfl h ((h.pick 2).news rfl) c67 rfl ?_; clear h hr a; intro ca68 cc69 w a h hr
  refine ovs [75, 76] [.pointer (some ⟨B0, 0, none⟩), .pointer (some ⟨B0, 1, none⟩)] hr ⟨rfl, rfl⟩ (by kernel_rfl) ?_; clear hr a; intro a hr
  replace h : Fit z (sepL (ob78 B0 S7 caq9 ccq10 caq11 ccq12 :: rn142 ca68 cc69 (S7.accessLists ++ [(⟨r6, l13, l13 ++ [r41], l13 ++ [r47, r49], l13 ++ [r55, r57, r59]⟩ : T_plunderlaw2_noted)]) :: pts b65 (.cells #[.int .i64 r6, .slice ca5 l13.length p1.length, .slice ca44 ((l13 ++ [r41]).length) cc45, .slice ca52 ((l13 ++ [r47, r49]).length) cc53, .slice ca62 ((l13 ++ [r55, r57, r59]).length) cc63] 142) :: pts b61 (.cells #[.int .i64 r55.Who, .int .i64 r55.Kind, .int .i64 r55.Addr, .int .i64 r55.A, .int .i64 r55.B, .bool r55.OK, .int .i64 r57.Who, .int .i64 r57.Kind, .int .i64 r57.Addr, .int .i64 r57.A, .int .i64 r57.B, .bool r57.OK, .int .i64 r59.Who, .int .i64 r59.Kind, .int .i64 r59.Addr, .int .i64 r59.A, .int .i64 r59.B, .bool r59.OK] 90) :: pts b51 (.cells #[.int .i64 r47.Who, .int .i64 r47.Kind, .int .i64 r47.Addr, .int .i64 r47.A, .int .i64 r47.B, .bool r47.OK, .int .i64 r49.Who, .int .i64 r49.Kind, .int .i64 r49.Addr, .int .i64 r49.A, .int .i64 r49.B, .bool r49.OK] 90) :: ob90 b43 r41 :: rn139 caq9 ccq10 S7.numberLists :: L)) _ := h.sel 7 [5, 0, 1, 2, 3, 4, 6] (by kernel_rfl) (by kernel_rfl)
  refine op_store (wn rfl) rfl hr rfl (by kernel_rfl) (by kernel_rfl) (v := .slice ca68 ((S7.accessLists ++ [(⟨r6, l13, l13 ++ [r41], l13 ++ [r47, r49], l13 ++ [r55, r57, r59]⟩ : T_plunderlaw2_noted)]).length) cc69) rfl rfl (by kernel_rfl) h (i := 1) rfl ?_; clear h; intro w h
  refine wpList_nil ?_
  replace h : Fit z (sepL (pts B0 (.cells #[.slice caq9 S7.numberLists.length ccq10, .slice ca68 ((S7.accessLists ++ [(⟨r6, l13, l13 ++ [r41], l13 ++ [r47, r49], l13 ++ [r55, r57, r59]⟩ : T_plunderlaw2_noted)]).length) cc69, .int .i64 S7.next] 78) :: rn142 ca68 cc69 (S7.accessLists ++ [(⟨r6, l13, l13 ++ [r41], l13 ++ [r47, r49], l13 ++ [r55, r57, r59]⟩ : T_plunderlaw2_noted)]) :: pts b65 (.cells #[.int .i64 r6, .slice ca5 l13.length p1.length, .slice ca44 ((l13 ++ [r41]).length) cc45, .slice ca52 ((l13 ++ [r47, r49]).length) cc53, .slice ca62 ((l13 ++ [r55, r57, r59]).length) cc63] 142) :: pts b61 (.cells #[.int .i64 r55.Who, .int .i64 r55.Kind, .int .i64 r55.Addr, .int .i64 r55.A, .int .i64 r55.B, .bool r55.OK, .int .i64 r57.Who, .int .i64 r57.Kind, .int .i64 r57.Addr, .int .i64 r57.A, .int .i64 r57.B, .bool r57.OK, .int .i64 r59.Who, .int .i64 r59.Kind, .int .i64 r59.Addr, .int .i64 r59.A, .int .i64 r59.B, .bool r59.OK] 90) :: pts b51 (.cells #[.int .i64 r47.Who, .int .i64 r47.Kind, .int .i64 r47.Addr, .int .i64 r47.A, .int .i64 r47.B, .bool r47.OK, .int .i64 r49.Who, .int .i64 r49.Kind, .int .i64 r49.Addr, .int .i64 r49.A, .int .i64 r49.B, .bool r49.OK] 90) :: ob90 b43 r41 :: rn139 caq9 ccq10 S7.numberLists :: L)) _ := h
  refine end_norm0 rfl hr ?_
  replace h : Fit z (sepL (pts B0 (.cells #[.slice caq9 S7.numberLists.length ccq10, .slice ca68 ((S7.accessLists ++ [(⟨r6, l13, l13 ++ [r41], l13 ++ [r47, r49], l13 ++ [r55, r57, r59]⟩ : T_plunderlaw2_noted)]).length) cc69, .int .i64 S7.next] 78) :: rn139 caq9 ccq10 S7.numberLists :: rn142 ca68 cc69 (S7.accessLists ++ [(⟨r6, l13, l13 ++ [r41], l13 ++ [r47, r49], l13 ++ [r55, r57, r59]⟩ : T_plunderlaw2_noted)]) :: L)) _ := h.sel 7 [0, 6, 1] (by kernel_rfl) (by kernel_rfl)
  replace H := ej1 H; subst H
  exact ⟨caq9, ccq10, ca68, cc69, rfl, h⟩

/-- plunder/plunderlaw2.plays -/
def plunderlaw2_plays (K : Nat) (p0 : T_cells_Arena) (p1 : T_plunderref2_Arena) (p2 : T_plunderlaw2_Move) (p3 : T_plunderlaw2_book) : Option (Bool × T_cells_Arena × T_plunderref2_Arena × T_plunderlaw2_book) :=
  jn0 (ob1 ((if p2.Kind ≥ (0 : Int) then some (decide (p2.Kind ≤ (4 : Int))) else some false)) (fun g16 => (if g16 = true then ob2 (plunderlaw2_done p0 p2) (fun r21 S22 => ob1 (plunderlaw2_act p2) (fun r29 => ob2 (plunderref2_Arena_Do K p1 r29) (fun r31 S32 => some (.inr (decide (r21 = r31), S22, S32, p3))))) else some (.inl ())))) ((if p2.Kind = (5 : Int) then ob1 (plunderlaw2_mod p2.A 2) (fun r40 => ob1 (cells_Arena_Watch p0 (r40 == (1 : Int))) (fun S42 => ob1 (plunderlaw2_mod p2.A 2) (fun r48 => some (true, S42, { p1 with On := r48 == (1 : Int) }, p3)))) else (if p2.Kind = (6 : Int) then ob1 (cells_Arena_Who p0 p2.Addr) (fun S51 => some (true, S51, { p1 with Actor := p2.Addr }, p3)) else (if p2.Kind = (7 : Int) then ob1 (cells_Arena_Size p0) (fun r58 => some (r58 == p1.Most, p0, p1, p3)) else (if p2.Kind = (8 : Int) then ob1 (cells_Arena_Mark p0) (fun r61 => some (r61 == ((p1.Held.length : Nat) : Int), p0, p1, p3)) else (if p2.Kind = (9 : Int) then ob1 (cells_Arena_Cells p0) (fun r64 => ob1 (plunderlaw2_sameNumbers K r64 p1.Held) (fun r67 => ob1 (plunderlaw2_book_numbers K p3 r64) (fun S69 => some (r67, p0, p1, S69)))) else (if p2.Kind = (10 : Int) then ob1 (cells_Arena_Log p0) (fun r76 => ob1 (plunderlaw2_sameLog K r76 p1.Book) (fun r79 => ob1 (plunderlaw2_book_accesses K p3 r76) (fun S81 => some (r79, p0, p1, S81)))) else some (true, p0, p1, p3))))))))
set_option maxRecDepth 100000 in
set_option maxHeartbeats 4000000 in
theorem plunderlaw2_plays_ok {z w : World} {L : List HProp} {K : Nat} {p0 : T_cells_Arena} {p1 : T_plunderref2_Arena} {p2 : T_plunderlaw2_Move} {p3 : T_plunderlaw2_book} {B0 : Nat} {ca1 : Option Addr} {cc2 : Nat} {ca3 : Option Addr} {cc4 : Nat} {B1 : Nat} {ca5 : Option Addr} {cc6 : Nat} {ca7 : Option Addr} {cc8 : Nat} {B3 : Nat} {ca9 : Option Addr} {cc10 : Nat} {ca11 : Option Addr} {cc12 : Nat} {r0 : Bool} {q0 : T_cells_Arena} {q1 : T_plunderref2_Arena} {q3 : T_plunderlaw2_book} (H : plunderlaw2_plays K p0 p1 p2 p3 = some (r0, q0, q1, q3)) (h : Fit z (sepL (ob96 B0 p0 ca1 cc2 ca3 cc4 :: ro2 ca1 cc2 p0.cell :: ro90 ca3 cc4 p0.log :: ob62 B1 p1 ca5 cc6 ca7 cc8 :: ro2 ca5 cc6 p1.Held :: ro90 ca7 cc8 p1.Book :: ob78 B3 p3 ca9 cc10 ca11 cc12 :: rn139 ca9 cc10 p3.numberLists :: rn142 ca11 cc12 p3.accessLists :: L)) w)  :
    Calls Try.prog 69 #[.pointer (some ⟨B0, 0, none⟩), .pointer (some ⟨B1, 0, none⟩), .agg #[.int .i64 p2.Side, .int .i64 p2.Kind, .int .i64 p2.Addr, .int .i64 p2.A, .int .i64 p2.B], .pointer (some ⟨B3, 0, none⟩)] w fun e w => ∃ caq0_1 : Option Addr, ∃ ccq0_2 : Nat, ∃ caq0_3 : Option Addr, ∃ ccq0_4 : Nat, ∃ caq1_1 : Option Addr, ∃ ccq1_2 : Nat, ∃ caq1_3 : Option Addr, ∃ ccq1_4 : Nat, ∃ caq3_1 : Option Addr, ∃ ccq3_2 : Nat, ∃ caq3_3 : Option Addr, ∃ ccq3_4 : Nat, e = .returned (.bool r0) ∧ Fit z (sepL (ob96 B0 q0 caq0_1 ccq0_2 caq0_3 ccq0_4 :: ro2 caq0_1 ccq0_2 q0.cell :: ro90 caq0_3 ccq0_4 q0.log :: ob62 B1 q1 caq1_1 ccq1_2 caq1_3 ccq1_4 :: ro2 caq1_1 ccq1_2 q1.Held :: ro90 caq1_3 ccq1_4 q1.Book :: ob78 B3 q3 caq3_1 ccq3_2 caq3_3 ccq3_4 :: rn139 caq3_1 ccq3_2 q3.numberLists :: rn142 caq3_3 ccq3_4 q3.accessLists :: L)) w := by
  unfold plunderlaw2_plays at H
  refine enter Try.func69 rfl 108 rfl rfl [(0, .pointer (some ⟨B0, 0, none⟩)), (1, .pointer (some ⟨B1, 0, none⟩)), (2, .agg #[.int .i64 p2.Side, .int .i64 p2.Kind, .int .i64 p2.Addr, .int .i64 p2.A, .int .i64 p2.B]), (3, .pointer (some ⟨B3, 0, none⟩))] ⟨rfl, rfl, rfl, rfl, trivial⟩ ?_
  intro j a hr
  refine wp_seq ?_
  refine wp_region_lit ?_
  refine op_new (wn rfl) rfl rfl hr h (vf := fun b => .pointer (some ⟨b, 0, none⟩)) (cs := #[.int .i64 p2.Side, .int .i64 p2.Kind, .int .i64 p2.Addr, .int .i64 p2.A, .int .i64 p2.B]) (T := 30) (by kernel_rfl) ?_; clear h hr a; intro b13 w a h hr
  refine ov hr (.bool false) (by kernel_rfl) ?_; clear hr a; intro a hr
  refine wpList_nil ?_
  refine then_normal ?_
  replace H := jd0 H; obtain ⟨o15, H, hK14⟩ := H
  refine cut_rule (β := Unit) (fun _ a w => .inl () = o15 ∧ ∃ j, Rep 108 (lk [(0, .pointer (some ⟨B0, 0, none⟩)), (1, .pointer (some ⟨B1, 0, none⟩)), (3, .pointer (some ⟨B3, 0, none⟩)), (6, .pointer (some ⟨b13, 0, none⟩))] j) a ∧ Fit z (sepL (ob96 B0 p0 ca1 cc2 ca3 cc4 :: ro2 ca1 cc2 p0.cell :: ro90 ca3 cc4 p0.log :: ob62 B1 p1 ca5 cc6 ca7 cc8 :: ro2 ca5 cc6 p1.Held :: ro90 ca7 cc8 p1.Book :: ob78 B3 p3 ca9 cc10 ca11 cc12 :: rn139 ca9 cc10 p3.numberLists :: rn142 ca11 cc12 p3.accessLists :: ob30 b13 p2 :: L)) w) ?_ ?_
  ·
    replace H := kd1 H; obtain ⟨o18, H, hK17⟩ := H
    refine cut_rule (β := Unit) (fun _ a w => ∃ g16 : Bool, g16 = o18 ∧ ∃ j, Rep 108 (lk [(0, .pointer (some ⟨B0, 0, none⟩)), (1, .pointer (some ⟨B1, 0, none⟩)), (3, .pointer (some ⟨B3, 0, none⟩)), (6, .pointer (some ⟨b13, 0, none⟩)), (22, .bool g16)] j) a ∧ Fit z (sepL (ob96 B0 p0 ca1 cc2 ca3 cc4 :: ro2 ca1 cc2 p0.cell :: ro90 ca3 cc4 p0.log :: ob62 B1 p1 ca5 cc6 ca7 cc8 :: ro2 ca5 cc6 p1.Held :: ro90 ca7 cc8 p1.Book :: ob78 B3 p3 ca9 cc10 ca11 cc12 :: rn139 ca9 cc10 p3.numberLists :: rn142 ca11 cc12 p3.accessLists :: ob30 b13 p2 :: L)) w) ?_ ?_
    ·
      refine wp_region_lit ?_
      refine ov hr (.pointer (some ⟨b13, 1, none⟩)) (by kernel_rfl) ?_; clear hr a; intro a hr
      refine op_val (wn rfl) rfl rfl hr (v := .int .i64 p2.Kind) (rl rfl (by kernel_rfl) (by kernel_rfl) (h.cell 1 rfl)) ?_; clear hr a; intro a hr
      refine ovs [17, 18] [.bool (decide (p2.Kind ≥ (0 : Int))), .bool (decide (p2.Kind ≥ (0 : Int)))] hr ⟨rfl, rfl⟩ (by kernel_rfl) ?_; clear hr a; intro a hr
      by_cases c19 : p2.Kind ≥ (0 : Int)
      ·
        replace H := ifT c19 H
        refine op_val ((wg hr rfl rfl rfl (b' := (decide (p2.Kind ≥ (0 : Int)))) (by kernel_rfl)).trans (by rw [show (decide (p2.Kind ≥ (0 : Int))) = true from (decide_eq_true c19)]; rfl)) rfl rfl hr (v := .pointer (some ⟨b13, 1, none⟩)) (by kernel_rfl) ?_; clear hr a; intro a hr
        refine op_val ((wg hr rfl rfl rfl (b' := (decide (p2.Kind ≥ (0 : Int)))) (by kernel_rfl)).trans (by rw [show (decide (p2.Kind ≥ (0 : Int))) = true from (decide_eq_true c19)]; rfl)) rfl rfl hr (v := .int .i64 p2.Kind) (rl rfl (by kernel_rfl) (by kernel_rfl) (h.cell 1 rfl)) ?_; clear hr a; intro a hr
        refine op_val ((wg hr rfl rfl rfl (b' := (decide (p2.Kind ≥ (0 : Int)))) (by kernel_rfl)).trans (by rw [show (decide (p2.Kind ≥ (0 : Int))) = true from (decide_eq_true c19)]; rfl)) rfl rfl hr (v := .bool (decide (p2.Kind ≤ (4 : Int)))) (by kernel_rfl) ?_; clear hr a; intro a hr
        refine op_val (wn rfl) rfl rfl hr (v := .bool (decide (p2.Kind ≤ (4 : Int)))) (rp_t (b := (decide (p2.Kind ≥ (0 : Int)))) rfl (by kernel_rfl) (decide_eq_true c19) (by kernel_rfl)) ?_; clear hr a; intro a hr
        refine wpList_nil ?_
        refine then_normal ?_
        replace hr := hr.fold2 [(0, .pointer (some ⟨B0, 0, none⟩)), (1, .pointer (some ⟨B1, 0, none⟩)), (3, .pointer (some ⟨B3, 0, none⟩)), (6, .pointer (some ⟨b13, 0, none⟩)), (22, .bool (decide (p2.Kind ≤ (4 : Int))))] (by kernel_rfl); obtain ⟨j, hr⟩ := hr
        replace h : Fit z (sepL (ob96 B0 p0 ca1 cc2 ca3 cc4 :: ro2 ca1 cc2 p0.cell :: ro90 ca3 cc4 p0.log :: ob62 B1 p1 ca5 cc6 ca7 cc8 :: ro2 ca5 cc6 p1.Held :: ro90 ca7 cc8 p1.Book :: ob78 B3 p3 ca9 cc10 ca11 cc12 :: rn139 ca9 cc10 p3.numberLists :: rn142 ca11 cc12 p3.accessLists :: ob30 b13 p2 :: L)) _ := h.sel 10 [1, 2, 3, 4, 5, 6, 7, 8, 9, 0] (by kernel_rfl) (by kernel_rfl)
        exact ⟨(), (decide (p2.Kind ≤ (4 : Int))), sinj H, j, hr, h⟩
      ·
        replace H := ifF c19 H
        refine op_off ((wg hr rfl rfl rfl (b' := (decide (p2.Kind ≥ (0 : Int)))) (by kernel_rfl)).trans (by rw [show (decide (p2.Kind ≥ (0 : Int))) = false from (decide_eq_false c19)]; rfl)) rfl rfl hr ?_; clear hr a; intro a hr
        refine op_off ((wg hr rfl rfl rfl (b' := (decide (p2.Kind ≥ (0 : Int)))) (by kernel_rfl)).trans (by rw [show (decide (p2.Kind ≥ (0 : Int))) = false from (decide_eq_false c19)]; rfl)) rfl rfl hr ?_; clear hr a; intro a hr
        refine op_off ((wg hr rfl rfl rfl (b' := (decide (p2.Kind ≥ (0 : Int)))) (by kernel_rfl)).trans (by rw [show (decide (p2.Kind ≥ (0 : Int))) = false from (decide_eq_false c19)]; rfl)) rfl rfl hr ?_; clear hr a; intro a hr
        refine op_val (wn rfl) rfl rfl hr (v := .bool false) (rp_f (b := (decide (p2.Kind ≥ (0 : Int)))) rfl (by kernel_rfl) (decide_eq_false c19) (by kernel_rfl)) ?_; clear hr a; intro a hr
        refine wpList_nil ?_
        refine then_normal ?_
        replace hr := hr.fold2 [(0, .pointer (some ⟨B0, 0, none⟩)), (1, .pointer (some ⟨B1, 0, none⟩)), (3, .pointer (some ⟨B3, 0, none⟩)), (6, .pointer (some ⟨b13, 0, none⟩)), (22, .bool false)] (by kernel_rfl); obtain ⟨j, hr⟩ := hr
        replace h : Fit z (sepL (ob96 B0 p0 ca1 cc2 ca3 cc4 :: ro2 ca1 cc2 p0.cell :: ro90 ca3 cc4 p0.log :: ob62 B1 p1 ca5 cc6 ca7 cc8 :: ro2 ca5 cc6 p1.Held :: ro90 ca7 cc8 p1.Book :: ob78 B3 p3 ca9 cc10 ca11 cc12 :: rn139 ca9 cc10 p3.numberLists :: rn142 ca11 cc12 p3.accessLists :: ob30 b13 p2 :: L)) _ := h.sel 10 [1, 2, 3, 4, 5, 6, 7, 8, 9, 0] (by kernel_rfl) (by kernel_rfl)
        exact ⟨(), false, sinj H, j, hr, h⟩
    clear h hr a; rintro _ a w ⟨g16, rfl, j, hr, h⟩
    replace H := kk1 hK17
    by_cases c20 : g16 = true
    ·
      replace H := ifT c20 H
      refine cond_tt hr (b := g16) (c20) ?_
      refine wp_seq ?_
      refine wp_region_lit ?_
      refine ov hr (.pointer (some ⟨B0, 0, none⟩)) (by kernel_rfl) ?_; clear hr a; intro a hr
      refine op_val (wn rfl) rfl rfl hr (v := .agg #[.int .i64 p2.Side, .int .i64 p2.Kind, .int .i64 p2.Addr, .int .i64 p2.A, .int .i64 p2.B]) (rlm (cs := [.int .i64 p2.Side, .int .i64 p2.Kind, .int .i64 p2.Addr, .int .i64 p2.A, .int .i64 p2.B]) rfl (by kernel_rfl) (by kernel_rfl) (by kernel_rfl) ⟨(h.pick 9).cell 0 rfl, (h.pick 9).cell 1 rfl, (h.pick 9).cell 2 rfl, (h.pick 9).cell 3 rfl, (h.pick 9).cell 4 rfl, trivial⟩) ?_; clear hr a; intro a hr
      replace H := bd2 H; obtain ⟨r21, S22, e23, H⟩ := H
      have hc := plunderlaw2_done_ok (H := e23) (h := h)
      refine op_call (wn rfl) rfl rfl hr (f := 22) (args := #[.pointer (some ⟨B0, 0, none⟩), .agg #[.int .i64 p2.Side, .int .i64 p2.Kind, .int .i64 p2.Addr, .int .i64 p2.A, .int .i64 p2.B]]) (by kernel_rfl) hc ?_; clear hc h
      rintro _ w ⟨caq24, ccq25, caq26, ccq27, rfl, h⟩; refine ⟨_, rfl, ?_⟩
      clear hr a; intro a hr
      refine op_new (wn rfl) rfl rfl hr h (vf := fun b => .pointer (some ⟨b, 0, none⟩)) (cs := #[.int .i64 0, .bool false, .int .i64 0]) (T := 39) (by kernel_rfl) ?_; clear h hr a; intro b28 w a h hr
      refine op_stores (wn rfl) rfl hr rfl (by kernel_rfl) (by kernel_rfl) (vs := [.int .i64 r21.V, .bool r21.OK, .int .i64 r21.Err]) rfl rfl (by kernel_rfl) h (i := 0) (cs' := #[.int .i64 r21.V, .bool r21.OK, .int .i64 r21.Err]) rfl ?_; clear h; intro w h
      refine wpList_nil ?_
      replace h : Fit z (sepL (ob39 b28 r21 :: ob96 B0 S22 caq24 ccq25 caq26 ccq27 :: ro2 caq24 ccq25 S22.cell :: ro90 caq26 ccq27 S22.log :: ob62 B1 p1 ca5 cc6 ca7 cc8 :: ro2 ca5 cc6 p1.Held :: ro90 ca7 cc8 p1.Book :: ob78 B3 p3 ca9 cc10 ca11 cc12 :: rn139 ca9 cc10 p3.numberLists :: rn142 ca11 cc12 p3.accessLists :: ob30 b13 p2 :: L)) _ := h
      refine then_normal ?_
      refine wp_seq ?_
      refine wp_region_lit ?_
      refine ov hr (.pointer (some ⟨B1, 0, none⟩)) (by kernel_rfl) ?_; clear hr a; intro a hr
      refine op_val (wn rfl) rfl rfl hr (v := .agg #[.int .i64 p2.Side, .int .i64 p2.Kind, .int .i64 p2.Addr, .int .i64 p2.A, .int .i64 p2.B]) (rlm (cs := [.int .i64 p2.Side, .int .i64 p2.Kind, .int .i64 p2.Addr, .int .i64 p2.A, .int .i64 p2.B]) rfl (by kernel_rfl) (by kernel_rfl) (by kernel_rfl) ⟨(h.pick 10).cell 0 rfl, (h.pick 10).cell 1 rfl, (h.pick 10).cell 2 rfl, (h.pick 10).cell 3 rfl, (h.pick 10).cell 4 rfl, trivial⟩) ?_; clear hr a; intro a hr
      replace H := bd1 H; obtain ⟨r29, e30, H⟩ := H
      have hc := plunderlaw2_act_ok (H := e30) (h := h)
      refine op_call (wn rfl) rfl rfl hr (f := 31) (args := #[.agg #[.int .i64 p2.Side, .int .i64 p2.Kind, .int .i64 p2.Addr, .int .i64 p2.A, .int .i64 p2.B]]) (by kernel_rfl) hc ?_; clear hc h
      rintro _ w ⟨rfl, h⟩; refine ⟨_, rfl, ?_⟩
      clear hr a; intro a hr
      replace H := bd2 H; obtain ⟨r31, S32, e33, H⟩ := H
      replace h : Fit z (sepL (ob62 B1 p1 ca5 cc6 ca7 cc8 :: ro2 ca5 cc6 p1.Held :: ro90 ca7 cc8 p1.Book :: ob39 b28 r21 :: ob96 B0 S22 caq24 ccq25 caq26 ccq27 :: ro2 caq24 ccq25 S22.cell :: ro90 caq26 ccq27 S22.log :: ob78 B3 p3 ca9 cc10 ca11 cc12 :: rn139 ca9 cc10 p3.numberLists :: rn142 ca11 cc12 p3.accessLists :: ob30 b13 p2 :: L)) _ := h.sel 11 [4, 5, 6, 0, 1, 2, 3, 7, 8, 9, 10] (by kernel_rfl) (by kernel_rfl)
      have hc := plunderref2_Arena_Do_ok (H := e33) (h := h)
      refine op_call (wn rfl) rfl rfl hr (f := 30) (args := #[.pointer (some ⟨B1, 0, none⟩), .agg #[.int .i64 r29.Who, .int .i64 r29.Kind, .int .i64 r29.Addr, .int .i64 r29.A, .int .i64 r29.B]]) (by kernel_rfl) hc ?_; clear hc h
      rintro _ w ⟨caq34, ccq35, caq36, ccq37, rfl, h⟩; refine ⟨_, rfl, ?_⟩
      clear hr a; intro a hr
      refine op_new (wn rfl) rfl rfl hr h (vf := fun b => .pointer (some ⟨b, 0, none⟩)) (cs := #[.int .i64 0, .bool false, .int .i64 0]) (T := 39) (by kernel_rfl) ?_; clear h hr a; intro b38 w a h hr
      refine op_stores (wn rfl) rfl hr rfl (by kernel_rfl) (by kernel_rfl) (vs := [.int .i64 r31.V, .bool r31.OK, .int .i64 r31.Err]) rfl rfl (by kernel_rfl) h (i := 0) (cs' := #[.int .i64 r31.V, .bool r31.OK, .int .i64 r31.Err]) rfl ?_; clear h; intro w h
      refine wpList_nil ?_
      replace h : Fit z (sepL (ob39 b38 r31 :: ob62 B1 S32 caq34 ccq35 caq36 ccq37 :: ro2 caq34 ccq35 S32.Held :: ro90 caq36 ccq37 S32.Book :: ob39 b28 r21 :: ob96 B0 S22 caq24 ccq25 caq26 ccq27 :: ro2 caq24 ccq25 S22.cell :: ro90 caq26 ccq27 S22.log :: ob78 B3 p3 ca9 cc10 ca11 cc12 :: rn139 ca9 cc10 p3.numberLists :: rn142 ca11 cc12 p3.accessLists :: ob30 b13 p2 :: L)) _ := h
      refine then_normal ?_
      refine wp_seq ?_
      refine wp_region_lit ?_
      refine op_val (wn rfl) rfl rfl hr (v := .agg #[.int .i64 r21.V, .bool r21.OK, .int .i64 r21.Err]) (rlm (cs := [.int .i64 r21.V, .bool r21.OK, .int .i64 r21.Err]) rfl (by kernel_rfl) (by kernel_rfl) (by kernel_rfl) ⟨(h.pick 4).cell 0 rfl, (h.pick 4).cell 1 rfl, (h.pick 4).cell 2 rfl, trivial⟩) ?_; clear hr a; intro a hr
      refine op_val (wn rfl) rfl rfl hr (v := .agg #[.int .i64 r31.V, .bool r31.OK, .int .i64 r31.Err]) (rlm (cs := [.int .i64 r31.V, .bool r31.OK, .int .i64 r31.Err]) rfl (by kernel_rfl) (by kernel_rfl) (by kernel_rfl) ⟨h.cell 0 rfl, h.cell 1 rfl, h.cell 2 rfl, trivial⟩) ?_; clear hr a; intro a hr
      refine op_val (wn rfl) rfl rfl hr (v := .bool (decide (r21 = r31))) (rb (req rfl (by kernel_rfl) (by kernel_rfl) (by kernel_rfl) (by kernel_rfl) (by kernel_rfl) (by kernel_rfl)) (eq_T_api_Effect r21 r31)) ?_; clear hr a; intro a hr
      refine ov hr (.bool (decide (r21 = r31))) (by kernel_rfl) ?_; clear hr a; intro a hr
      refine wpList_nil ?_
      refine then_normal ?_
      refine wp_ret ?_
      refine then_ret ?_
      refine end_ret1 (v := .bool (decide (r21 = r31))) rfl hr (by kernel_rfl) ?_
      replace H := jx0 H hK14
      replace h : Fit z (sepL (ob96 B0 S22 caq24 ccq25 caq26 ccq27 :: ro2 caq24 ccq25 S22.cell :: ro90 caq26 ccq27 S22.log :: ob62 B1 S32 caq34 ccq35 caq36 ccq37 :: ro2 caq34 ccq35 S32.Held :: ro90 caq36 ccq37 S32.Book :: ob78 B3 p3 ca9 cc10 ca11 cc12 :: rn139 ca9 cc10 p3.numberLists :: rn142 ca11 cc12 p3.accessLists :: L)) _ := h.sel 12 [5, 6, 7, 1, 2, 3, 8, 9, 10] (by kernel_rfl) (by kernel_rfl)
      replace H := ej4 H; obtain ⟨rfl, rfl, rfl, rfl⟩ := H
      exact ⟨caq24, ccq25, caq26, ccq27, caq34, ccq35, caq36, ccq37, ca9, cc10, ca11, cc12, rfl, h⟩
    ·
      replace H := ifF c20 H
      refine cond_ff hr (b := g16) (bF c20) ?_
      refine wp_skip ?_
      refine then_normal ?_
      replace hr := hr.fold2 [(0, .pointer (some ⟨B0, 0, none⟩)), (1, .pointer (some ⟨B1, 0, none⟩)), (3, .pointer (some ⟨B3, 0, none⟩)), (6, .pointer (some ⟨b13, 0, none⟩))] (by kernel_rfl); obtain ⟨j, hr⟩ := hr
      exact ⟨(), sinj H, j, hr, h⟩
  clear h hr a; rintro _ a w ⟨rfl, j, hr, h⟩
  replace H := jk0 hK14
  refine wp_seq ?_
  refine wp_seq ?_
  refine wp_region_lit ?_
  refine ov hr (.pointer (some ⟨b13, 1, none⟩)) (by kernel_rfl) ?_; clear hr a; intro a hr
  refine op_val (wn rfl) rfl rfl hr (v := .int .i64 p2.Kind) (rl rfl (by kernel_rfl) (by kernel_rfl) ((h.pick 9).cell 1 rfl)) ?_; clear hr a; intro a hr
  refine wpList_nil ?_
  refine then_normal ?_
  refine wp_block ?_
  refine wp_seq ?_
  refine wp_region_lit ?_
  refine ovs [36, 35] [.bool (p2.Kind == (5 : Int)), .bool (p2.Kind == (5 : Int))] hr ⟨rfl, rfl⟩ (by kernel_rfl) ?_; clear hr a; intro a hr
  refine wpList_nil ?_
  refine then_normal ?_
  by_cases c39 : p2.Kind = (5 : Int)
  ·
    replace H := ifT c39 H
    refine cond_tt hr (b := (p2.Kind == (5 : Int))) (beq_iff_eq.mpr c39) ?_
    refine wp_seq ?_
    refine wp_region_lit ?_
    refine ovs [37, 38] [.pointer (some ⟨B0, 0, none⟩), .pointer (some ⟨b13, 3, none⟩)] hr ⟨rfl, rfl⟩ (by kernel_rfl) ?_; clear hr a; intro a hr
    refine op_val (wn rfl) rfl rfl hr (v := .int .i64 p2.A) (rl rfl (by kernel_rfl) (by kernel_rfl) ((h.pick 9).cell 3 rfl)) ?_; clear hr a; intro a hr
    replace H := bd1 H; obtain ⟨r40, e41, H⟩ := H
    have hc := plunderlaw2_mod_ok (H := e41) (h := h)
    refine op_call (wn rfl) rfl rfl hr (f := 23) (args := #[.int .i64 p2.A, .int .i64 2]) (by kernel_rfl) hc ?_; clear hc h
    rintro _ w ⟨rfl, h⟩; refine ⟨_, rfl, ?_⟩
    clear hr a; intro a hr
    replace H := bd1 H; obtain ⟨S42, e43, H⟩ := H
    refine ov hr (.bool (r40 == (1 : Int))) (by kernel_rfl) ?_; clear hr a; intro a hr
    have hc := cells_Arena_Watch_ok (H := e43) (h := h)
    refine op_call (wn rfl) rfl rfl hr (f := 88) (args := #[.pointer (some ⟨B0, 0, none⟩), .bool (r40 == (1 : Int))]) (by kernel_rfl) hc ?_; clear hc h
    rintro _ w ⟨caq44, ccq45, caq46, ccq47, rfl, h⟩; refine ⟨_, rfl, ?_⟩
    clear hr a; intro a hr
    refine wpList_nil ?_
    refine then_normal ?_
    refine wp_region_lit ?_
    refine ovs [43, 44] [.pointer (some ⟨B1, 0, none⟩), .pointer (some ⟨b13, 3, none⟩)] hr ⟨rfl, rfl⟩ (by kernel_rfl) ?_; clear hr a; intro a hr
    refine op_val (wn rfl) rfl rfl hr (v := .int .i64 p2.A) (rl rfl (by kernel_rfl) (by kernel_rfl) ((h.pick 9).cell 3 rfl)) ?_; clear hr a; intro a hr
    replace H := bd1 H; obtain ⟨r48, e49, H⟩ := H
    have hc := plunderlaw2_mod_ok (H := e49) (h := h)
    refine op_call (wn rfl) rfl rfl hr (f := 23) (args := #[.int .i64 p2.A, .int .i64 2]) (by kernel_rfl) hc ?_; clear hc h
    rintro _ w ⟨rfl, h⟩; refine ⟨_, rfl, ?_⟩
    clear hr a; intro a hr
    refine ovs [47, 48, 49] [.bool (r48 == (1 : Int)), .pointer (some ⟨B1, 0, none⟩), .pointer (some ⟨B1, 2, none⟩)] hr ⟨rfl, rfl⟩ (by kernel_rfl) ?_; clear hr a; intro a hr
    replace h : Fit z (sepL (ob62 B1 p1 ca5 cc6 ca7 cc8 :: ob96 B0 S42 caq44 ccq45 caq46 ccq47 :: ro2 caq44 ccq45 S42.cell :: ro90 caq46 ccq47 S42.log :: ro2 ca5 cc6 p1.Held :: ro90 ca7 cc8 p1.Book :: ob78 B3 p3 ca9 cc10 ca11 cc12 :: rn139 ca9 cc10 p3.numberLists :: rn142 ca11 cc12 p3.accessLists :: ob30 b13 p2 :: L)) _ := h.sel 10 [3, 0, 1, 2, 4, 5, 6, 7, 8, 9] (by kernel_rfl) (by kernel_rfl)
    refine op_store (wn rfl) rfl hr rfl (by kernel_rfl) (by kernel_rfl) (v := .bool (r48 == (1 : Int))) rfl rfl (by kernel_rfl) h (i := 2) rfl ?_; clear h; intro w h
    refine wpList_nil ?_
    replace h : Fit z (sepL (pts B1 (.cells #[.int .i64 p1.Most, .slice ca5 p1.Held.length cc6, .bool (r48 == (1 : Int)), .int .i64 p1.Actor, .slice ca7 p1.Book.length cc8] 62) :: ob96 B0 S42 caq44 ccq45 caq46 ccq47 :: ro2 caq44 ccq45 S42.cell :: ro90 caq46 ccq47 S42.log :: ro2 ca5 cc6 p1.Held :: ro90 ca7 cc8 p1.Book :: ob78 B3 p3 ca9 cc10 ca11 cc12 :: rn139 ca9 cc10 p3.numberLists :: rn142 ca11 cc12 p3.accessLists :: ob30 b13 p2 :: L)) _ := h
    refine blk_normal ?_
    refine then_normal ?_
    refine wp_seq ?_
    refine wp_region_lit ?_
    refine ov hr (.bool true) (by kernel_rfl) ?_; clear hr a; intro a hr
    refine wpList_nil ?_
    refine then_normal ?_
    refine wp_ret ?_
    refine end_ret1 (v := .bool true) rfl hr (by kernel_rfl) ?_
    replace h : Fit z (sepL (ob96 B0 S42 caq44 ccq45 caq46 ccq47 :: ro2 caq44 ccq45 S42.cell :: ro90 caq46 ccq47 S42.log :: pts B1 (.cells #[.int .i64 p1.Most, .slice ca5 p1.Held.length cc6, .bool (r48 == (1 : Int)), .int .i64 p1.Actor, .slice ca7 p1.Book.length cc8] 62) :: ro2 ca5 cc6 p1.Held :: ro90 ca7 cc8 p1.Book :: ob78 B3 p3 ca9 cc10 ca11 cc12 :: rn139 ca9 cc10 p3.numberLists :: rn142 ca11 cc12 p3.accessLists :: L)) _ := h.sel 10 [1, 2, 3, 0, 4, 5, 6, 7, 8] (by kernel_rfl) (by kernel_rfl)
    replace H := ej4 H; obtain ⟨rfl, rfl, rfl, rfl⟩ := H
    exact ⟨caq44, ccq45, caq46, ccq47, ca5, cc6, ca7, cc8, ca9, cc10, ca11, cc12, rfl, h⟩
  ·
    replace H := ifF c39 H
    refine cond_ff hr (b := (p2.Kind == (5 : Int))) (beq_eq_false_iff_ne.mpr c39) ?_
    refine wp_seq ?_
    refine wp_region_lit ?_
    refine ovs [51, 50] [.bool (p2.Kind == (6 : Int)), .bool (p2.Kind == (6 : Int))] hr ⟨rfl, rfl⟩ (by kernel_rfl) ?_; clear hr a; intro a hr
    refine wpList_nil ?_
    refine then_normal ?_
    by_cases c50 : p2.Kind = (6 : Int)
    ·
      replace H := ifT c50 H
      refine cond_tt hr (b := (p2.Kind == (6 : Int))) (beq_iff_eq.mpr c50) ?_
      refine wp_seq ?_
      refine wp_region_lit ?_
      refine ovs [52, 53] [.pointer (some ⟨B0, 0, none⟩), .pointer (some ⟨b13, 2, none⟩)] hr ⟨rfl, rfl⟩ (by kernel_rfl) ?_; clear hr a; intro a hr
      refine op_val (wn rfl) rfl rfl hr (v := .int .i64 p2.Addr) (rl rfl (by kernel_rfl) (by kernel_rfl) ((h.pick 9).cell 2 rfl)) ?_; clear hr a; intro a hr
      replace H := bd1 H; obtain ⟨S51, e52, H⟩ := H
      have hc := cells_Arena_Who_ok (H := e52) (h := h)
      refine op_call (wn rfl) rfl rfl hr (f := 96) (args := #[.pointer (some ⟨B0, 0, none⟩), .int .i64 p2.Addr]) (by kernel_rfl) hc ?_; clear hc h
      rintro _ w ⟨caq53, ccq54, caq55, ccq56, rfl, h⟩; refine ⟨_, rfl, ?_⟩
      clear hr a; intro a hr
      refine wpList_nil ?_
      refine then_normal ?_
      refine wp_region_lit ?_
      refine ovs [56, 57] [.pointer (some ⟨B1, 0, none⟩), .pointer (some ⟨b13, 2, none⟩)] hr ⟨rfl, rfl⟩ (by kernel_rfl) ?_; clear hr a; intro a hr
      refine op_val (wn rfl) rfl rfl hr (v := .int .i64 p2.Addr) (rl rfl (by kernel_rfl) (by kernel_rfl) ((h.pick 9).cell 2 rfl)) ?_; clear hr a; intro a hr
      refine ovs [59, 60] [.pointer (some ⟨B1, 0, none⟩), .pointer (some ⟨B1, 3, none⟩)] hr ⟨rfl, rfl⟩ (by kernel_rfl) ?_; clear hr a; intro a hr
      replace h : Fit z (sepL (ob62 B1 p1 ca5 cc6 ca7 cc8 :: ob96 B0 S51 caq53 ccq54 caq55 ccq56 :: ro2 caq53 ccq54 S51.cell :: ro90 caq55 ccq56 S51.log :: ro2 ca5 cc6 p1.Held :: ro90 ca7 cc8 p1.Book :: ob78 B3 p3 ca9 cc10 ca11 cc12 :: rn139 ca9 cc10 p3.numberLists :: rn142 ca11 cc12 p3.accessLists :: ob30 b13 p2 :: L)) _ := h.sel 10 [3, 0, 1, 2, 4, 5, 6, 7, 8, 9] (by kernel_rfl) (by kernel_rfl)
      refine op_store (wn rfl) rfl hr rfl (by kernel_rfl) (by kernel_rfl) (v := .int .i64 p2.Addr) rfl rfl (by kernel_rfl) h (i := 3) rfl ?_; clear h; intro w h
      refine wpList_nil ?_
      replace h : Fit z (sepL (pts B1 (.cells #[.int .i64 p1.Most, .slice ca5 p1.Held.length cc6, .bool p1.On, .int .i64 p2.Addr, .slice ca7 p1.Book.length cc8] 62) :: ob96 B0 S51 caq53 ccq54 caq55 ccq56 :: ro2 caq53 ccq54 S51.cell :: ro90 caq55 ccq56 S51.log :: ro2 ca5 cc6 p1.Held :: ro90 ca7 cc8 p1.Book :: ob78 B3 p3 ca9 cc10 ca11 cc12 :: rn139 ca9 cc10 p3.numberLists :: rn142 ca11 cc12 p3.accessLists :: ob30 b13 p2 :: L)) _ := h
      refine blk_normal ?_
      refine then_normal ?_
      refine wp_seq ?_
      refine wp_region_lit ?_
      refine ov hr (.bool true) (by kernel_rfl) ?_; clear hr a; intro a hr
      refine wpList_nil ?_
      refine then_normal ?_
      refine wp_ret ?_
      refine end_ret1 (v := .bool true) rfl hr (by kernel_rfl) ?_
      replace h : Fit z (sepL (ob96 B0 S51 caq53 ccq54 caq55 ccq56 :: ro2 caq53 ccq54 S51.cell :: ro90 caq55 ccq56 S51.log :: pts B1 (.cells #[.int .i64 p1.Most, .slice ca5 p1.Held.length cc6, .bool p1.On, .int .i64 p2.Addr, .slice ca7 p1.Book.length cc8] 62) :: ro2 ca5 cc6 p1.Held :: ro90 ca7 cc8 p1.Book :: ob78 B3 p3 ca9 cc10 ca11 cc12 :: rn139 ca9 cc10 p3.numberLists :: rn142 ca11 cc12 p3.accessLists :: L)) _ := h.sel 10 [1, 2, 3, 0, 4, 5, 6, 7, 8] (by kernel_rfl) (by kernel_rfl)
      replace H := ej4 H; obtain ⟨rfl, rfl, rfl, rfl⟩ := H
      exact ⟨caq53, ccq54, caq55, ccq56, ca5, cc6, ca7, cc8, ca9, cc10, ca11, cc12, rfl, h⟩
    ·
      replace H := ifF c50 H
      refine cond_ff hr (b := (p2.Kind == (6 : Int))) (beq_eq_false_iff_ne.mpr c50) ?_
      refine wp_seq ?_
      refine wp_region_lit ?_
      refine ovs [62, 61] [.bool (p2.Kind == (7 : Int)), .bool (p2.Kind == (7 : Int))] hr ⟨rfl, rfl⟩ (by kernel_rfl) ?_; clear hr a; intro a hr
      refine wpList_nil ?_
      refine then_normal ?_
      by_cases c57 : p2.Kind = (7 : Int)
      ·
        replace H := ifT c57 H
        refine cond_tt hr (b := (p2.Kind == (7 : Int))) (beq_iff_eq.mpr c57) ?_
        refine wp_seq ?_
        replace H := bd1 H; obtain ⟨r58, e59, H⟩ := H
        refine reg_E (fun w => heldC w B1 0 [.int .i64 p1.Most] ∧ True) [1, 3, 4] h (by kernel_rfl) ?_; intro w h
        change wpAnyE _ _ _ _ _ _ 8 (Array.replicate 8 false) a w
        have hgo : ∀ w w', CellsGo w w' → (heldC w B1 0 [.int .i64 p1.Most] ∧ True) → heldC w' B1 0 [.int .i64 p1.Most] ∧ True := fun w w' g hD => ⟨heldC_go _ _ _ _ _ g hD.1, trivial⟩
        refine ev 7 0 rfl (by kernel_rfl) (wn rfl) hr (.pointer (some ⟨B0, 0, none⟩)) (fun w => by kernel_rfl) ?_; clear hr a; intro a hr
        refine ev 6 2 rfl (by kernel_rfl) (wn rfl) hr (.pointer (some ⟨B1, 0, none⟩)) (fun w => by kernel_rfl) ?_; clear hr a; intro a hr
        refine evD hgo ⟨⟨(h.pick 3).cell 0 rfl, trivial⟩, trivial⟩ 5 3 rfl (by kernel_rfl) (wn rfl) hr (.pointer (some ⟨B1, 0, none⟩)) (fun w => by kernel_rfl) ?_; clear hr a; intro a hr
        refine evD hgo ⟨⟨(h.pick 3).cell 0 rfl, trivial⟩, trivial⟩ 4 4 rfl (by kernel_rfl) (wn rfl) hr (.pointer (some ⟨B1, 0, none⟩)) (fun w => by kernel_rfl) ?_; clear hr a; intro a hr
        refine el [1, 3, 4] (b := B1) (off := 0) (cs := [.int .i64 p1.Most]) (fun _ hk => ⟨hk, fun w hD => hD.1⟩) 3 5 rfl (by kernel_rfl) (wn rfl) hr (.int .i64 p1.Most) ⟨(h.pick 3).cell 0 rfl, trivial⟩ (fun w hc => rl rfl (by kernel_rfl) (by kernel_rfl) hc.1) ?_; clear hr a; intro a hr
        refine e_one (fuel := 2) (i := 1) (by kernel_rfl) rfl ?_
        have hc := cells_Arena_Size_ok (H := e59) (h := h)
        refine op_call (wn rfl) rfl rfl hr (f := 97) (args := #[.pointer (some ⟨B0, 0, none⟩)]) (by kernel_rfl) hc ?_; clear hc h
        rintro _ w ⟨rfl, h⟩; refine ⟨_, rfl, ?_⟩
        clear hr a; intro a hr
        refine wpList_nil ?_; refine then_normal ?_
        refine ⟨fun _ => ⟨⟨(h.pick 3).cell 0 rfl, trivial⟩, trivial⟩, ?_⟩
        refine ev 1 6 rfl (by kernel_rfl) (wn rfl) hr (.bool (r58 == p1.Most)) (fun w => by kernel_rfl) ?_; clear hr a; intro a hr
        refine ev 0 7 rfl (by kernel_rfl) (wn rfl) hr (.bool (r58 == p1.Most)) (fun w => by kernel_rfl) ?_; clear hr a; intro a hr
        refine e_end (by kernel_rfl) ?_
        refine then_normal ?_
        refine wp_ret ?_
        refine blk_ret ?_
        refine then_ret ?_
        refine end_ret1 (v := .bool (r58 == p1.Most)) rfl hr (by kernel_rfl) ?_
        replace h : Fit z (sepL (ob96 B0 p0 ca1 cc2 ca3 cc4 :: ro2 ca1 cc2 p0.cell :: ro90 ca3 cc4 p0.log :: ob62 B1 p1 ca5 cc6 ca7 cc8 :: ro2 ca5 cc6 p1.Held :: ro90 ca7 cc8 p1.Book :: ob78 B3 p3 ca9 cc10 ca11 cc12 :: rn139 ca9 cc10 p3.numberLists :: rn142 ca11 cc12 p3.accessLists :: L)) _ := h.sel 10 [0, 1, 2, 3, 4, 5, 6, 7, 8] (by kernel_rfl) (by kernel_rfl)
        replace H := ej4 H; obtain ⟨rfl, rfl, rfl, rfl⟩ := H
        exact ⟨ca1, cc2, ca3, cc4, ca5, cc6, ca7, cc8, ca9, cc10, ca11, cc12, rfl, h⟩
      ·
        replace H := ifF c57 H
        refine cond_ff hr (b := (p2.Kind == (7 : Int))) (beq_eq_false_iff_ne.mpr c57) ?_
        refine wp_seq ?_
        refine wp_region_lit ?_
        refine ovs [71, 70] [.bool (p2.Kind == (8 : Int)), .bool (p2.Kind == (8 : Int))] hr ⟨rfl, rfl⟩ (by kernel_rfl) ?_; clear hr a; intro a hr
        refine wpList_nil ?_
        refine then_normal ?_
        by_cases c60 : p2.Kind = (8 : Int)
        ·
          replace H := ifT c60 H
          refine cond_tt hr (b := (p2.Kind == (8 : Int))) (beq_iff_eq.mpr c60) ?_
          refine wp_seq ?_
          replace H := bd1 H; obtain ⟨r61, e62, H⟩ := H
          refine reg_E (fun w => heldC w B1 1 [.slice ca5 p1.Held.length cc6] ∧ True) [1, 3, 4] h (by kernel_rfl) ?_; intro w h
          change wpAnyE _ _ _ _ _ _ 9 (Array.replicate 9 false) a w
          have hgo : ∀ w w', CellsGo w w' → (heldC w B1 1 [.slice ca5 p1.Held.length cc6] ∧ True) → heldC w' B1 1 [.slice ca5 p1.Held.length cc6] ∧ True := fun w w' g hD => ⟨heldC_go _ _ _ _ _ g hD.1, trivial⟩
          refine ev 8 0 rfl (by kernel_rfl) (wn rfl) hr (.pointer (some ⟨B0, 0, none⟩)) (fun w => by kernel_rfl) ?_; clear hr a; intro a hr
          refine ev 7 2 rfl (by kernel_rfl) (wn rfl) hr (.pointer (some ⟨B1, 0, none⟩)) (fun w => by kernel_rfl) ?_; clear hr a; intro a hr
          refine evD hgo ⟨⟨(h.pick 3).cell 1 rfl, trivial⟩, trivial⟩ 6 3 rfl (by kernel_rfl) (wn rfl) hr (.pointer (some ⟨B1, 0, none⟩)) (fun w => by kernel_rfl) ?_; clear hr a; intro a hr
          refine evD hgo ⟨⟨(h.pick 3).cell 1 rfl, trivial⟩, trivial⟩ 5 4 rfl (by kernel_rfl) (wn rfl) hr (.pointer (some ⟨B1, 1, none⟩)) (fun w => by kernel_rfl) ?_; clear hr a; intro a hr
          refine el [1, 3, 4] (b := B1) (off := 1) (cs := [.slice ca5 p1.Held.length cc6]) (fun _ hk => ⟨hk, fun w hD => hD.1⟩) 4 5 rfl (by kernel_rfl) (wn rfl) hr (.slice ca5 p1.Held.length cc6) ⟨(h.pick 3).cell 1 rfl, trivial⟩ (fun w hc => rl rfl (by kernel_rfl) (by kernel_rfl) hc.1) ?_; clear hr a; intro a hr
          refine ev 3 6 rfl (by kernel_rfl) (wn rfl) hr (.int .i64 ((p1.Held.length : Nat) : Int)) (fun w => by kernel_rfl) ?_; clear hr a; intro a hr
          refine e_one (fuel := 2) (i := 1) (by kernel_rfl) rfl ?_
          have hc := cells_Arena_Mark_ok (H := e62) (h := h)
          refine op_call (wn rfl) rfl rfl hr (f := 98) (args := #[.pointer (some ⟨B0, 0, none⟩)]) (by kernel_rfl) hc ?_; clear hc h
          rintro _ w ⟨rfl, h⟩; refine ⟨_, rfl, ?_⟩
          clear hr a; intro a hr
          refine wpList_nil ?_; refine then_normal ?_
          refine ⟨fun _ => ⟨⟨(h.pick 3).cell 1 rfl, trivial⟩, trivial⟩, ?_⟩
          refine ev 1 7 rfl (by kernel_rfl) (wn rfl) hr (.bool (r61 == ((p1.Held.length : Nat) : Int))) (fun w => by kernel_rfl) ?_; clear hr a; intro a hr
          refine ev 0 8 rfl (by kernel_rfl) (wn rfl) hr (.bool (r61 == ((p1.Held.length : Nat) : Int))) (fun w => by kernel_rfl) ?_; clear hr a; intro a hr
          refine e_end (by kernel_rfl) ?_
          refine then_normal ?_
          refine wp_ret ?_
          refine blk_ret ?_
          refine then_ret ?_
          refine end_ret1 (v := .bool (r61 == ((p1.Held.length : Nat) : Int))) rfl hr (by kernel_rfl) ?_
          replace h : Fit z (sepL (ob96 B0 p0 ca1 cc2 ca3 cc4 :: ro2 ca1 cc2 p0.cell :: ro90 ca3 cc4 p0.log :: ob62 B1 p1 ca5 cc6 ca7 cc8 :: ro2 ca5 cc6 p1.Held :: ro90 ca7 cc8 p1.Book :: ob78 B3 p3 ca9 cc10 ca11 cc12 :: rn139 ca9 cc10 p3.numberLists :: rn142 ca11 cc12 p3.accessLists :: L)) _ := h.sel 10 [0, 1, 2, 3, 4, 5, 6, 7, 8] (by kernel_rfl) (by kernel_rfl)
          replace H := ej4 H; obtain ⟨rfl, rfl, rfl, rfl⟩ := H
          exact ⟨ca1, cc2, ca3, cc4, ca5, cc6, ca7, cc8, ca9, cc10, ca11, cc12, rfl, h⟩
        ·
          replace H := ifF c60 H
          refine cond_ff hr (b := (p2.Kind == (8 : Int))) (beq_eq_false_iff_ne.mpr c60) ?_
          refine wp_seq ?_
          refine wp_region_lit ?_
          refine ovs [81, 80] [.bool (p2.Kind == (9 : Int)), .bool (p2.Kind == (9 : Int))] hr ⟨rfl, rfl⟩ (by kernel_rfl) ?_; clear hr a; intro a hr
          refine wpList_nil ?_
          refine then_normal ?_
          by_cases c63 : p2.Kind = (9 : Int)
          ·
            replace H := ifT c63 H
            refine cond_tt hr (b := (p2.Kind == (9 : Int))) (beq_iff_eq.mpr c63) ?_
            refine wp_seq ?_
            refine wp_region_lit ?_
            replace H := bd1 H; obtain ⟨r64, e65, H⟩ := H
            refine ov hr (.pointer (some ⟨B0, 0, none⟩)) (by kernel_rfl) ?_; clear hr a; intro a hr
            have hc := cells_Arena_Cells_ok (H := e65) (h := h)
            refine op_call (wn rfl) rfl rfl hr (f := 24) (args := #[.pointer (some ⟨B0, 0, none⟩)]) (by kernel_rfl) hc ?_; clear hc h
            rintro _ w ⟨car66, rfl, h⟩; refine ⟨_, rfl, ?_⟩
            clear hr a; intro a hr
            refine ov hr (.slice car66 r64.length r64.length) (by kernel_rfl) ?_; clear hr a; intro a hr
            refine wpList_nil ?_
            refine then_normal ?_
            refine wp_seq ?_
            refine wp_region_lit ?_
            refine ovs [84, 85, 86, 87] [.slice car66 r64.length r64.length, .pointer (some ⟨B1, 0, none⟩), .pointer (some ⟨B1, 0, none⟩), .pointer (some ⟨B1, 1, none⟩)] hr ⟨rfl, rfl⟩ (by kernel_rfl) ?_; clear hr a; intro a hr
            refine op_val (wn rfl) rfl rfl hr (v := .slice ca5 p1.Held.length cc6) (rl rfl (by kernel_rfl) (by kernel_rfl) ((h.pick 4).cell 1 rfl)) ?_; clear hr a; intro a hr
            replace H := bd1 H; obtain ⟨r67, e68, H⟩ := H
            have hc := plunderlaw2_sameNumbers_ok (va0 := car66) (vc0 := r64.length) (va1 := ca5) (vc1 := cc6) (hv0 := (RdRow.of_row encZ_i64_ok (h.pick 3) (fun h => (h.pick 3)))) (hv1 := (RdRow.of_row encZ_i64_ok (h.pick 5) (fun h => (h.pick 5)))) (H := e68) (h := h)
            refine op_call (wn rfl) rfl rfl hr (f := 40) (args := #[.slice car66 r64.length r64.length, .slice ca5 p1.Held.length cc6]) (by kernel_rfl) hc ?_; clear hc h
            rintro _ w ⟨rfl, h⟩; refine ⟨_, rfl, ?_⟩
            clear hr a; intro a hr
            refine ov hr (.bool r67) (by kernel_rfl) ?_; clear hr a; intro a hr
            refine wpList_nil ?_
            refine then_normal ?_
            refine wp_seq ?_
            refine wp_region_lit ?_
            replace H := bd1 H; obtain ⟨S69, e70, H⟩ := H
            refine ovs [90, 91] [.pointer (some ⟨B3, 0, none⟩), .slice car66 r64.length r64.length] hr ⟨rfl, rfl⟩ (by kernel_rfl) ?_; clear hr a; intro a hr
            replace h : Fit z (sepL (ob78 B3 p3 ca9 cc10 ca11 cc12 :: rn139 ca9 cc10 p3.numberLists :: rn142 ca11 cc12 p3.accessLists :: ro2 car66 r64.length r64 :: ob96 B0 p0 ca1 cc2 ca3 cc4 :: ro2 ca1 cc2 p0.cell :: ro90 ca3 cc4 p0.log :: ob62 B1 p1 ca5 cc6 ca7 cc8 :: ro2 ca5 cc6 p1.Held :: ro90 ca7 cc8 p1.Book :: ob30 b13 p2 :: L)) _ := h.sel 11 [7, 8, 9, 3, 0, 1, 2, 4, 5, 6, 10] (by kernel_rfl) (by kernel_rfl)
            have hc := plunderlaw2_book_numbers_ok (H := e70) (h := h)
            refine op_call (wn rfl) rfl rfl hr (f := 42) (args := #[.pointer (some ⟨B3, 0, none⟩), .slice car66 r64.length r64.length]) (by kernel_rfl) hc ?_; clear hc h
            rintro _ w ⟨caq71, ccq72, caq73, ccq74, rfl, h⟩; refine ⟨_, rfl, ?_⟩
            clear hr a; intro a hr
            refine wpList_nil ?_
            refine then_normal ?_
            refine wp_seq ?_
            refine wp_region_lit ?_
            refine ovs [93, 8] [.bool r67, .bool r67] hr ⟨rfl, rfl⟩ (by kernel_rfl) ?_; clear hr a; intro a hr
            refine wpList_nil ?_
            refine then_normal ?_
            refine wp_ret ?_
            refine blk_ret ?_
            refine then_ret ?_
            refine end_ret1 (v := .bool r67) rfl hr (by kernel_rfl) ?_
            replace h : Fit z (sepL (ob96 B0 p0 ca1 cc2 ca3 cc4 :: ro2 ca1 cc2 p0.cell :: ro90 ca3 cc4 p0.log :: ob62 B1 p1 ca5 cc6 ca7 cc8 :: ro2 ca5 cc6 p1.Held :: ro90 ca7 cc8 p1.Book :: ob78 B3 S69 caq71 ccq72 caq73 ccq74 :: rn139 caq71 ccq72 S69.numberLists :: rn142 caq73 ccq74 S69.accessLists :: L)) _ := h.sel 10 [3, 4, 5, 6, 7, 8, 0, 1, 2] (by kernel_rfl) (by kernel_rfl)
            replace H := ej4 H; obtain ⟨rfl, rfl, rfl, rfl⟩ := H
            exact ⟨ca1, cc2, ca3, cc4, ca5, cc6, ca7, cc8, caq71, ccq72, caq73, ccq74, rfl, h⟩
          ·
            replace H := ifF c63 H
            refine cond_ff hr (b := (p2.Kind == (9 : Int))) (beq_eq_false_iff_ne.mpr c63) ?_
            refine wp_seq ?_
            refine wp_region_lit ?_
            refine ovs [95, 94] [.bool (p2.Kind == (10 : Int)), .bool (p2.Kind == (10 : Int))] hr ⟨rfl, rfl⟩ (by kernel_rfl) ?_; clear hr a; intro a hr
            refine wpList_nil ?_
            refine then_normal ?_
            by_cases c75 : p2.Kind = (10 : Int)
            ·
              replace H := ifT c75 H
              refine cond_tt hr (b := (p2.Kind == (10 : Int))) (beq_iff_eq.mpr c75) ?_
              refine wp_seq ?_
              refine wp_region_lit ?_
              replace H := bd1 H; obtain ⟨r76, e77, H⟩ := H
              refine ov hr (.pointer (some ⟨B0, 0, none⟩)) (by kernel_rfl) ?_; clear hr a; intro a hr
              have hc := cells_Arena_Log_ok (H := e77) (h := h)
              refine op_call (wn rfl) rfl rfl hr (f := 70) (args := #[.pointer (some ⟨B0, 0, none⟩)]) (by kernel_rfl) hc ?_; clear hc h
              rintro _ w ⟨car78, rfl, h⟩; refine ⟨_, rfl, ?_⟩
              clear hr a; intro a hr
              refine ov hr (.slice car78 r76.length r76.length) (by kernel_rfl) ?_; clear hr a; intro a hr
              refine wpList_nil ?_
              refine then_normal ?_
              refine wp_seq ?_
              refine wp_region_lit ?_
              refine ovs [98, 99, 100, 101] [.slice car78 r76.length r76.length, .pointer (some ⟨B1, 0, none⟩), .pointer (some ⟨B1, 0, none⟩), .pointer (some ⟨B1, 4, none⟩)] hr ⟨rfl, rfl⟩ (by kernel_rfl) ?_; clear hr a; intro a hr
              refine op_val (wn rfl) rfl rfl hr (v := .slice ca7 p1.Book.length cc8) (rl rfl (by kernel_rfl) (by kernel_rfl) ((h.pick 4).cell 4 rfl)) ?_; clear hr a; intro a hr
              replace H := bd1 H; obtain ⟨r79, e80, H⟩ := H
              have hc := plunderlaw2_sameLog_ok (va0 := car78) (vc0 := r76.length) (va1 := ca7) (vc1 := cc8) (hv0 := (RdRow.of_row enc_T_api_Access_ok (h.pick 3) (fun h => (h.pick 3)))) (hv1 := (RdRow.of_row enc_T_api_Access_ok (h.pick 6) (fun h => (h.pick 6)))) (H := e80) (h := h)
              refine op_call (wn rfl) rfl rfl hr (f := 41) (args := #[.slice car78 r76.length r76.length, .slice ca7 p1.Book.length cc8]) (by kernel_rfl) hc ?_; clear hc h
              rintro _ w ⟨rfl, h⟩; refine ⟨_, rfl, ?_⟩
              clear hr a; intro a hr
              refine ov hr (.bool r79) (by kernel_rfl) ?_; clear hr a; intro a hr
              refine wpList_nil ?_
              refine then_normal ?_
              refine wp_seq ?_
              refine wp_region_lit ?_
              replace H := bd1 H; obtain ⟨S81, e82, H⟩ := H
              refine ovs [104, 105] [.pointer (some ⟨B3, 0, none⟩), .slice car78 r76.length r76.length] hr ⟨rfl, rfl⟩ (by kernel_rfl) ?_; clear hr a; intro a hr
              replace h : Fit z (sepL (ob78 B3 p3 ca9 cc10 ca11 cc12 :: rn139 ca9 cc10 p3.numberLists :: rn142 ca11 cc12 p3.accessLists :: ro90 car78 r76.length r76 :: ob96 B0 p0 ca1 cc2 ca3 cc4 :: ro2 ca1 cc2 p0.cell :: ro90 ca3 cc4 p0.log :: ob62 B1 p1 ca5 cc6 ca7 cc8 :: ro2 ca5 cc6 p1.Held :: ro90 ca7 cc8 p1.Book :: ob30 b13 p2 :: L)) _ := h.sel 11 [7, 8, 9, 3, 0, 1, 2, 4, 5, 6, 10] (by kernel_rfl) (by kernel_rfl)
              have hc := plunderlaw2_book_accesses_ok (H := e82) (h := h)
              refine op_call (wn rfl) rfl rfl hr (f := 43) (args := #[.pointer (some ⟨B3, 0, none⟩), .slice car78 r76.length r76.length]) (by kernel_rfl) hc ?_; clear hc h
              rintro _ w ⟨caq83, ccq84, caq85, ccq86, rfl, h⟩; refine ⟨_, rfl, ?_⟩
              clear hr a; intro a hr
              refine wpList_nil ?_
              refine then_normal ?_
              refine wp_seq ?_
              refine wp_region_lit ?_
              refine ovs [107, 8] [.bool r79, .bool r79] hr ⟨rfl, rfl⟩ (by kernel_rfl) ?_; clear hr a; intro a hr
              refine wpList_nil ?_
              refine then_normal ?_
              refine wp_ret ?_
              refine blk_ret ?_
              refine then_ret ?_
              refine end_ret1 (v := .bool r79) rfl hr (by kernel_rfl) ?_
              replace h : Fit z (sepL (ob96 B0 p0 ca1 cc2 ca3 cc4 :: ro2 ca1 cc2 p0.cell :: ro90 ca3 cc4 p0.log :: ob62 B1 p1 ca5 cc6 ca7 cc8 :: ro2 ca5 cc6 p1.Held :: ro90 ca7 cc8 p1.Book :: ob78 B3 S81 caq83 ccq84 caq85 ccq86 :: rn139 caq83 ccq84 S81.numberLists :: rn142 caq85 ccq86 S81.accessLists :: L)) _ := h.sel 10 [3, 4, 5, 6, 7, 8, 0, 1, 2] (by kernel_rfl) (by kernel_rfl)
              replace H := ej4 H; obtain ⟨rfl, rfl, rfl, rfl⟩ := H
              exact ⟨ca1, cc2, ca3, cc4, ca5, cc6, ca7, cc8, caq83, ccq84, caq85, ccq86, rfl, h⟩
            ·
              replace H := ifF c75 H
              refine cond_ff hr (b := (p2.Kind == (10 : Int))) (beq_eq_false_iff_ne.mpr c75) ?_
              refine wp_skip ?_
              refine blk_normal ?_
              refine then_normal ?_
              refine wp_seq ?_
              refine wp_region_lit ?_
              refine ov hr (.bool true) (by kernel_rfl) ?_; clear hr a; intro a hr
              refine wpList_nil ?_
              refine then_normal ?_
              refine wp_ret ?_
              refine end_ret1 (v := .bool true) rfl hr (by kernel_rfl) ?_
              replace h : Fit z (sepL (ob96 B0 p0 ca1 cc2 ca3 cc4 :: ro2 ca1 cc2 p0.cell :: ro90 ca3 cc4 p0.log :: ob62 B1 p1 ca5 cc6 ca7 cc8 :: ro2 ca5 cc6 p1.Held :: ro90 ca7 cc8 p1.Book :: ob78 B3 p3 ca9 cc10 ca11 cc12 :: rn139 ca9 cc10 p3.numberLists :: rn142 ca11 cc12 p3.accessLists :: L)) _ := h.sel 10 [0, 1, 2, 3, 4, 5, 6, 7, 8] (by kernel_rfl) (by kernel_rfl)
              replace H := ej4 H; obtain ⟨rfl, rfl, rfl, rfl⟩ := H
              exact ⟨ca1, cc2, ca3, cc4, ca5, cc6, ca7, cc8, ca9, cc10, ca11, cc12, rfl, h⟩

def plunderlaw2_full_l1 (K : Nat) (p0 : List Int) (p1 : Int) (p2 : Int) : Nat → Int → Option (Bool)
  | 0, _ => none
  | k1 + 1, g2 => (if g2 < p1 then if inr_ g2 p0.length then (if (at_ p0 g2.toNat) = p2 then (plunderlaw2_full_l1 K p0 p1 p2 k1 (wi (g2 + (1 : Int)))) else some false) else none else some true)
/-- plunder/plunderlaw2.full -/
def plunderlaw2_full (K : Nat) (p0 : List Int) (p1 : Int) (p2 : Int) : Option (Bool) :=
  (if ((p0.length : Nat) : Int) < p1 then some false else (plunderlaw2_full_l1 K p0 p1 p2 K 0))
set_option maxRecDepth 100000 in
set_option maxHeartbeats 4000000 in
theorem plunderlaw2_full_ok {z w : World} {L : List HProp} {K : Nat} {p0 : List Int} {p1 : Int} {p2 : Int} {va0 : Option Addr} {vc0 : Nat} {r0 : Bool} (H : plunderlaw2_full K p0 p1 p2 = some r0) (h : Fit z (sepL (L)) w) (hv0 : RdRow L 1 encZ_i64 va0 p0) :
    Calls Try.prog 110 #[.slice va0 p0.length vc0, .int .i64 p1, .int .i64 p2] w fun e w => e = .returned (.bool r0) ∧ Fit z (sepL (L)) w := by
  unfold plunderlaw2_full at H
  refine enter Try.func110 rfl 23 rfl rfl [(0, .slice va0 p0.length vc0), (1, .int .i64 p1), (2, .int .i64 p2)] ⟨rfl, rfl, rfl, trivial⟩ ?_
  intro j a hr
  refine wp_seq ?_
  refine wp_region_lit ?_
  refine ov hr (.bool false) (by kernel_rfl) ?_; clear hr a; intro a hr
  refine wpList_nil ?_
  refine then_normal ?_
  refine wp_seq ?_
  refine wp_seq ?_
  refine wp_region_lit ?_
  refine ovs [8, 9, 10, 11] [.slice va0 p0.length vc0, .int .i64 ((p0.length : Nat) : Int), .int .i64 p1, .bool (decide (((p0.length : Nat) : Int) < p1))] hr ⟨rfl, rfl⟩ (by kernel_rfl) ?_; clear hr a; intro a hr
  refine wpList_nil ?_
  refine then_normal ?_
  by_cases c1 : ((p0.length : Nat) : Int) < p1
  ·
    replace H := ifT c1 H
    refine cond_tt hr (b := (decide (((p0.length : Nat) : Int) < p1))) (decide_eq_true c1) ?_
    refine wp_seq ?_
    refine wp_region_lit ?_
    refine ov hr (.bool false) (by kernel_rfl) ?_; clear hr a; intro a hr
    refine wpList_nil ?_
    refine then_normal ?_
    refine wp_ret ?_
    refine then_ret ?_
    refine end_ret1 (v := .bool false) rfl hr (by kernel_rfl) ?_
    replace H := ej1 H; subst H
    exact ⟨rfl, h⟩
  ·
    replace H := ifF c1 H
    refine cond_ff hr (b := (decide (((p0.length : Nat) : Int) < p1))) (decide_eq_false c1) ?_
    refine wp_skip ?_
    refine then_normal ?_
    refine wp_seq ?_
    refine wp_seq ?_
    refine wp_region_lit ?_
    refine ov hr (.int .i64 0) (by kernel_rfl) ?_; clear hr a; intro a hr
    refine wpList_nil ?_
    refine then_normal ?_
    refine wp_block ?_
    replace hr := hr.fold2 [(0, .slice va0 p0.length vc0), (1, .int .i64 p1), (2, .int .i64 p2), (7, .int .i64 0)] (by kernel_rfl); obtain ⟨j, hr⟩ := hr
    refine loop_rule (β := Nat) id (fun m a w => ∃ g2 : Int, (plunderlaw2_full_l1 K p0 p1 p2 m g2) = some r0 ∧ ∃ j, Rep 23 (lk [(0, .slice va0 p0.length vc0), (1, .int .i64 p1), (2, .int .i64 p2), (7, .int .i64 g2)] j) a ∧ Fit z (sepL (L)) w) K ⟨0, H, j, hr, h⟩ ?_
    clear h hr a H; rintro k1 a w ⟨g2, H, j, hr, h⟩
    cases k1 with
    | zero => exact absurd H (by simp [plunderlaw2_full_l1])
    | succ k1 =>
      rw [plunderlaw2_full_l1] at H
      refine wp_seq ?_
      refine wp_seq ?_
      refine wp_region_lit ?_
      refine ovs [12, 13, 14] [.int .i64 g2, .int .i64 p1, .bool (decide (g2 < p1))] hr ⟨rfl, rfl⟩ (by kernel_rfl) ?_; clear hr a; intro a hr
      refine wpList_nil ?_
      refine then_normal ?_
      by_cases c3 : g2 < p1
      ·
        replace H := ifT c3 H
        refine cond_tt hr (b := (decide (g2 < p1))) (decide_eq_true c3) ?_
        refine wp_skip ?_
        refine then_normal ?_
        refine wp_seq ?_
        refine wp_block ?_
        refine wp_seq ?_
        refine wp_region_lit ?_
        replace H := gd H; obtain ⟨c4, H⟩ := H
        refine ovs [17, 18] [.slice va0 p0.length vc0, .int .i64 g2] hr ⟨rfl, rfl⟩ (by kernel_rfl) ?_; clear hr a; intro a hr
        refine op_val (wn rfl) rfl rfl hr (v := .pointer (some ⟨blk va0, offs va0 + g2.toNat * 1, none⟩)) (ri_rd (k := .i64) (E := 2) (cc := vc0) rfl (by kernel_rfl) (by kernel_rfl) rfl (by kernel_rfl) (by kernel_rfl) hv0 c4) ?_; clear hr a; intro a hr
        refine op_val (wn rfl) rfl rfl hr (v := .int .i64 (at_ p0 g2.toNat)) (rl rfl (by kernel_rfl) (by kernel_rfl) (hv0.cell c4 (h.dn 0) 0 rfl)) ?_; clear hr a; intro a hr
        refine ovs [21, 22] [.int .i64 p2, .bool ((at_ p0 g2.toNat) != p2)] hr ⟨rfl, rfl⟩ (by kernel_rfl) ?_; clear hr a; intro a hr
        refine wpList_nil ?_
        refine then_normal ?_
        by_cases c5 : (at_ p0 g2.toNat) = p2
        ·
          replace H := ifT c5 H
          refine cond_ff hr (b := ((at_ p0 g2.toNat) != p2)) (bne_eq_false_iff_eq.mpr c5) ?_
          refine wp_skip ?_
          refine blk_normal ?_
          refine then_normal ?_
          refine wp_region_lit ?_
          refine ovs [15, 16, 7] [.int .i64 g2, .int .i64 (wi (g2 + (1 : Int))), .int .i64 (wi (g2 + (1 : Int)))] hr ⟨rfl, rfl⟩ (by kernel_rfl) ?_; clear hr a; intro a hr
          refine wpList_nil ?_
          refine then_normal ?_
          replace hr := hr.fold2 [(0, .slice va0 p0.length vc0), (1, .int .i64 p1), (2, .int .i64 p2), (7, .int .i64 (wi (g2 + (1 : Int))))] (by kernel_rfl); obtain ⟨j, hr⟩ := hr
          exact ⟨_, ⟨(wi (g2 + (1 : Int))), H, j, hr, h⟩, Nat.lt_succ_self _⟩
        ·
          replace H := ifF c5 H
          refine cond_tt hr (b := ((at_ p0 g2.toNat) != p2)) (bne_iff_ne.mpr c5) ?_
          refine wp_seq ?_
          refine wp_region_lit ?_
          refine ov hr (.bool false) (by kernel_rfl) ?_; clear hr a; intro a hr
          refine wpList_nil ?_
          refine then_normal ?_
          refine wp_ret ?_
          refine blk_ret ?_
          refine then_ret ?_
          refine then_ret ?_
          refine blk_ret ?_
          refine then_ret ?_
          refine end_ret1 (v := .bool false) rfl hr (by kernel_rfl) ?_
          replace H := ej1 H; subst H
          exact ⟨rfl, h⟩
      ·
        replace H := ifF c3 H
        refine cond_ff hr (b := (decide (g2 < p1))) (decide_eq_false c3) ?_
        refine wp_exit ?_
        refine then_exit ?_
        refine then_exit ?_
        refine blk_here ?_
        refine then_normal ?_
        refine wp_seq ?_
        refine wp_region_lit ?_
        refine ov hr (.bool true) (by kernel_rfl) ?_; clear hr a; intro a hr
        refine wpList_nil ?_
        refine then_normal ?_
        refine wp_ret ?_
        refine end_ret1 (v := .bool true) rfl hr (by kernel_rfl) ?_
        replace H := ej1 H; subst H
        exact ⟨rfl, h⟩


end Go.Proofs.Ytacgigkonoegiaa.Mo

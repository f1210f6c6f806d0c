/- what the functions compute, as plain Lean functions, and that they do -/
import Derived.Test.YtacgigkonoegiaaMv5
namespace Go.Proofs.Ytacgigkonoegiaa.Mo
open Go Go.RowKit Go.Proofs.Ytacgigkonoegiaa.SL Go.Proofs.Ytacgigkonoegiaa.GX
set_option linter.unusedVariables false
set_option linter.unusedSimpArgs false

def plunderlaw2_walk_l1 (K : Nat) (p2 : List T_plunderlaw2_Move) (p3 : Bool) (p4 : Bool) : Nat → T_plunderref2_Arena → T_plunderref2_Arena → T_cells_Arena → T_cells_Arena → T_plunderlaw2_book → Int → Option ((T_plunderref2_Arena × T_plunderref2_Arena × T_cells_Arena × T_cells_Arena) ⊕ (Bool))
  | 0, _, _, _, _, _, _ => none
  | k1 + 1, S64, S69, S74, S79, S84, g89 => (if g89 < ((p2.length : Nat) : Int) then if inr_ g89 p2.length then ob6 (ob1 ((if p3 = true then some true else ob1 (plunderlaw2_mod ((at_ p2 g89.toNat).Side) 2) (fun r125 => some (r125 == (0 : Int))))) (fun g121 => (if g121 = true then ob4 (plunderlaw2_plays K S74 S64 (at_ p2 g89.toNat) S84) (fun r128 S129 S130 S131 => some (S130, S69, S129, S79, S131, r128)) else ob4 (plunderlaw2_plays K S79 S69 (at_ p2 g89.toNat) S84) (fun r145 S146 S147 S148 => some (S64, S147, S74, S146, S148, r145))))) (fun S93 S98 S103 S108 S113 g118 => (if g118 = true then (if p4 = true then ob1 (plunderlaw2_book_stands K S113) (fun r164 => (if r164 = true then (plunderlaw2_walk_l1 K p2 p3 p4 k1 S93 S98 S103 S108 S113 (wi (g89 + (1 : Int)))) else some (.inr false))) else (plunderlaw2_walk_l1 K p2 p3 p4 k1 S93 S98 S103 S108 S113 (wi (g89 + (1 : Int))))) else some (.inr false))) else none else some (.inl (S64, S69, S74, S79)))
def plunderlaw2_walk_l2 (K : Nat) (p2 : List T_plunderlaw2_Move) (p3 : Bool) (p4 : Bool) : Nat → T_plunderref2_Arena → T_plunderref2_Arena → T_cells_Arena → T_plunderlaw2_book → Int → Option ((T_plunderref2_Arena × T_plunderref2_Arena × T_cells_Arena) ⊕ (Bool))
  | 0, _, _, _, _, _ => none
  | k2 + 1, S216, S221, S226, S231, g236 => (if g236 < ((p2.length : Nat) : Int) then if inr_ g236 p2.length then ob5 (ob1 ((if p3 = true then some true else ob1 (plunderlaw2_mod ((at_ p2 g236.toNat).Side) 2) (fun r267 => some (r267 == (0 : Int))))) (fun g263 => (if g263 = true then ob4 (plunderlaw2_plays K S226 S216 (at_ p2 g236.toNat) S231) (fun r270 S271 S272 S273 => some (S272, S221, S271, S273, r270)) else ob3 (plunderlaw2_plays_nil K S221 (at_ p2 g236.toNat) S231) (fun r287 S288 S289 => some (S216, S288, S226, S289, r287))))) (fun S240 S245 S250 S255 g260 => (if g260 = true then (if p4 = true then ob1 (plunderlaw2_book_stands K S255) (fun r301 => (if r301 = true then (plunderlaw2_walk_l2 K p2 p3 p4 k2 S240 S245 S250 S255 (wi (g236 + (1 : Int)))) else some (.inr false))) else (plunderlaw2_walk_l2 K p2 p3 p4 k2 S240 S245 S250 S255 (wi (g236 + (1 : Int))))) else some (.inr false))) else none else some (.inl (S216, S221, S226)))
def plunderlaw2_walk_l3 (K : Nat) (p2 : List T_plunderlaw2_Move) (p3 : Bool) (p4 : Bool) : Nat → T_plunderref2_Arena → T_plunderref2_Arena → T_cells_Arena → T_plunderlaw2_book → Int → Option ((T_plunderref2_Arena × T_plunderref2_Arena × T_cells_Arena) ⊕ (Bool))
  | 0, _, _, _, _, _ => none
  | k3 + 1, S337, S342, S347, S352, g357 => (if g357 < ((p2.length : Nat) : Int) then if inr_ g357 p2.length then ob5 (ob1 ((if p3 = true then some true else ob1 (plunderlaw2_mod ((at_ p2 g357.toNat).Side) 2) (fun r388 => some (r388 == (0 : Int))))) (fun g384 => (if g384 = true then ob3 (plunderlaw2_plays_nil K S337 (at_ p2 g357.toNat) S352) (fun r391 S392 S393 => some (S392, S342, S347, S393, r391)) else ob4 (plunderlaw2_plays K S347 S342 (at_ p2 g357.toNat) S352) (fun r403 S404 S405 S406 => some (S337, S405, S404, S406, r403))))) (fun S361 S366 S371 S376 g381 => (if g381 = true then (if p4 = true then ob1 (plunderlaw2_book_stands K S376) (fun r422 => (if r422 = true then (plunderlaw2_walk_l3 K p2 p3 p4 k3 S361 S366 S371 S376 (wi (g357 + (1 : Int)))) else some (.inr false))) else (plunderlaw2_walk_l3 K p2 p3 p4 k3 S361 S366 S371 S376 (wi (g357 + (1 : Int))))) else some (.inr false))) else none else some (.inl (S337, S342, S347)))
def plunderlaw2_walk_l4 (K : Nat) (p2 : List T_plunderlaw2_Move) (p3 : Bool) (p4 : Bool) : Nat → T_plunderref2_Arena → T_plunderref2_Arena → T_plunderlaw2_book → Int → Option ((T_plunderref2_Arena × T_plunderref2_Arena) ⊕ (Bool))
  | 0, _, _, _, _ => none
  | k4 + 1, S444, S449, S454, g459 => (if g459 < ((p2.length : Nat) : Int) then if inr_ g459 p2.length then ob4 (ob1 ((if p3 = true then some true else ob1 (plunderlaw2_mod ((at_ p2 g459.toNat).Side) 2) (fun r485 => some (r485 == (0 : Int))))) (fun g481 => (if g481 = true then ob3 (plunderlaw2_plays_nil K S444 (at_ p2 g459.toNat) S454) (fun r488 S489 S490 => some (S489, S449, S490, r488)) else ob3 (plunderlaw2_plays_nil K S449 (at_ p2 g459.toNat) S454) (fun r500 S501 S502 => some (S444, S501, S502, r500))))) (fun S463 S468 S473 g478 => (if g478 = true then (if p4 = true then ob1 (plunderlaw2_book_stands K S473) (fun r514 => (if r514 = true then (plunderlaw2_walk_l4 K p2 p3 p4 k4 S463 S468 S473 (wi (g459 + (1 : Int)))) else some (.inr false))) else (plunderlaw2_walk_l4 K p2 p3 p4 k4 S463 S468 S473 (wi (g459 + (1 : Int))))) else some (.inr false))) else none else some (.inl (S444, S449)))
/-- plunder/plunderlaw2.walk -/
def plunderlaw2_walk (K : Nat) (p0 : Int) (p1 : Int) (p2 : List T_plunderlaw2_Move) (p3 : Bool) (p4 : Bool) : Option (Bool) :=
  ob2 (plunderref2_New p0) (fun r1 r2 => ob2 (plunderref2_New p1) (fun r9 r10 => ob2 (cells_New p0) (fun r17 r18 => (match r17 with | some S20 => ob2 (cells_New p1) (fun r26 r27 => (match r26 with | some S29 => jn0 ((if r18 = r2 then (if r27 = r10 then (if false = (r2 != (0 : Int)) then (if false = (r10 != (0 : Int)) then some (.inl ()) else some (.inr false)) else some (.inr false)) else some (.inr false)) else some (.inr false))) (jn4 ((plunderlaw2_walk_l1 K p2 p3 p4 K r1 r9 S20 S29 (⟨([] : List T_plunderlaw2_kept), ([] : List T_plunderlaw2_noted), 0⟩ : T_plunderlaw2_book) 0)) (fun S42 S47 S52 S57 => jn0 (some (.inl ())) (ob1 (cells_Arena_Cells S52) (fun r169 => ob1 (plunderlaw2_sameNumbers K r169 S42.Held) (fun r172 => (if r172 = true then ob1 (cells_Arena_Cells S57) (fun r175 => ob1 (plunderlaw2_sameNumbers K r175 S47.Held) (fun r178 => (if r178 = true then ob1 (cells_Arena_Log S52) (fun r181 => ob1 (plunderlaw2_sameLog K r181 S42.Book) (fun r184 => (if r184 = true then ob1 (cells_Arena_Log S57) (fun r187 => ob1 (plunderlaw2_sameLog K r187 S47.Book) (fun r190 => some r190)) else some false))) else some false))) else some false)))))) | none => jn0 ((if r18 = r2 then (if r27 = r10 then (if false = (r2 != (0 : Int)) then (if true = (r10 != (0 : Int)) then some (.inl ()) else some (.inr false)) else some (.inr false)) else some (.inr false)) else some (.inr false))) (jn3 ((plunderlaw2_walk_l2 K p2 p3 p4 K r1 r9 S20 (⟨([] : List T_plunderlaw2_kept), ([] : List T_plunderlaw2_noted), 0⟩ : T_plunderlaw2_book) 0)) (fun S199 S204 S209 => some true)))) | none => ob2 (cells_New p1) (fun r304 r305 => (match r304 with | some S307 => jn0 ((if r18 = r2 then (if r305 = r10 then (if true = (r2 != (0 : Int)) then (if false = (r10 != (0 : Int)) then some (.inl ()) else some (.inr false)) else some (.inr false)) else some (.inr false)) else some (.inr false))) (jn3 ((plunderlaw2_walk_l3 K p2 p3 p4 K r1 r9 S307 (⟨([] : List T_plunderlaw2_kept), ([] : List T_plunderlaw2_noted), 0⟩ : T_plunderlaw2_book) 0)) (fun S320 S325 S330 => some true)) | none => jn0 ((if r18 = r2 then (if r305 = r10 then (if true = (r2 != (0 : Int)) then (if true = (r10 != (0 : Int)) then some (.inl ()) else some (.inr false)) else some (.inr false)) else some (.inr false)) else some (.inr false))) (jn2 ((plunderlaw2_walk_l4 K p2 p3 p4 K r1 r9 (⟨([] : List T_plunderlaw2_kept), ([] : List T_plunderlaw2_noted), 0⟩ : T_plunderlaw2_book) 0)) (fun S432 S437 => some true))))))))
set_option maxRecDepth 100000 in
set_option maxHeartbeats 4000000 in
theorem plunderlaw2_walk_ok {z w : World} {L : List HProp} {K : Nat} {p0 : Int} {p1 : Int} {p2 : List T_plunderlaw2_Move} {p3 : Bool} {p4 : Bool} {va2 : Option Addr} {vc2 : Nat} {r0 : Bool} (H : plunderlaw2_walk K p0 p1 p2 p3 p4 = some r0) (h : Fit z (sepL (L)) w) (hv2 : RdRow L 5 enc_T_plunderlaw2_Move va2 p2) :
    Calls Try.prog 25 #[.int .i64 p0, .int .i64 p1, .slice va2 p2.length vc2, .bool p3, .bool p4] w fun e w => e = .returned (.bool r0) ∧ Fit z (sepL (L)) w := by
  unfold plunderlaw2_walk at H
  refine enter Try.func25 rfl 141 rfl rfl [(0, .int .i64 p0), (1, .int .i64 p1), (2, .slice va2 p2.length vc2), (3, .bool p3), (4, .bool p4)] ⟨rfl, rfl, rfl, rfl, rfl, trivial⟩ ?_
  intro j a hr
  refine wp_seq ?_
  refine wp_region_lit ?_
  refine ov hr (.bool false) (by kernel_rfl) ?_; clear hr a; intro a hr
  refine wpList_nil ?_
  refine then_normal ?_
  refine wp_seq ?_
  refine wp_region_lit ?_
  replace H := bd2 H; obtain ⟨r1, r2, e3, H⟩ := H
  refine ov hr (.int .i64 p0) (by kernel_rfl) ?_; clear hr a; intro a hr
  have hc := plunderref2_New_ok (H := e3) (h := h)
  refine op_call (wn rfl) rfl rfl hr (f := 27) (args := #[.int .i64 p0]) (by kernel_rfl) hc ?_; clear hc h
  rintro _ w ⟨Bn4, car5, ccr6, car7, ccr8, rfl, h⟩; refine ⟨_, rfl, ?_⟩
  clear hr a; intro a hr
  refine ovs [23, 26, 27, 11, 12] [.tuple #[.pointer (some ⟨Bn4, 0, none⟩), .int .i64 r2], .pointer (some ⟨Bn4, 0, none⟩), .int .i64 r2, .pointer (some ⟨Bn4, 0, none⟩), .int .i64 r2] hr ⟨rfl, rfl⟩ (by kernel_rfl) ?_; clear hr a; intro a hr
  refine wpList_nil ?_
  refine then_normal ?_
  refine wp_seq ?_
  refine wp_region_lit ?_
  replace H := bd2 H; obtain ⟨r9, r10, e11, H⟩ := H
  refine ov hr (.int .i64 p1) (by kernel_rfl) ?_; clear hr a; intro a hr
  have hc := plunderref2_New_ok (H := e11) (h := h)
  refine op_call (wn rfl) rfl rfl hr (f := 27) (args := #[.int .i64 p1]) (by kernel_rfl) hc ?_; clear hc h
  rintro _ w ⟨Bn12, car13, ccr14, car15, ccr16, rfl, h⟩; refine ⟨_, rfl, ?_⟩
  clear hr a; intro a hr
  refine ovs [28, 31, 32, 13, 14] [.tuple #[.pointer (some ⟨Bn12, 0, none⟩), .int .i64 r10], .pointer (some ⟨Bn12, 0, none⟩), .int .i64 r10, .pointer (some ⟨Bn12, 0, none⟩), .int .i64 r10] hr ⟨rfl, rfl⟩ (by kernel_rfl) ?_; clear hr a; intro a hr
  refine wpList_nil ?_
  refine then_normal ?_
  refine wp_seq ?_
  refine wp_region_lit ?_
  replace H := bd2 H; obtain ⟨r17, r18, e19, H⟩ := H
  refine ov hr (.int .i64 p0) (by kernel_rfl) ?_; clear hr a; intro a hr
  cases r17 with
  | some S20 =>
    have hc := cells_New_ok0 (H := e19) (h := h)
    refine op_call (wn rfl) rfl rfl hr (f := 19) (args := #[.int .i64 p0]) (by kernel_rfl) hc ?_; clear hc h
    rintro _ w ⟨Bn21, car22, ccr23, car24, ccr25, rfl, h⟩; refine ⟨_, rfl, ?_⟩
    clear hr a; intro a hr
    refine ovs [33, 36, 37, 15, 16] [.tuple #[.pointer (some ⟨Bn21, 0, none⟩), .int .i64 r18], .pointer (some ⟨Bn21, 0, none⟩), .int .i64 r18, .pointer (some ⟨Bn21, 0, none⟩), .int .i64 r18] hr ⟨rfl, rfl⟩ (by kernel_rfl) ?_; clear hr a; intro a hr
    refine wpList_nil ?_
    refine then_normal ?_
    refine wp_seq ?_
    refine wp_region_lit ?_
    replace H := bd2 H; obtain ⟨r26, r27, e28, H⟩ := H
    refine ov hr (.int .i64 p1) (by kernel_rfl) ?_; clear hr a; intro a hr
    cases r26 with
    | some S29 =>
      have hc := cells_New_ok0 (H := e28) (h := h)
      refine op_call (wn rfl) rfl rfl hr (f := 19) (args := #[.int .i64 p1]) (by kernel_rfl) hc ?_; clear hc h
      rintro _ w ⟨Bn30, car31, ccr32, car33, ccr34, rfl, h⟩; refine ⟨_, rfl, ?_⟩
      clear hr a; intro a hr
      refine ovs [38, 41, 42, 17, 18] [.tuple #[.pointer (some ⟨Bn30, 0, none⟩), .int .i64 r27], .pointer (some ⟨Bn30, 0, none⟩), .int .i64 r27, .pointer (some ⟨Bn30, 0, none⟩), .int .i64 r27] hr ⟨rfl, rfl⟩ (by kernel_rfl) ?_; clear hr a; intro a hr
      refine wpList_nil ?_
      refine then_normal ?_
      replace H := jd0 H; obtain ⟨o36, H, hK35⟩ := H
      refine cut_rule (β := Unit) (fun _ a w => .inl () = o36 ∧ ∃ j, Rep 141 (lk [(2, .slice va2 p2.length vc2), (3, .bool p3), (4, .bool p4), (11, .pointer (some ⟨Bn4, 0, none⟩)), (13, .pointer (some ⟨Bn12, 0, none⟩)), (15, .pointer (some ⟨Bn21, 0, none⟩)), (17, .pointer (some ⟨Bn30, 0, none⟩))] j) a ∧ Fit z (sepL (ob62 Bn4 r1 car5 ccr6 car7 ccr8 :: ro2 car5 ccr6 r1.Held :: ro90 car7 ccr8 r1.Book :: ob62 Bn12 r9 car13 ccr14 car15 ccr16 :: ro2 car13 ccr14 r9.Held :: ro90 car15 ccr16 r9.Book :: ob96 Bn21 S20 car22 ccr23 car24 ccr25 :: ro2 car22 ccr23 S20.cell :: ro90 car24 ccr25 S20.log :: ob96 Bn30 S29 car31 ccr32 car33 ccr34 :: ro2 car31 ccr32 S29.cell :: ro90 car33 ccr34 S29.log :: L)) w) ?_ ?_
      ·
        refine wp_seq ?_
        refine wp_region_lit ?_
        refine ovs [43, 44, 45, 46] [.int .i64 r18, .int .i64 r2, .bool (r18 != r2), .bool (r18 != r2)] hr ⟨rfl, rfl⟩ (by kernel_rfl) ?_; clear hr a; intro a hr
        by_cases c37 : r18 = r2
        ·
          replace H := ifT c37 H
          refine op_val ((wg hr rfl rfl rfl (b' := (r18 != r2)) (by kernel_rfl)).trans (by rw [show (r18 != r2) = false from (bne_eq_false_iff_eq.mpr c37)]; rfl)) rfl rfl hr (v := .int .i64 r27) (by kernel_rfl) ?_; clear hr a; intro a hr
          refine op_val ((wg hr rfl rfl rfl (b' := (r18 != r2)) (by kernel_rfl)).trans (by rw [show (r18 != r2) = false from (bne_eq_false_iff_eq.mpr c37)]; rfl)) rfl rfl hr (v := .int .i64 r10) (by kernel_rfl) ?_; clear hr a; intro a hr
          refine op_val ((wg hr rfl rfl rfl (b' := (r18 != r2)) (by kernel_rfl)).trans (by rw [show (r18 != r2) = false from (bne_eq_false_iff_eq.mpr c37)]; rfl)) rfl rfl hr (v := .bool (r27 != r10)) (by kernel_rfl) ?_; clear hr a; intro a hr
          refine op_val (wn rfl) rfl rfl hr (v := .bool (r27 != r10)) (rp_f (b := (r18 != r2)) rfl (by kernel_rfl) (bne_eq_false_iff_eq.mpr c37) (by kernel_rfl)) ?_; clear hr a; intro a hr
          refine ov hr (.bool (r27 != r10)) (by kernel_rfl) ?_; clear hr a; intro a hr
          by_cases c38 : r27 = r10
          ·
            replace H := ifT c38 H
            refine op_val ((wg hr rfl rfl rfl (b' := (r27 != r10)) (by kernel_rfl)).trans (by rw [show (r27 != r10) = false from (bne_eq_false_iff_eq.mpr c38)]; rfl)) rfl rfl hr (v := .pointer (some ⟨Bn21, 0, none⟩)) (by kernel_rfl) ?_; clear hr a; intro a hr
            refine op_val ((wg hr rfl rfl rfl (b' := (r27 != r10)) (by kernel_rfl)).trans (by rw [show (r27 != r10) = false from (bne_eq_false_iff_eq.mpr c38)]; rfl)) rfl rfl hr (v := .bool false) (by kernel_rfl) ?_; clear hr a; intro a hr
            refine op_val ((wg hr rfl rfl rfl (b' := (r27 != r10)) (by kernel_rfl)).trans (by rw [show (r27 != r10) = false from (bne_eq_false_iff_eq.mpr c38)]; rfl)) rfl rfl hr (v := .int .i64 r2) (by kernel_rfl) ?_; clear hr a; intro a hr
            refine op_val ((wg hr rfl rfl rfl (b' := (r27 != r10)) (by kernel_rfl)).trans (by rw [show (r27 != r10) = false from (bne_eq_false_iff_eq.mpr c38)]; rfl)) rfl rfl hr (v := .bool (r2 != (0 : Int))) (by kernel_rfl) ?_; clear hr a; intro a hr
            refine op_val ((wg hr rfl rfl rfl (b' := (r27 != r10)) (by kernel_rfl)).trans (by rw [show (r27 != r10) = false from (bne_eq_false_iff_eq.mpr c38)]; rfl)) rfl rfl hr (v := .bool (!(false == (r2 != (0 : Int))))) (by kernel_rfl) ?_; clear hr a; intro a hr
            refine op_val (wn rfl) rfl rfl hr (v := .bool (!(false == (r2 != (0 : Int))))) (rp_f (b := (r27 != r10)) rfl (by kernel_rfl) (bne_eq_false_iff_eq.mpr c38) (by kernel_rfl)) ?_; clear hr a; intro a hr
            refine ov hr (.bool (!(false == (r2 != (0 : Int))))) (by kernel_rfl) ?_; clear hr a; intro a hr
            by_cases c39 : false = (r2 != (0 : Int))
            ·
              replace H := ifT c39 H
              refine op_val ((wg hr rfl rfl rfl (b' := (!(false == (r2 != (0 : Int))))) (by kernel_rfl)).trans (by rw [show (!(false == (r2 != (0 : Int)))) = false from (by rw [show (false == (r2 != (0 : Int))) = true from (beq_iff_eq.mpr c39)]; rfl)]; rfl)) rfl rfl hr (v := .pointer (some ⟨Bn30, 0, none⟩)) (by kernel_rfl) ?_; clear hr a; intro a hr
              refine op_val ((wg hr rfl rfl rfl (b' := (!(false == (r2 != (0 : Int))))) (by kernel_rfl)).trans (by rw [show (!(false == (r2 != (0 : Int)))) = false from (by rw [show (false == (r2 != (0 : Int))) = true from (beq_iff_eq.mpr c39)]; rfl)]; rfl)) rfl rfl hr (v := .bool false) (by kernel_rfl) ?_; clear hr a; intro a hr
              refine op_val ((wg hr rfl rfl rfl (b' := (!(false == (r2 != (0 : Int))))) (by kernel_rfl)).trans (by rw [show (!(false == (r2 != (0 : Int)))) = false from (by rw [show (false == (r2 != (0 : Int))) = true from (beq_iff_eq.mpr c39)]; rfl)]; rfl)) rfl rfl hr (v := .int .i64 r10) (by kernel_rfl) ?_; clear hr a; intro a hr
              refine op_val ((wg hr rfl rfl rfl (b' := (!(false == (r2 != (0 : Int))))) (by kernel_rfl)).trans (by rw [show (!(false == (r2 != (0 : Int)))) = false from (by rw [show (false == (r2 != (0 : Int))) = true from (beq_iff_eq.mpr c39)]; rfl)]; rfl)) rfl rfl hr (v := .bool (r10 != (0 : Int))) (by kernel_rfl) ?_; clear hr a; intro a hr
              refine op_val ((wg hr rfl rfl rfl (b' := (!(false == (r2 != (0 : Int))))) (by kernel_rfl)).trans (by rw [show (!(false == (r2 != (0 : Int)))) = false from (by rw [show (false == (r2 != (0 : Int))) = true from (beq_iff_eq.mpr c39)]; rfl)]; rfl)) rfl rfl hr (v := .bool (!(false == (r10 != (0 : Int))))) (by kernel_rfl) ?_; clear hr a; intro a hr
              refine op_val (wn rfl) rfl rfl hr (v := .bool (!(false == (r10 != (0 : Int))))) (rp_f (b := (!(false == (r2 != (0 : Int))))) rfl (by kernel_rfl) (by rw [show (false == (r2 != (0 : Int))) = true from (beq_iff_eq.mpr c39)]; rfl) (by kernel_rfl)) ?_; clear hr a; intro a hr
              refine wpList_nil ?_
              refine then_normal ?_
              by_cases c40 : false = (r10 != (0 : Int))
              ·
                replace H := ifT c40 H
                refine cond_ff hr (b := (!(false == (r10 != (0 : Int))))) (by rw [show (false == (r10 != (0 : Int))) = true from (beq_iff_eq.mpr c40)]; rfl) ?_
                refine wp_skip ?_
                refine then_normal ?_
                replace hr := hr.fold2 [(2, .slice va2 p2.length vc2), (3, .bool p3), (4, .bool p4), (11, .pointer (some ⟨Bn4, 0, none⟩)), (13, .pointer (some ⟨Bn12, 0, none⟩)), (15, .pointer (some ⟨Bn21, 0, none⟩)), (17, .pointer (some ⟨Bn30, 0, none⟩))] (by kernel_rfl); obtain ⟨j, hr⟩ := hr
                replace h : Fit z (sepL (ob62 Bn4 r1 car5 ccr6 car7 ccr8 :: ro2 car5 ccr6 r1.Held :: ro90 car7 ccr8 r1.Book :: ob62 Bn12 r9 car13 ccr14 car15 ccr16 :: ro2 car13 ccr14 r9.Held :: ro90 car15 ccr16 r9.Book :: ob96 Bn21 S20 car22 ccr23 car24 ccr25 :: ro2 car22 ccr23 S20.cell :: ro90 car24 ccr25 S20.log :: ob96 Bn30 S29 car31 ccr32 car33 ccr34 :: ro2 car31 ccr32 S29.cell :: ro90 car33 ccr34 S29.log :: L)) _ := h.sel 12 [9, 10, 11, 6, 7, 8, 3, 4, 5, 0, 1, 2] (by kernel_rfl) (by kernel_rfl)
                exact ⟨(), sinj H, j, hr, h⟩
              ·
                replace H := ifF c40 H
                refine cond_tt hr (b := (!(false == (r10 != (0 : Int))))) (by rw [show (false == (r10 != (0 : Int))) = false from (beq_eq_false_iff_ne.mpr c40)]; rfl) ?_
                refine wp_seq ?_
                refine wp_region_lit ?_
                refine ov hr (.bool false) (by kernel_rfl) ?_; clear hr a; intro a hr
                refine wpList_nil ?_
                refine then_normal ?_
                refine wp_ret ?_
                refine then_ret ?_
                refine end_ret1 (v := .bool false) rfl hr (by kernel_rfl) ?_
                replace H := jx0 H hK35
                replace h : Fit z (sepL (L)) _ := h.sel 12 [] (by kernel_rfl) (by kernel_rfl)
                replace H := ej1 H; subst H
                exact ⟨rfl, h⟩
            ·
              replace H := ifF c39 H
              refine op_off ((wg hr rfl rfl rfl (b' := (!(false == (r2 != (0 : Int))))) (by kernel_rfl)).trans (by rw [show (!(false == (r2 != (0 : Int)))) = true from (by rw [show (false == (r2 != (0 : Int))) = false from (beq_eq_false_iff_ne.mpr c39)]; rfl)]; rfl)) rfl rfl hr ?_; clear hr a; intro a hr
              refine op_off ((wg hr rfl rfl rfl (b' := (!(false == (r2 != (0 : Int))))) (by kernel_rfl)).trans (by rw [show (!(false == (r2 != (0 : Int)))) = true from (by rw [show (false == (r2 != (0 : Int))) = false from (beq_eq_false_iff_ne.mpr c39)]; rfl)]; rfl)) rfl rfl hr ?_; clear hr a; intro a hr
              refine op_off ((wg hr rfl rfl rfl (b' := (!(false == (r2 != (0 : Int))))) (by kernel_rfl)).trans (by rw [show (!(false == (r2 != (0 : Int)))) = true from (by rw [show (false == (r2 != (0 : Int))) = false from (beq_eq_false_iff_ne.mpr c39)]; rfl)]; rfl)) rfl rfl hr ?_; clear hr a; intro a hr
              refine op_off ((wg hr rfl rfl rfl (b' := (!(false == (r2 != (0 : Int))))) (by kernel_rfl)).trans (by rw [show (!(false == (r2 != (0 : Int)))) = true from (by rw [show (false == (r2 != (0 : Int))) = false from (beq_eq_false_iff_ne.mpr c39)]; rfl)]; rfl)) rfl rfl hr ?_; clear hr a; intro a hr
              refine op_off ((wg hr rfl rfl rfl (b' := (!(false == (r2 != (0 : Int))))) (by kernel_rfl)).trans (by rw [show (!(false == (r2 != (0 : Int)))) = true from (by rw [show (false == (r2 != (0 : Int))) = false from (beq_eq_false_iff_ne.mpr c39)]; rfl)]; rfl)) rfl rfl hr ?_; clear hr a; intro a hr
              refine op_val (wn rfl) rfl rfl hr (v := .bool true) (rp_t (b := (!(false == (r2 != (0 : Int))))) rfl (by kernel_rfl) (by rw [show (false == (r2 != (0 : Int))) = false from (beq_eq_false_iff_ne.mpr c39)]; rfl) (by kernel_rfl)) ?_; clear hr a; intro a hr
              refine wpList_nil ?_
              refine then_normal ?_
              refine cond_tt hr (b := true) rfl ?_
              refine wp_seq ?_
              refine wp_region_lit ?_
              refine ov hr (.bool false) (by kernel_rfl) ?_; clear hr a; intro a hr
              refine wpList_nil ?_
              refine then_normal ?_
              refine wp_ret ?_
              refine then_ret ?_
              refine end_ret1 (v := .bool false) rfl hr (by kernel_rfl) ?_
              replace H := jx0 H hK35
              replace h : Fit z (sepL (L)) _ := h.sel 12 [] (by kernel_rfl) (by kernel_rfl)
              replace H := ej1 H; subst H
              exact ⟨rfl, h⟩
          ·
            replace H := ifF c38 H
            refine op_off ((wg hr rfl rfl rfl (b' := (r27 != r10)) (by kernel_rfl)).trans (by rw [show (r27 != r10) = true from (bne_iff_ne.mpr c38)]; rfl)) rfl rfl hr ?_; clear hr a; intro a hr
            refine op_off ((wg hr rfl rfl rfl (b' := (r27 != r10)) (by kernel_rfl)).trans (by rw [show (r27 != r10) = true from (bne_iff_ne.mpr c38)]; rfl)) rfl rfl hr ?_; clear hr a; intro a hr
            refine op_off ((wg hr rfl rfl rfl (b' := (r27 != r10)) (by kernel_rfl)).trans (by rw [show (r27 != r10) = true from (bne_iff_ne.mpr c38)]; rfl)) rfl rfl hr ?_; clear hr a; intro a hr
            refine op_off ((wg hr rfl rfl rfl (b' := (r27 != r10)) (by kernel_rfl)).trans (by rw [show (r27 != r10) = true from (bne_iff_ne.mpr c38)]; rfl)) rfl rfl hr ?_; clear hr a; intro a hr
            refine op_off ((wg hr rfl rfl rfl (b' := (r27 != r10)) (by kernel_rfl)).trans (by rw [show (r27 != r10) = true from (bne_iff_ne.mpr c38)]; rfl)) rfl rfl hr ?_; clear hr a; intro a hr
            refine op_val (wn rfl) rfl rfl hr (v := .bool true) (rp_t (b := (r27 != r10)) rfl (by kernel_rfl) (bne_iff_ne.mpr c38) (by kernel_rfl)) ?_; clear hr a; intro a hr
            refine ov hr (.bool true) (by kernel_rfl) ?_; clear hr a; intro a hr
            refine op_off ((wg hr rfl rfl rfl (b' := true) (by kernel_rfl)).trans rfl) rfl rfl hr ?_; clear hr a; intro a hr
            refine op_off ((wg hr rfl rfl rfl (b' := true) (by kernel_rfl)).trans rfl) rfl rfl hr ?_; clear hr a; intro a hr
            refine op_off ((wg hr rfl rfl rfl (b' := true) (by kernel_rfl)).trans rfl) rfl rfl hr ?_; clear hr a; intro a hr
            refine op_off ((wg hr rfl rfl rfl (b' := true) (by kernel_rfl)).trans rfl) rfl rfl hr ?_; clear hr a; intro a hr
            refine op_off ((wg hr rfl rfl rfl (b' := true) (by kernel_rfl)).trans rfl) rfl rfl hr ?_; clear hr a; intro a hr
            refine ov hr (.bool true) (by kernel_rfl) ?_; clear hr a; intro a hr
            refine wpList_nil ?_
            refine then_normal ?_
            refine cond_tt hr (b := true) rfl ?_
            refine wp_seq ?_
            refine wp_region_lit ?_
            refine ov hr (.bool false) (by kernel_rfl) ?_; clear hr a; intro a hr
            refine wpList_nil ?_
            refine then_normal ?_
            refine wp_ret ?_
            refine then_ret ?_
            refine end_ret1 (v := .bool false) rfl hr (by kernel_rfl) ?_
            replace H := jx0 H hK35
            replace h : Fit z (sepL (L)) _ := h.sel 12 [] (by kernel_rfl) (by kernel_rfl)
            replace H := ej1 H; subst H
            exact ⟨rfl, h⟩
        ·
          replace H := ifF c37 H
          refine op_off ((wg hr rfl rfl rfl (b' := (r18 != r2)) (by kernel_rfl)).trans (by rw [show (r18 != r2) = true from (bne_iff_ne.mpr c37)]; rfl)) rfl rfl hr ?_; clear hr a; intro a hr
          refine op_off ((wg hr rfl rfl rfl (b' := (r18 != r2)) (by kernel_rfl)).trans (by rw [show (r18 != r2) = true from (bne_iff_ne.mpr c37)]; rfl)) rfl rfl hr ?_; clear hr a; intro a hr
          refine op_off ((wg hr rfl rfl rfl (b' := (r18 != r2)) (by kernel_rfl)).trans (by rw [show (r18 != r2) = true from (bne_iff_ne.mpr c37)]; rfl)) rfl rfl hr ?_; clear hr a; intro a hr
          refine op_val (wn rfl) rfl rfl hr (v := .bool true) (rp_t (b := (r18 != r2)) rfl (by kernel_rfl) (bne_iff_ne.mpr c37) (by kernel_rfl)) ?_; clear hr a; intro a hr
          refine ov hr (.bool true) (by kernel_rfl) ?_; clear hr a; intro a hr
          refine op_off ((wg hr rfl rfl rfl (b' := true) (by kernel_rfl)).trans rfl) rfl rfl hr ?_; clear hr a; intro a hr
          refine op_off ((wg hr rfl rfl rfl (b' := true) (by kernel_rfl)).trans rfl) rfl rfl hr ?_; clear hr a; intro a hr
          refine op_off ((wg hr rfl rfl rfl (b' := true) (by kernel_rfl)).trans rfl) rfl rfl hr ?_; clear hr a; intro a hr
          refine op_off ((wg hr rfl rfl rfl (b' := true) (by kernel_rfl)).trans rfl) rfl rfl hr ?_; clear hr a; intro a hr
          refine op_off ((wg hr rfl rfl rfl (b' := true) (by kernel_rfl)).trans rfl) rfl rfl hr ?_; clear hr a; intro a hr
          refine ovs [57, 58] [.bool true, .bool true] hr ⟨rfl, rfl⟩ (by kernel_rfl) ?_; clear hr a; intro a hr
          refine op_off ((wg hr rfl rfl rfl (b' := true) (by kernel_rfl)).trans rfl) rfl rfl hr ?_; clear hr a; intro a hr
          refine op_off ((wg hr rfl rfl rfl (b' := true) (by kernel_rfl)).trans rfl) rfl rfl hr ?_; clear hr a; intro a hr
          refine op_off ((wg hr rfl rfl rfl (b' := true) (by kernel_rfl)).trans rfl) rfl rfl hr ?_; clear hr a; intro a hr
          refine op_off ((wg hr rfl rfl rfl (b' := true) (by kernel_rfl)).trans rfl) rfl rfl hr ?_; clear hr a; intro a hr
          refine op_off ((wg hr rfl rfl rfl (b' := true) (by kernel_rfl)).trans rfl) rfl rfl hr ?_; clear hr a; intro a hr
          refine ov hr (.bool true) (by kernel_rfl) ?_; clear hr a; intro a hr
          refine wpList_nil ?_
          refine then_normal ?_
          refine cond_tt hr (b := true) rfl ?_
          refine wp_seq ?_
          refine wp_region_lit ?_
          refine ov hr (.bool false) (by kernel_rfl) ?_; clear hr a; intro a hr
          refine wpList_nil ?_
          refine then_normal ?_
          refine wp_ret ?_
          refine then_ret ?_
          refine end_ret1 (v := .bool false) rfl hr (by kernel_rfl) ?_
          replace H := jx0 H hK35
          replace h : Fit z (sepL (L)) _ := h.sel 12 [] (by kernel_rfl) (by kernel_rfl)
          replace H := ej1 H; subst H
          exact ⟨rfl, h⟩
      clear h hr a; rintro _ a w ⟨rfl, j, hr, h⟩
      replace H := jk0 hK35
      refine wp_seq ?_
      refine wp_region_lit ?_
      refine ov hr (.agg #[.slice none 0 0, .slice none 0 0, .int .i64 0]) (by kernel_rfl) ?_; clear hr a; intro a hr
      refine op_new (wn rfl) rfl rfl hr h (vf := fun b => .pointer (some ⟨b, 0, none⟩)) (cs := #[.slice none 0 0, .slice none 0 0, .int .i64 0]) (T := 78) (by kernel_rfl) ?_; clear h hr a; intro b41 w a h hr
      refine ov hr (.pointer (some ⟨b41, 0, none⟩)) (by kernel_rfl) ?_; clear hr a; intro a hr
      refine wpList_nil ?_
      refine then_normal ?_
      replace H := jd4 H; obtain ⟨o63, H, hK62⟩ := H
      refine cut_rule (β := Unit) (fun _ a w => ∃ ca43 : Option Addr, ∃ cc44 : Nat, ∃ ca45 : Option Addr, ∃ cc46 : Nat, ∃ ca48 : Option Addr, ∃ cc49 : Nat, ∃ ca50 : Option Addr, ∃ cc51 : Nat, ∃ ca53 : Option Addr, ∃ cc54 : Nat, ∃ ca55 : Option Addr, ∃ cc56 : Nat, ∃ ca58 : Option Addr, ∃ cc59 : Nat, ∃ ca60 : Option Addr, ∃ cc61 : Nat, ∃ S42 : T_plunderref2_Arena, ∃ S47 : T_plunderref2_Arena, ∃ S52 : T_cells_Arena, ∃ S57 : T_cells_Arena, .inl (S42, S47, S52, S57) = o63 ∧ ∃ j, Rep 141 (lk [(11, .pointer (some ⟨Bn4, 0, none⟩)), (13, .pointer (some ⟨Bn12, 0, none⟩)), (15, .pointer (some ⟨Bn21, 0, none⟩)), (17, .pointer (some ⟨Bn30, 0, none⟩))] j) a ∧ Fit z (sepL (ob62 Bn4 S42 ca43 cc44 ca45 cc46 :: ro2 ca43 cc44 S42.Held :: ro90 ca45 cc46 S42.Book :: ob62 Bn12 S47 ca48 cc49 ca50 cc51 :: ro2 ca48 cc49 S47.Held :: ro90 ca50 cc51 S47.Book :: ob96 Bn21 S52 ca53 cc54 ca55 cc56 :: ro2 ca53 cc54 S52.cell :: ro90 ca55 cc56 S52.log :: ob96 Bn30 S57 ca58 cc59 ca60 cc61 :: ro2 ca58 cc59 S57.cell :: ro90 ca60 cc61 S57.log :: L)) w) ?_ ?_
      ·
        refine wp_seq ?_
        refine wp_region_lit ?_
        refine ov hr (.int .i64 0) (by kernel_rfl) ?_; clear hr a; intro a hr
        refine wpList_nil ?_
        refine then_normal ?_
        refine wp_block ?_
        replace hr := hr.fold2 [(2, .slice va2 p2.length vc2), (3, .bool p3), (4, .bool p4), (11, .pointer (some ⟨Bn4, 0, none⟩)), (13, .pointer (some ⟨Bn12, 0, none⟩)), (15, .pointer (some ⟨Bn21, 0, none⟩)), (17, .pointer (some ⟨Bn30, 0, none⟩)), (19, .pointer (some ⟨b41, 0, none⟩)), (20, .int .i64 0)] (by kernel_rfl); obtain ⟨j, hr⟩ := hr
        replace h : Fit z (sepL (rowN 139 5 own_T_plunderlaw2_kept (.slice none 0 0) ([] : List T_plunderlaw2_kept) :: pts b41 (.cells #[.slice none 0 0, .slice none 0 0, .int .i64 0] 78) :: ob62 Bn4 r1 car5 ccr6 car7 ccr8 :: ro2 car5 ccr6 r1.Held :: ro90 car7 ccr8 r1.Book :: ob62 Bn12 r9 car13 ccr14 car15 ccr16 :: ro2 car13 ccr14 r9.Held :: ro90 car15 ccr16 r9.Book :: ob96 Bn21 S20 car22 ccr23 car24 ccr25 :: ro2 car22 ccr23 S20.cell :: ro90 car24 ccr25 S20.log :: ob96 Bn30 S29 car31 ccr32 car33 ccr34 :: ro2 car31 ccr32 S29.cell :: ro90 car33 ccr34 S29.log :: L)) _ := h.rowN_nil
        replace h : Fit z (sepL (rowN 142 5 own_T_plunderlaw2_noted (.slice none 0 0) ([] : List T_plunderlaw2_noted) :: rowN 139 5 own_T_plunderlaw2_kept (.slice none 0 0) ([] : List T_plunderlaw2_kept) :: pts b41 (.cells #[.slice none 0 0, .slice none 0 0, .int .i64 0] 78) :: ob62 Bn4 r1 car5 ccr6 car7 ccr8 :: ro2 car5 ccr6 r1.Held :: ro90 car7 ccr8 r1.Book :: ob62 Bn12 r9 car13 ccr14 car15 ccr16 :: ro2 car13 ccr14 r9.Held :: ro90 car15 ccr16 r9.Book :: ob96 Bn21 S20 car22 ccr23 car24 ccr25 :: ro2 car22 ccr23 S20.cell :: ro90 car24 ccr25 S20.log :: ob96 Bn30 S29 car31 ccr32 car33 ccr34 :: ro2 car31 ccr32 S29.cell :: ro90 car33 ccr34 S29.log :: L)) _ := h.rowN_nil
        replace h : Fit z (sepL (ob62 Bn4 r1 car5 ccr6 car7 ccr8 :: ro2 car5 ccr6 r1.Held :: ro90 car7 ccr8 r1.Book :: ob62 Bn12 r9 car13 ccr14 car15 ccr16 :: ro2 car13 ccr14 r9.Held :: ro90 car15 ccr16 r9.Book :: ob96 Bn21 S20 car22 ccr23 car24 ccr25 :: ro2 car22 ccr23 S20.cell :: ro90 car24 ccr25 S20.log :: ob96 Bn30 S29 car31 ccr32 car33 ccr34 :: ro2 car31 ccr32 S29.cell :: ro90 car33 ccr34 S29.log :: pts b41 (.cells #[.slice none ((⟨([] : List T_plunderlaw2_kept), ([] : List T_plunderlaw2_noted), 0⟩ : T_plunderlaw2_book).numberLists.length) 0, .slice none ((⟨([] : List T_plunderlaw2_kept), ([] : List T_plunderlaw2_noted), 0⟩ : T_plunderlaw2_book).accessLists.length) 0, .int .i64 ((⟨([] : List T_plunderlaw2_kept), ([] : List T_plunderlaw2_noted), 0⟩ : T_plunderlaw2_book).next)] 78) :: rowN 139 5 own_T_plunderlaw2_kept (.slice none ((⟨([] : List T_plunderlaw2_kept), ([] : List T_plunderlaw2_noted), 0⟩ : T_plunderlaw2_book).numberLists.length) 0) ((⟨([] : List T_plunderlaw2_kept), ([] : List T_plunderlaw2_noted), 0⟩ : T_plunderlaw2_book).numberLists) :: rowN 142 5 own_T_plunderlaw2_noted (.slice none ((⟨([] : List T_plunderlaw2_kept), ([] : List T_plunderlaw2_noted), 0⟩ : T_plunderlaw2_book).accessLists.length) 0) ((⟨([] : List T_plunderlaw2_kept), ([] : List T_plunderlaw2_noted), 0⟩ : T_plunderlaw2_book).accessLists) :: L)) _ := h.sel 15 [3, 4, 5, 6, 7, 8, 9, 10, 11, 12, 13, 14, 2, 1, 0] (by kernel_rfl) (by kernel_rfl)
        refine loop_rule (β := Nat) id (fun m a w => ∃ ca65 : Option Addr, ∃ cc66 : Nat, ∃ ca67 : Option Addr, ∃ cc68 : Nat, ∃ ca70 : Option Addr, ∃ cc71 : Nat, ∃ ca72 : Option Addr, ∃ cc73 : Nat, ∃ ca75 : Option Addr, ∃ cc76 : Nat, ∃ ca77 : Option Addr, ∃ cc78 : Nat, ∃ ca80 : Option Addr, ∃ cc81 : Nat, ∃ ca82 : Option Addr, ∃ cc83 : Nat, ∃ ca85 : Option Addr, ∃ cc86 : Nat, ∃ ca87 : Option Addr, ∃ cc88 : Nat, ∃ S64 : T_plunderref2_Arena, ∃ S69 : T_plunderref2_Arena, ∃ S74 : T_cells_Arena, ∃ S79 : T_cells_Arena, ∃ S84 : T_plunderlaw2_book, ∃ g89 : Int, (plunderlaw2_walk_l1 K p2 p3 p4 m S64 S69 S74 S79 S84 g89) = some o63 ∧ ∃ j, Rep 141 (lk [(2, .slice va2 p2.length vc2), (3, .bool p3), (4, .bool p4), (11, .pointer (some ⟨Bn4, 0, none⟩)), (13, .pointer (some ⟨Bn12, 0, none⟩)), (15, .pointer (some ⟨Bn21, 0, none⟩)), (17, .pointer (some ⟨Bn30, 0, none⟩)), (19, .pointer (some ⟨b41, 0, none⟩)), (20, .int .i64 g89)] j) a ∧ Fit z (sepL (ob62 Bn4 S64 ca65 cc66 ca67 cc68 :: ro2 ca65 cc66 S64.Held :: ro90 ca67 cc68 S64.Book :: ob62 Bn12 S69 ca70 cc71 ca72 cc73 :: ro2 ca70 cc71 S69.Held :: ro90 ca72 cc73 S69.Book :: ob96 Bn21 S74 ca75 cc76 ca77 cc78 :: ro2 ca75 cc76 S74.cell :: ro90 ca77 cc78 S74.log :: ob96 Bn30 S79 ca80 cc81 ca82 cc83 :: ro2 ca80 cc81 S79.cell :: ro90 ca82 cc83 S79.log :: ob78 b41 S84 ca85 cc86 ca87 cc88 :: rn139 ca85 cc86 S84.numberLists :: rn142 ca87 cc88 S84.accessLists :: L)) w) K ⟨car5, ccr6, car7, ccr8, car13, ccr14, car15, ccr16, car22, ccr23, car24, ccr25, car31, ccr32, car33, ccr34, none, 0, none, 0, r1, r9, S20, S29, (⟨([] : List T_plunderlaw2_kept), ([] : List T_plunderlaw2_noted), 0⟩ : T_plunderlaw2_book), 0, H, j, hr, h⟩ ?_
        clear h hr a H; rintro k1 a w ⟨ca65, cc66, ca67, cc68, ca70, cc71, ca72, cc73, ca75, cc76, ca77, cc78, ca80, cc81, ca82, cc83, ca85, cc86, ca87, cc88, S64, S69, S74, S79, S84, g89, H, j, hr, h⟩
        cases k1 with
        | zero => exact absurd H (by simp [plunderlaw2_walk_l1])
        | succ k1 =>
          rw [plunderlaw2_walk_l1] at H
          refine wp_seq ?_
          refine wp_seq ?_
          refine wp_region_lit ?_
          refine ovs [67, 68, 69, 70] [.int .i64 g89, .slice va2 p2.length vc2, .int .i64 ((p2.length : Nat) : Int), .bool (decide (g89 < ((p2.length : Nat) : Int)))] hr ⟨rfl, rfl⟩ (by kernel_rfl) ?_; clear hr a; intro a hr
          refine wpList_nil ?_
          refine then_normal ?_
          by_cases c90 : g89 < ((p2.length : Nat) : Int)
          ·
            replace H := ifT c90 H
            refine cond_tt hr (b := (decide (g89 < ((p2.length : Nat) : Int)))) (decide_eq_true c90) ?_
            refine wp_skip ?_
            refine then_normal ?_
            refine wp_seq ?_
            refine wp_block ?_
            refine wp_seq ?_
            refine wp_region_lit ?_
            replace H := gd H; obtain ⟨c91, H⟩ := H
            refine ovs [73, 74] [.slice va2 p2.length vc2, .int .i64 g89] hr ⟨rfl, rfl⟩ (by kernel_rfl) ?_; clear hr a; intro a hr
            refine op_val (wn rfl) rfl rfl hr (v := .pointer (some ⟨blk va2, offs va2 + g89.toNat * 5, none⟩)) (ri_rd (k := .i64) (E := 30) (cc := vc2) rfl (by kernel_rfl) (by kernel_rfl) rfl (by kernel_rfl) (by kernel_rfl) hv2 c91) ?_; clear hr a; intro a hr
            refine op_val (wn rfl) rfl rfl hr (v := .agg #[.int .i64 ((at_ p2 g89.toNat).Side), .int .i64 ((at_ p2 g89.toNat).Kind), .int .i64 ((at_ p2 g89.toNat).Addr), .int .i64 ((at_ p2 g89.toNat).A), .int .i64 ((at_ p2 g89.toNat).B)]) (rlm (cs := [.int .i64 ((at_ p2 g89.toNat).Side), .int .i64 ((at_ p2 g89.toNat).Kind), .int .i64 ((at_ p2 g89.toNat).Addr), .int .i64 ((at_ p2 g89.toNat).A), .int .i64 ((at_ p2 g89.toNat).B)]) rfl (by kernel_rfl) (by kernel_rfl) (by kernel_rfl) ⟨hv2.cell c91 (h.dn 15) 0 rfl, hv2.cell c91 (h.dn 15) 1 rfl, hv2.cell c91 (h.dn 15) 2 rfl, hv2.cell c91 (h.dn 15) 3 rfl, hv2.cell c91 (h.dn 15) 4 rfl, trivial⟩) ?_; clear hr a; intro a hr
            refine op_new (wn rfl) rfl rfl hr h (vf := fun b => .pointer (some ⟨b, 0, none⟩)) (cs := #[.int .i64 0, .int .i64 0, .int .i64 0, .int .i64 0, .int .i64 0]) (T := 30) (by kernel_rfl) ?_; clear h hr a; intro b92 w a h hr
            refine op_stores (wn rfl) rfl hr rfl (by kernel_rfl) (by kernel_rfl) (vs := [.int .i64 ((at_ p2 g89.toNat).Side), .int .i64 ((at_ p2 g89.toNat).Kind), .int .i64 ((at_ p2 g89.toNat).Addr), .int .i64 ((at_ p2 g89.toNat).A), .int .i64 ((at_ p2 g89.toNat).B)]) rfl rfl (by kernel_rfl) h (i := 0) (cs' := #[.int .i64 ((at_ p2 g89.toNat).Side), .int .i64 ((at_ p2 g89.toNat).Kind), .int .i64 ((at_ p2 g89.toNat).Addr), .int .i64 ((at_ p2 g89.toNat).A), .int .i64 ((at_ p2 g89.toNat).B)]) rfl ?_; clear h; intro w h
            refine wpList_nil ?_
            replace h : Fit z (sepL (ob30 b92 (at_ p2 g89.toNat) :: ob62 Bn4 S64 ca65 cc66 ca67 cc68 :: ro2 ca65 cc66 S64.Held :: ro90 ca67 cc68 S64.Book :: ob62 Bn12 S69 ca70 cc71 ca72 cc73 :: ro2 ca70 cc71 S69.Held :: ro90 ca72 cc73 S69.Book :: ob96 Bn21 S74 ca75 cc76 ca77 cc78 :: ro2 ca75 cc76 S74.cell :: ro90 ca77 cc78 S74.log :: ob96 Bn30 S79 ca80 cc81 ca82 cc83 :: ro2 ca80 cc81 S79.cell :: ro90 ca82 cc83 S79.log :: ob78 b41 S84 ca85 cc86 ca87 cc88 :: rn139 ca85 cc86 S84.numberLists :: rn142 ca87 cc88 S84.accessLists :: L)) _ := h
            refine then_normal ?_
            refine wp_seq ?_
            refine wp_region_lit ?_
            refine ov hr (.bool false) (by kernel_rfl) ?_; clear hr a; intro a hr
            refine wpList_nil ?_
            refine then_normal ?_
            replace H := kd6 H; obtain ⟨o120, H, hK119⟩ := H
            refine cut_rule (β := Unit) (fun _ a w => ∃ ca94 : Option Addr, ∃ cc95 : Nat, ∃ ca96 : Option Addr, ∃ cc97 : Nat, ∃ ca99 : Option Addr, ∃ cc100 : Nat, ∃ ca101 : Option Addr, ∃ cc102 : Nat, ∃ ca104 : Option Addr, ∃ cc105 : Nat, ∃ ca106 : Option Addr, ∃ cc107 : Nat, ∃ ca109 : Option Addr, ∃ cc110 : Nat, ∃ ca111 : Option Addr, ∃ cc112 : Nat, ∃ ca114 : Option Addr, ∃ cc115 : Nat, ∃ ca116 : Option Addr, ∃ cc117 : Nat, ∃ S93 : T_plunderref2_Arena, ∃ S98 : T_plunderref2_Arena, ∃ S103 : T_cells_Arena, ∃ S108 : T_cells_Arena, ∃ S113 : T_plunderlaw2_book, ∃ g118 : Bool, (S93, S98, S103, S108, S113, g118) = o120 ∧ ∃ j, Rep 141 (lk [(2, .slice va2 p2.length vc2), (3, .bool p3), (4, .bool p4), (11, .pointer (some ⟨Bn4, 0, none⟩)), (13, .pointer (some ⟨Bn12, 0, none⟩)), (15, .pointer (some ⟨Bn21, 0, none⟩)), (17, .pointer (some ⟨Bn30, 0, none⟩)), (19, .pointer (some ⟨b41, 0, none⟩)), (20, .int .i64 g89), (22, .bool g118)] j) a ∧ Fit z (sepL (ob62 Bn4 S93 ca94 cc95 ca96 cc97 :: ro2 ca94 cc95 S93.Held :: ro90 ca96 cc97 S93.Book :: ob62 Bn12 S98 ca99 cc100 ca101 cc102 :: ro2 ca99 cc100 S98.Held :: ro90 ca101 cc102 S98.Book :: ob96 Bn21 S103 ca104 cc105 ca106 cc107 :: ro2 ca104 cc105 S103.cell :: ro90 ca106 cc107 S103.log :: ob96 Bn30 S108 ca109 cc110 ca111 cc112 :: ro2 ca109 cc110 S108.cell :: ro90 ca111 cc112 S108.log :: ob78 b41 S113 ca114 cc115 ca116 cc117 :: rn139 ca114 cc115 S113.numberLists :: rn142 ca116 cc117 S113.accessLists :: L)) w) ?_ ?_
            ·
              replace H := kd1 H; obtain ⟨o123, H, hK122⟩ := H
              refine cut_rule (β := Unit) (fun _ a w => ∃ g121 : Bool, g121 = o123 ∧ ∃ j, Rep 141 (lk [(2, .slice va2 p2.length vc2), (3, .bool p3), (4, .bool p4), (11, .pointer (some ⟨Bn4, 0, none⟩)), (13, .pointer (some ⟨Bn12, 0, none⟩)), (15, .pointer (some ⟨Bn21, 0, none⟩)), (17, .pointer (some ⟨Bn30, 0, none⟩)), (19, .pointer (some ⟨b41, 0, none⟩)), (20, .int .i64 g89), (21, .pointer (some ⟨b92, 0, none⟩)), (83, .bool g121)] j) a ∧ Fit z (sepL (ob62 Bn4 S64 ca65 cc66 ca67 cc68 :: ro2 ca65 cc66 S64.Held :: ro90 ca67 cc68 S64.Book :: ob62 Bn12 S69 ca70 cc71 ca72 cc73 :: ro2 ca70 cc71 S69.Held :: ro90 ca72 cc73 S69.Book :: ob96 Bn21 S74 ca75 cc76 ca77 cc78 :: ro2 ca75 cc76 S74.cell :: ro90 ca77 cc78 S74.log :: ob96 Bn30 S79 ca80 cc81 ca82 cc83 :: ro2 ca80 cc81 S79.cell :: ro90 ca82 cc83 S79.log :: ob78 b41 S84 ca85 cc86 ca87 cc88 :: rn139 ca85 cc86 S84.numberLists :: rn142 ca87 cc88 S84.accessLists :: ob30 b92 (at_ p2 g89.toNat) :: L)) w) ?_ ?_
              ·
                refine wp_region_lit ?_
                refine ovs [77, 78] [.bool p3, .bool p3] hr ⟨rfl, rfl⟩ (by kernel_rfl) ?_; clear hr a; intro a hr
                by_cases c124 : p3 = true
                ·
                  replace H := ifT c124 H
                  refine op_off ((wg hr rfl rfl rfl (b' := p3) (by kernel_rfl)).trans (by rw [show p3 = true from (c124)]; rfl)) rfl rfl hr ?_; clear hr a; intro a hr
                  refine op_off ((wg hr rfl rfl rfl (b' := p3) (by kernel_rfl)).trans (by rw [show p3 = true from (c124)]; rfl)) rfl rfl hr ?_; clear hr a; intro a hr
                  refine op_off ((wg hr rfl rfl rfl (b' := p3) (by kernel_rfl)).trans (by rw [show p3 = true from (c124)]; rfl)) rfl rfl hr ?_; clear hr a; intro a hr
                  refine op_off ((wg hr rfl rfl rfl (b' := p3) (by kernel_rfl)).trans (by rw [show p3 = true from (c124)]; rfl)) rfl rfl hr ?_; clear hr a; intro a hr
                  refine op_val (wn rfl) rfl rfl hr (v := .bool true) (rp_t (b := p3) rfl (by kernel_rfl) (c124) (by kernel_rfl)) ?_; clear hr a; intro a hr
                  refine wpList_nil ?_
                  refine then_normal ?_
                  replace hr := hr.fold2 [(2, .slice va2 p2.length vc2), (3, .bool p3), (4, .bool p4), (11, .pointer (some ⟨Bn4, 0, none⟩)), (13, .pointer (some ⟨Bn12, 0, none⟩)), (15, .pointer (some ⟨Bn21, 0, none⟩)), (17, .pointer (some ⟨Bn30, 0, none⟩)), (19, .pointer (some ⟨b41, 0, none⟩)), (20, .int .i64 g89), (21, .pointer (some ⟨b92, 0, none⟩)), (83, .bool true)] (by kernel_rfl); obtain ⟨j, hr⟩ := hr
                  replace h : Fit z (sepL (ob62 Bn4 S64 ca65 cc66 ca67 cc68 :: ro2 ca65 cc66 S64.Held :: ro90 ca67 cc68 S64.Book :: ob62 Bn12 S69 ca70 cc71 ca72 cc73 :: ro2 ca70 cc71 S69.Held :: ro90 ca72 cc73 S69.Book :: ob96 Bn21 S74 ca75 cc76 ca77 cc78 :: ro2 ca75 cc76 S74.cell :: ro90 ca77 cc78 S74.log :: ob96 Bn30 S79 ca80 cc81 ca82 cc83 :: ro2 ca80 cc81 S79.cell :: ro90 ca82 cc83 S79.log :: ob78 b41 S84 ca85 cc86 ca87 cc88 :: rn139 ca85 cc86 S84.numberLists :: rn142 ca87 cc88 S84.accessLists :: ob30 b92 (at_ p2 g89.toNat) :: L)) _ := h.sel 16 [1, 2, 3, 4, 5, 6, 7, 8, 9, 10, 11, 12, 13, 14, 15, 0] (by kernel_rfl) (by kernel_rfl)
                  exact ⟨(), true, sinj H, j, hr, h⟩
                ·
                  replace H := ifF c124 H
                  refine op_val ((wg hr rfl rfl rfl (b' := p3) (by kernel_rfl)).trans (by rw [show p3 = false from (bF c124)]; rfl)) rfl rfl hr (v := .pointer (some ⟨b92, 0, none⟩)) (by kernel_rfl) ?_; clear hr a; intro a hr
                  refine op_val ((wg hr rfl rfl rfl (b' := p3) (by kernel_rfl)).trans (by rw [show p3 = false from (bF c124)]; rfl)) rfl rfl hr (v := .int .i64 ((at_ p2 g89.toNat).Side)) (rl rfl (by kernel_rfl) (by kernel_rfl) (h.cell 0 rfl)) ?_; clear hr a; intro a hr
                  replace H := bd1 H; obtain ⟨r125, e126, H⟩ := H
                  have hc := plunderlaw2_mod_ok (H := e126) (h := h)
                  refine op_call ((wg hr rfl rfl rfl (b' := p3) (by kernel_rfl)).trans (by rw [show p3 = false from (bF c124)]; rfl)) rfl rfl hr (f := 23) (args := #[.int .i64 ((at_ p2 g89.toNat).Side), .int .i64 2]) (by kernel_rfl) hc ?_; clear hc h
                  rintro _ w ⟨rfl, h⟩; refine ⟨_, rfl, ?_⟩
                  clear hr a; intro a hr
                  refine op_val ((wg hr rfl rfl rfl (b' := p3) (by kernel_rfl)).trans (by rw [show p3 = false from (bF c124)]; rfl)) rfl rfl hr (v := .bool (r125 == (0 : Int))) (by kernel_rfl) ?_; clear hr a; intro a hr
                  refine op_val (wn rfl) rfl rfl hr (v := .bool (r125 == (0 : Int))) (rp_f (b := p3) rfl (by kernel_rfl) (bF c124) (by kernel_rfl)) ?_; clear hr a; intro a hr
                  refine wpList_nil ?_
                  refine then_normal ?_
                  replace hr := hr.fold2 [(2, .slice va2 p2.length vc2), (3, .bool p3), (4, .bool p4), (11, .pointer (some ⟨Bn4, 0, none⟩)), (13, .pointer (some ⟨Bn12, 0, none⟩)), (15, .pointer (some ⟨Bn21, 0, none⟩)), (17, .pointer (some ⟨Bn30, 0, none⟩)), (19, .pointer (some ⟨b41, 0, none⟩)), (20, .int .i64 g89), (21, .pointer (some ⟨b92, 0, none⟩)), (83, .bool (r125 == (0 : Int)))] (by kernel_rfl); obtain ⟨j, hr⟩ := hr
                  replace h : Fit z (sepL (ob62 Bn4 S64 ca65 cc66 ca67 cc68 :: ro2 ca65 cc66 S64.Held :: ro90 ca67 cc68 S64.Book :: ob62 Bn12 S69 ca70 cc71 ca72 cc73 :: ro2 ca70 cc71 S69.Held :: ro90 ca72 cc73 S69.Book :: ob96 Bn21 S74 ca75 cc76 ca77 cc78 :: ro2 ca75 cc76 S74.cell :: ro90 ca77 cc78 S74.log :: ob96 Bn30 S79 ca80 cc81 ca82 cc83 :: ro2 ca80 cc81 S79.cell :: ro90 ca82 cc83 S79.log :: ob78 b41 S84 ca85 cc86 ca87 cc88 :: rn139 ca85 cc86 S84.numberLists :: rn142 ca87 cc88 S84.accessLists :: ob30 b92 (at_ p2 g89.toNat) :: L)) _ := h.sel 16 [1, 2, 3, 4, 5, 6, 7, 8, 9, 10, 11, 12, 13, 14, 15, 0] (by kernel_rfl) (by kernel_rfl)
                  exact ⟨(), (r125 == (0 : Int)), sinj H, j, hr, h⟩
              clear h hr a; rintro _ a w ⟨g121, rfl, j, hr, h⟩
              replace H := kk1 hK122
              by_cases c127 : g121 = true
              ·
                replace H := ifT c127 H
                refine cond_tt hr (b := g121) (c127) ?_
                refine wp_region_lit ?_
                refine ovs [84, 85] [.pointer (some ⟨Bn21, 0, none⟩), .pointer (some ⟨Bn4, 0, none⟩)] hr ⟨rfl, rfl⟩ (by kernel_rfl) ?_; clear hr a; intro a hr
                refine op_val (wn rfl) rfl rfl hr (v := .agg #[.int .i64 ((at_ p2 g89.toNat).Side), .int .i64 ((at_ p2 g89.toNat).Kind), .int .i64 ((at_ p2 g89.toNat).Addr), .int .i64 ((at_ p2 g89.toNat).A), .int .i64 ((at_ p2 g89.toNat).B)]) (rlm (cs := [.int .i64 ((at_ p2 g89.toNat).Side), .int .i64 ((at_ p2 g89.toNat).Kind), .int .i64 ((at_ p2 g89.toNat).Addr), .int .i64 ((at_ p2 g89.toNat).A), .int .i64 ((at_ p2 g89.toNat).B)]) rfl (by kernel_rfl) (by kernel_rfl) (by kernel_rfl) ⟨(h.pick 15).cell 0 rfl, (h.pick 15).cell 1 rfl, (h.pick 15).cell 2 rfl, (h.pick 15).cell 3 rfl, (h.pick 15).cell 4 rfl, trivial⟩) ?_; clear hr a; intro a hr
                replace H := bd4 H; obtain ⟨r128, S129, S130, S131, e132, H⟩ := H
                refine ov hr (.pointer (some ⟨b41, 0, none⟩)) (by kernel_rfl) ?_; clear hr a; intro a hr
                replace h : Fit z (sepL (ob96 Bn21 S74 ca75 cc76 ca77 cc78 :: ro2 ca75 cc76 S74.cell :: ro90 ca77 cc78 S74.log :: ob62 Bn4 S64 ca65 cc66 ca67 cc68 :: ro2 ca65 cc66 S64.Held :: ro90 ca67 cc68 S64.Book :: ob78 b41 S84 ca85 cc86 ca87 cc88 :: rn139 ca85 cc86 S84.numberLists :: rn142 ca87 cc88 S84.accessLists :: ob62 Bn12 S69 ca70 cc71 ca72 cc73 :: ro2 ca70 cc71 S69.Held :: ro90 ca72 cc73 S69.Book :: ob96 Bn30 S79 ca80 cc81 ca82 cc83 :: ro2 ca80 cc81 S79.cell :: ro90 ca82 cc83 S79.log :: ob30 b92 (at_ p2 g89.toNat) :: L)) _ := h.sel 16 [6, 7, 8, 0, 1, 2, 12, 13, 14, 3, 4, 5, 9, 10, 11, 15] (by kernel_rfl) (by kernel_rfl)
                have hc := plunderlaw2_plays_ok (H := e132) (h := h)
                refine op_call (wn rfl) rfl rfl hr (f := 69) (args := #[.pointer (some ⟨Bn21, 0, none⟩), .pointer (some ⟨Bn4, 0, none⟩), .agg #[.int .i64 ((at_ p2 g89.toNat).Side), .int .i64 ((at_ p2 g89.toNat).Kind), .int .i64 ((at_ p2 g89.toNat).Addr), .int .i64 ((at_ p2 g89.toNat).A), .int .i64 ((at_ p2 g89.toNat).B)], .pointer (some ⟨b41, 0, none⟩)]) (by kernel_rfl) hc ?_; clear hc h
                rintro _ w ⟨caq133, ccq134, caq135, ccq136, caq137, ccq138, caq139, ccq140, caq141, ccq142, caq143, ccq144, rfl, h⟩; refine ⟨_, rfl, ?_⟩
                clear hr a; intro a hr
                refine ov hr (.bool r128) (by kernel_rfl) ?_; clear hr a; intro a hr
                refine wpList_nil ?_
                refine then_normal ?_
                replace hr := hr.fold2 [(2, .slice va2 p2.length vc2), (3, .bool p3), (4, .bool p4), (11, .pointer (some ⟨Bn4, 0, none⟩)), (13, .pointer (some ⟨Bn12, 0, none⟩)), (15, .pointer (some ⟨Bn21, 0, none⟩)), (17, .pointer (some ⟨Bn30, 0, none⟩)), (19, .pointer (some ⟨b41, 0, none⟩)), (20, .int .i64 g89), (22, .bool r128)] (by kernel_rfl); obtain ⟨j, hr⟩ := hr
                replace h : Fit z (sepL (ob62 Bn4 S130 caq137 ccq138 caq139 ccq140 :: ro2 caq137 ccq138 S130.Held :: ro90 caq139 ccq140 S130.Book :: ob62 Bn12 S69 ca70 cc71 ca72 cc73 :: ro2 ca70 cc71 S69.Held :: ro90 ca72 cc73 S69.Book :: ob96 Bn21 S129 caq133 ccq134 caq135 ccq136 :: ro2 caq133 ccq134 S129.cell :: ro90 caq135 ccq136 S129.log :: ob96 Bn30 S79 ca80 cc81 ca82 cc83 :: ro2 ca80 cc81 S79.cell :: ro90 ca82 cc83 S79.log :: ob78 b41 S131 caq141 ccq142 caq143 ccq144 :: rn139 caq141 ccq142 S131.numberLists :: rn142 caq143 ccq144 S131.accessLists :: L)) _ := h.sel 16 [3, 4, 5, 9, 10, 11, 0, 1, 2, 12, 13, 14, 6, 7, 8] (by kernel_rfl) (by kernel_rfl)
                exact ⟨(), caq137, ccq138, caq139, ccq140, ca70, cc71, ca72, cc73, caq133, ccq134, caq135, ccq136, ca80, cc81, ca82, cc83, caq141, ccq142, caq143, ccq144, S130, S69, S129, S79, S131, r128, sinj H, j, hr, h⟩
              ·
                replace H := ifF c127 H
                refine cond_ff hr (b := g121) (bF c127) ?_
                refine wp_region_lit ?_
                refine ovs [89, 90] [.pointer (some ⟨Bn30, 0, none⟩), .pointer (some ⟨Bn12, 0, none⟩)] hr ⟨rfl, rfl⟩ (by kernel_rfl) ?_; clear hr a; intro a hr
                refine op_val (wn rfl) rfl rfl hr (v := .agg #[.int .i64 ((at_ p2 g89.toNat).Side), .int .i64 ((at_ p2 g89.toNat).Kind), .int .i64 ((at_ p2 g89.toNat).Addr), .int .i64 ((at_ p2 g89.toNat).A), .int .i64 ((at_ p2 g89.toNat).B)]) (rlm (cs := [.int .i64 ((at_ p2 g89.toNat).Side), .int .i64 ((at_ p2 g89.toNat).Kind), .int .i64 ((at_ p2 g89.toNat).Addr), .int .i64 ((at_ p2 g89.toNat).A), .int .i64 ((at_ p2 g89.toNat).B)]) rfl (by kernel_rfl) (by kernel_rfl) (by kernel_rfl) ⟨(h.pick 15).cell 0 rfl, (h.pick 15).cell 1 rfl, (h.pick 15).cell 2 rfl, (h.pick 15).cell 3 rfl, (h.pick 15).cell 4 rfl, trivial⟩) ?_; clear hr a; intro a hr
                replace H := bd4 H; obtain ⟨r145, S146, S147, S148, e149, H⟩ := H
                refine ov hr (.pointer (some ⟨b41, 0, none⟩)) (by kernel_rfl) ?_; clear hr a; intro a hr
                replace h : Fit z (sepL (ob96 Bn30 S79 ca80 cc81 ca82 cc83 :: ro2 ca80 cc81 S79.cell :: ro90 ca82 cc83 S79.log :: ob62 Bn12 S69 ca70 cc71 ca72 cc73 :: ro2 ca70 cc71 S69.Held :: ro90 ca72 cc73 S69.Book :: ob78 b41 S84 ca85 cc86 ca87 cc88 :: rn139 ca85 cc86 S84.numberLists :: rn142 ca87 cc88 S84.accessLists :: ob62 Bn4 S64 ca65 cc66 ca67 cc68 :: ro2 ca65 cc66 S64.Held :: ro90 ca67 cc68 S64.Book :: ob96 Bn21 S74 ca75 cc76 ca77 cc78 :: ro2 ca75 cc76 S74.cell :: ro90 ca77 cc78 S74.log :: ob30 b92 (at_ p2 g89.toNat) :: L)) _ := h.sel 16 [9, 10, 11, 3, 4, 5, 12, 13, 14, 0, 1, 2, 6, 7, 8, 15] (by kernel_rfl) (by kernel_rfl)
                have hc := plunderlaw2_plays_ok (H := e149) (h := h)
                refine op_call (wn rfl) rfl rfl hr (f := 69) (args := #[.pointer (some ⟨Bn30, 0, none⟩), .pointer (some ⟨Bn12, 0, none⟩), .agg #[.int .i64 ((at_ p2 g89.toNat).Side), .int .i64 ((at_ p2 g89.toNat).Kind), .int .i64 ((at_ p2 g89.toNat).Addr), .int .i64 ((at_ p2 g89.toNat).A), .int .i64 ((at_ p2 g89.toNat).B)], .pointer (some ⟨b41, 0, none⟩)]) (by kernel_rfl) hc ?_; clear hc h
                rintro _ w ⟨caq150, ccq151, caq152, ccq153, caq154, ccq155, caq156, ccq157, caq158, ccq159, caq160, ccq161, rfl, h⟩; refine ⟨_, rfl, ?_⟩
                clear hr a; intro a hr
                refine ov hr (.bool r145) (by kernel_rfl) ?_; clear hr a; intro a hr
                refine wpList_nil ?_
                refine then_normal ?_
                replace hr := hr.fold2 [(2, .slice va2 p2.length vc2), (3, .bool p3), (4, .bool p4), (11, .pointer (some ⟨Bn4, 0, none⟩)), (13, .pointer (some ⟨Bn12, 0, none⟩)), (15, .pointer (some ⟨Bn21, 0, none⟩)), (17, .pointer (some ⟨Bn30, 0, none⟩)), (19, .pointer (some ⟨b41, 0, none⟩)), (20, .int .i64 g89), (22, .bool r145)] (by kernel_rfl); obtain ⟨j, hr⟩ := hr
                replace h : Fit z (sepL (ob62 Bn4 S64 ca65 cc66 ca67 cc68 :: ro2 ca65 cc66 S64.Held :: ro90 ca67 cc68 S64.Book :: ob62 Bn12 S147 caq154 ccq155 caq156 ccq157 :: ro2 caq154 ccq155 S147.Held :: ro90 caq156 ccq157 S147.Book :: ob96 Bn21 S74 ca75 cc76 ca77 cc78 :: ro2 ca75 cc76 S74.cell :: ro90 ca77 cc78 S74.log :: ob96 Bn30 S146 caq150 ccq151 caq152 ccq153 :: ro2 caq150 ccq151 S146.cell :: ro90 caq152 ccq153 S146.log :: ob78 b41 S148 caq158 ccq159 caq160 ccq161 :: rn139 caq158 ccq159 S148.numberLists :: rn142 caq160 ccq161 S148.accessLists :: L)) _ := h.sel 16 [9, 10, 11, 3, 4, 5, 12, 13, 14, 0, 1, 2, 6, 7, 8] (by kernel_rfl) (by kernel_rfl)
                exact ⟨(), ca65, cc66, ca67, cc68, caq154, ccq155, caq156, ccq157, ca75, cc76, ca77, cc78, caq150, ccq151, caq152, ccq153, caq158, ccq159, caq160, ccq161, S64, S147, S74, S146, S148, r145, sinj H, j, hr, h⟩
            clear h hr a; rintro _ a w ⟨ca94, cc95, ca96, cc97, ca99, cc100, ca101, cc102, ca104, cc105, ca106, cc107, ca109, cc110, ca111, cc112, ca114, cc115, ca116, cc117, S93, S98, S103, S108, S113, g118, rfl, j, hr, h⟩
            replace H := kk6 hK119
            refine wp_seq ?_
            refine wp_seq ?_
            refine wp_region_lit ?_
            refine ovs [94, 95] [.bool g118, .bool (!g118)] hr ⟨rfl, rfl⟩ (by kernel_rfl) ?_; clear hr a; intro a hr
            refine wpList_nil ?_
            refine then_normal ?_
            by_cases c162 : g118 = true
            ·
              replace H := ifT c162 H
              refine cond_ff hr (b := (!g118)) (by rw [show g118 = true from (c162)]; rfl) ?_
              refine wp_skip ?_
              refine then_normal ?_
              refine wp_seq ?_
              refine wp_region_lit ?_
              refine ov hr (.bool p4) (by kernel_rfl) ?_; clear hr a; intro a hr
              refine wpList_nil ?_
              refine then_normal ?_
              by_cases c163 : p4 = true
              ·
                replace H := ifT c163 H
                refine cond_tt hr (b := p4) (c163) ?_
                refine wp_seq ?_
                refine wp_region_lit ?_
                replace H := bd1 H; obtain ⟨r164, e165, H⟩ := H
                refine ov hr (.pointer (some ⟨b41, 0, none⟩)) (by kernel_rfl) ?_; clear hr a; intro a hr
                replace h : Fit z (sepL (ob78 b41 S113 ca114 cc115 ca116 cc117 :: rn139 ca114 cc115 S113.numberLists :: rn142 ca116 cc117 S113.accessLists :: ob62 Bn4 S93 ca94 cc95 ca96 cc97 :: ro2 ca94 cc95 S93.Held :: ro90 ca96 cc97 S93.Book :: ob62 Bn12 S98 ca99 cc100 ca101 cc102 :: ro2 ca99 cc100 S98.Held :: ro90 ca101 cc102 S98.Book :: ob96 Bn21 S103 ca104 cc105 ca106 cc107 :: ro2 ca104 cc105 S103.cell :: ro90 ca106 cc107 S103.log :: ob96 Bn30 S108 ca109 cc110 ca111 cc112 :: ro2 ca109 cc110 S108.cell :: ro90 ca111 cc112 S108.log :: L)) _ := h.sel 15 [12, 13, 14, 0, 1, 2, 3, 4, 5, 6, 7, 8, 9, 10, 11] (by kernel_rfl) (by kernel_rfl)
                have hc := plunderlaw2_book_stands_ok (H := e165) (h := h)
                refine op_call (wn rfl) rfl rfl hr (f := 45) (args := #[.pointer (some ⟨b41, 0, none⟩)]) (by kernel_rfl) hc ?_; clear hc h
                rintro _ w ⟨rfl, h⟩; refine ⟨_, rfl, ?_⟩
                clear hr a; intro a hr
                refine ov hr (.bool r164) (by kernel_rfl) ?_; clear hr a; intro a hr
                refine wpList_nil ?_
                refine then_normal ?_
                refine wp_seq ?_
                refine wp_region_lit ?_
                refine ovs [99, 100] [.bool r164, .bool (!r164)] hr ⟨rfl, rfl⟩ (by kernel_rfl) ?_; clear hr a; intro a hr
                refine wpList_nil ?_
                refine then_normal ?_
                by_cases c166 : r164 = true
                ·
                  replace H := ifT c166 H
                  refine cond_ff hr (b := (!r164)) (by rw [show r164 = true from (c166)]; rfl) ?_
                  refine wp_skip ?_
                  refine blk_normal ?_
                  refine then_normal ?_
                  refine wp_region_lit ?_
                  refine ovs [71, 72, 20] [.int .i64 g89, .int .i64 (wi (g89 + (1 : Int))), .int .i64 (wi (g89 + (1 : Int)))] hr ⟨rfl, rfl⟩ (by kernel_rfl) ?_; clear hr a; intro a hr
                  refine wpList_nil ?_
                  refine then_normal ?_
                  replace hr := hr.fold2 [(2, .slice va2 p2.length vc2), (3, .bool p3), (4, .bool p4), (11, .pointer (some ⟨Bn4, 0, none⟩)), (13, .pointer (some ⟨Bn12, 0, none⟩)), (15, .pointer (some ⟨Bn21, 0, none⟩)), (17, .pointer (some ⟨Bn30, 0, none⟩)), (19, .pointer (some ⟨b41, 0, none⟩)), (20, .int .i64 (wi (g89 + (1 : Int))))] (by kernel_rfl); obtain ⟨j, hr⟩ := hr
                  replace h : Fit z (sepL (ob62 Bn4 S93 ca94 cc95 ca96 cc97 :: ro2 ca94 cc95 S93.Held :: ro90 ca96 cc97 S93.Book :: ob62 Bn12 S98 ca99 cc100 ca101 cc102 :: ro2 ca99 cc100 S98.Held :: ro90 ca101 cc102 S98.Book :: ob96 Bn21 S103 ca104 cc105 ca106 cc107 :: ro2 ca104 cc105 S103.cell :: ro90 ca106 cc107 S103.log :: ob96 Bn30 S108 ca109 cc110 ca111 cc112 :: ro2 ca109 cc110 S108.cell :: ro90 ca111 cc112 S108.log :: ob78 b41 S113 ca114 cc115 ca116 cc117 :: rn139 ca114 cc115 S113.numberLists :: rn142 ca116 cc117 S113.accessLists :: L)) _ := h.sel 15 [3, 4, 5, 6, 7, 8, 9, 10, 11, 12, 13, 14, 0, 1, 2] (by kernel_rfl) (by kernel_rfl)
                  exact ⟨_, ⟨ca94, cc95, ca96, cc97, ca99, cc100, ca101, cc102, ca104, cc105, ca106, cc107, ca109, cc110, ca111, cc112, ca114, cc115, ca116, cc117, S93, S98, S103, S108, S113, (wi (g89 + (1 : Int))), H, j, hr, h⟩, Nat.lt_succ_self _⟩
                ·
                  replace H := ifF c166 H
                  refine cond_tt hr (b := (!r164)) (by rw [show r164 = false from (bF c166)]; rfl) ?_
                  refine wp_seq ?_
                  refine wp_region_lit ?_
                  refine ov hr (.bool false) (by kernel_rfl) ?_; clear hr a; intro a hr
                  refine wpList_nil ?_
                  refine then_normal ?_
                  refine wp_ret ?_
                  refine blk_ret ?_
                  refine then_ret ?_
                  refine then_ret ?_
                  refine blk_ret ?_
                  refine then_ret ?_
                  refine end_ret1 (v := .bool false) rfl hr (by kernel_rfl) ?_
                  replace H := jx4 H hK62
                  replace h : Fit z (sepL (L)) _ := h.sel 15 [] (by kernel_rfl) (by kernel_rfl)
                  replace H := ej1 H; subst H
                  exact ⟨rfl, h⟩
              ·
                replace H := ifF c163 H
                refine cond_ff hr (b := p4) (bF c163) ?_
                refine wp_skip ?_
                refine blk_normal ?_
                refine then_normal ?_
                refine wp_region_lit ?_
                refine ovs [71, 72, 20] [.int .i64 g89, .int .i64 (wi (g89 + (1 : Int))), .int .i64 (wi (g89 + (1 : Int)))] hr ⟨rfl, rfl⟩ (by kernel_rfl) ?_; clear hr a; intro a hr
                refine wpList_nil ?_
                refine then_normal ?_
                replace hr := hr.fold2 [(2, .slice va2 p2.length vc2), (3, .bool p3), (4, .bool p4), (11, .pointer (some ⟨Bn4, 0, none⟩)), (13, .pointer (some ⟨Bn12, 0, none⟩)), (15, .pointer (some ⟨Bn21, 0, none⟩)), (17, .pointer (some ⟨Bn30, 0, none⟩)), (19, .pointer (some ⟨b41, 0, none⟩)), (20, .int .i64 (wi (g89 + (1 : Int))))] (by kernel_rfl); obtain ⟨j, hr⟩ := hr
                exact ⟨_, ⟨ca94, cc95, ca96, cc97, ca99, cc100, ca101, cc102, ca104, cc105, ca106, cc107, ca109, cc110, ca111, cc112, ca114, cc115, ca116, cc117, S93, S98, S103, S108, S113, (wi (g89 + (1 : Int))), H, j, hr, h⟩, Nat.lt_succ_self _⟩
            ·
              replace H := ifF c162 H
              refine cond_tt hr (b := (!g118)) (by rw [show g118 = false from (bF c162)]; rfl) ?_
              refine wp_seq ?_
              refine wp_region_lit ?_
              refine ov hr (.bool false) (by kernel_rfl) ?_; clear hr a; intro a hr
              refine wpList_nil ?_
              refine then_normal ?_
              refine wp_ret ?_
              refine then_ret ?_
              refine blk_ret ?_
              refine then_ret ?_
              refine then_ret ?_
              refine blk_ret ?_
              refine then_ret ?_
              refine end_ret1 (v := .bool false) rfl hr (by kernel_rfl) ?_
              replace H := jx4 H hK62
              replace h : Fit z (sepL (L)) _ := h.sel 15 [] (by kernel_rfl) (by kernel_rfl)
              replace H := ej1 H; subst H
              exact ⟨rfl, h⟩
          ·
            replace H := ifF c90 H
            refine cond_ff hr (b := (decide (g89 < ((p2.length : Nat) : Int)))) (decide_eq_false c90) ?_
            refine wp_exit ?_
            refine then_exit ?_
            refine then_exit ?_
            refine blk_here ?_
            refine then_normal ?_
            replace hr := hr.fold2 [(11, .pointer (some ⟨Bn4, 0, none⟩)), (13, .pointer (some ⟨Bn12, 0, none⟩)), (15, .pointer (some ⟨Bn21, 0, none⟩)), (17, .pointer (some ⟨Bn30, 0, none⟩))] (by kernel_rfl); obtain ⟨j, hr⟩ := hr
            replace h : Fit z (sepL (ob62 Bn4 S64 ca65 cc66 ca67 cc68 :: ro2 ca65 cc66 S64.Held :: ro90 ca67 cc68 S64.Book :: ob62 Bn12 S69 ca70 cc71 ca72 cc73 :: ro2 ca70 cc71 S69.Held :: ro90 ca72 cc73 S69.Book :: ob96 Bn21 S74 ca75 cc76 ca77 cc78 :: ro2 ca75 cc76 S74.cell :: ro90 ca77 cc78 S74.log :: ob96 Bn30 S79 ca80 cc81 ca82 cc83 :: ro2 ca80 cc81 S79.cell :: ro90 ca82 cc83 S79.log :: L)) _ := h.sel 15 [0, 1, 2, 3, 4, 5, 6, 7, 8, 9, 10, 11] (by kernel_rfl) (by kernel_rfl)
            exact ⟨(), ca65, cc66, ca67, cc68, ca70, cc71, ca72, cc73, ca75, cc76, ca77, cc78, ca80, cc81, ca82, cc83, S64, S69, S74, S79, sinj H, j, hr, h⟩
      clear h hr a; rintro _ a w ⟨ca43, cc44, ca45, cc46, ca48, cc49, ca50, cc51, ca53, cc54, ca55, cc56, ca58, cc59, ca60, cc61, S42, S47, S52, S57, rfl, j, hr, h⟩
      replace H := jk4 hK62
      replace H := jd0 H; obtain ⟨o168, H, hK167⟩ := H
      refine cut_rule (β := Unit) (fun _ a w => .inl () = o168 ∧ ∃ j, Rep 141 (lk [(11, .pointer (some ⟨Bn4, 0, none⟩)), (13, .pointer (some ⟨Bn12, 0, none⟩)), (15, .pointer (some ⟨Bn21, 0, none⟩)), (17, .pointer (some ⟨Bn30, 0, none⟩))] j) a ∧ Fit z (sepL (ob62 Bn4 S42 ca43 cc44 ca45 cc46 :: ro2 ca43 cc44 S42.Held :: ro90 ca45 cc46 S42.Book :: ob62 Bn12 S47 ca48 cc49 ca50 cc51 :: ro2 ca48 cc49 S47.Held :: ro90 ca50 cc51 S47.Book :: ob96 Bn21 S52 ca53 cc54 ca55 cc56 :: ro2 ca53 cc54 S52.cell :: ro90 ca55 cc56 S52.log :: ob96 Bn30 S57 ca58 cc59 ca60 cc61 :: ro2 ca58 cc59 S57.cell :: ro90 ca60 cc61 S57.log :: L)) w) ?_ ?_
      ·
        refine wp_seq ?_
        refine wp_region_lit ?_
        refine ovs [101, 102, 103] [.pointer (some ⟨Bn21, 0, none⟩), .bool false, .bool false] hr ⟨rfl, rfl⟩ (by kernel_rfl) ?_; clear hr a; intro a hr
        refine op_val ((wg hr rfl rfl rfl (b' := false) (by kernel_rfl)).trans rfl) rfl rfl hr (v := .pointer (some ⟨Bn30, 0, none⟩)) (by kernel_rfl) ?_; clear hr a; intro a hr
        refine op_val ((wg hr rfl rfl rfl (b' := false) (by kernel_rfl)).trans rfl) rfl rfl hr (v := .bool false) (by kernel_rfl) ?_; clear hr a; intro a hr
        refine ov hr (.bool false) (by kernel_rfl) ?_; clear hr a; intro a hr
        refine wpList_nil ?_
        refine then_normal ?_
        refine cond_ff hr (b := false) rfl ?_
        refine wp_skip ?_
        refine then_normal ?_
        replace hr := hr.fold2 [(11, .pointer (some ⟨Bn4, 0, none⟩)), (13, .pointer (some ⟨Bn12, 0, none⟩)), (15, .pointer (some ⟨Bn21, 0, none⟩)), (17, .pointer (some ⟨Bn30, 0, none⟩))] (by kernel_rfl); obtain ⟨j, hr⟩ := hr
        exact ⟨(), sinj H, j, hr, h⟩
      clear h hr a; rintro _ a w ⟨rfl, j, hr, h⟩
      replace H := jk0 hK167
      refine wp_seq ?_
      replace H := bd1 H; obtain ⟨r169, e170, H⟩ := H
      replace H := bd1 H; obtain ⟨r172, e173, H⟩ := H
      by_cases c174 : r172 = true
      ·
        replace H := ifT c174 H
        replace H := bd1 H; obtain ⟨r175, e176, H⟩ := H
        replace H := bd1 H; obtain ⟨r178, e179, H⟩ := H
        by_cases c180 : r178 = true
        ·
          replace H := ifT c180 H
          replace H := bd1 H; obtain ⟨r181, e182, H⟩ := H
          replace H := bd1 H; obtain ⟨r184, e185, H⟩ := H
          by_cases c186 : r184 = true
          ·
            replace H := ifT c186 H
            replace H := bd1 H; obtain ⟨r187, e188, H⟩ := H
            replace H := bd1 H; obtain ⟨r190, e191, H⟩ := H
            refine reg_E (fun w => heldC w Bn4 1 [.slice ca43 S42.Held.length cc44] ∧ heldC w Bn12 1 [.slice ca48 S47.Held.length cc49] ∧ heldC w Bn4 4 [.slice ca45 S42.Book.length cc46] ∧ heldC w Bn12 4 [.slice ca50 S47.Book.length cc51] ∧ True) [1, 3, 4, 6, 9, 11, 12, 14, 18, 20, 21, 23, 27, 29, 30] h (by kernel_rfl) ?_; intro w h
            change wpAnyE _ _ _ _ _ _ 35 (Array.replicate 35 false) a w
            have hgo : ∀ w w', CellsGo w w' → (heldC w Bn4 1 [.slice ca43 S42.Held.length cc44] ∧ heldC w Bn12 1 [.slice ca48 S47.Held.length cc49] ∧ heldC w Bn4 4 [.slice ca45 S42.Book.length cc46] ∧ heldC w Bn12 4 [.slice ca50 S47.Book.length cc51] ∧ True) → heldC w' Bn4 1 [.slice ca43 S42.Held.length cc44] ∧ heldC w' Bn12 1 [.slice ca48 S47.Held.length cc49] ∧ heldC w' Bn4 4 [.slice ca45 S42.Book.length cc46] ∧ heldC w' Bn12 4 [.slice ca50 S47.Book.length cc51] ∧ True := fun w w' g hD => ⟨heldC_go _ _ _ _ _ g hD.1, heldC_go _ _ _ _ _ g hD.2.1, heldC_go _ _ _ _ _ g hD.2.2.1, heldC_go _ _ _ _ _ g hD.2.2.2.1, trivial⟩
            refine ev 34 0 rfl (by kernel_rfl) (wn rfl) hr (.pointer (some ⟨Bn21, 0, none⟩)) (fun w => by kernel_rfl) ?_; clear hr a; intro a hr
            refine ev 33 2 rfl (by kernel_rfl) (wn rfl) hr (.pointer (some ⟨Bn4, 0, none⟩)) (fun w => by kernel_rfl) ?_; clear hr a; intro a hr
            refine evD hgo ⟨⟨h.cell 1 rfl, trivial⟩, ⟨(h.pick 3).cell 1 rfl, trivial⟩, ⟨h.cell 4 rfl, trivial⟩, ⟨(h.pick 3).cell 4 rfl, trivial⟩, trivial⟩ 32 3 rfl (by kernel_rfl) (wn rfl) hr (.pointer (some ⟨Bn4, 0, none⟩)) (fun w => by kernel_rfl) ?_; clear hr a; intro a hr
            refine evD hgo ⟨⟨h.cell 1 rfl, trivial⟩, ⟨(h.pick 3).cell 1 rfl, trivial⟩, ⟨h.cell 4 rfl, trivial⟩, ⟨(h.pick 3).cell 4 rfl, trivial⟩, trivial⟩ 31 4 rfl (by kernel_rfl) (wn rfl) hr (.pointer (some ⟨Bn4, 1, none⟩)) (fun w => by kernel_rfl) ?_; clear hr a; intro a hr
            refine el [1, 3, 4, 6, 9, 11, 12, 14, 18, 20, 21, 23, 27, 29, 30] (b := Bn4) (off := 1) (cs := [.slice ca43 S42.Held.length cc44]) (fun _ hk => ⟨hk, fun w hD => hD.1⟩) 30 5 rfl (by kernel_rfl) (wn rfl) hr (.slice ca43 S42.Held.length cc44) ⟨h.cell 1 rfl, trivial⟩ (fun w hc => rl rfl (by kernel_rfl) (by kernel_rfl) hc.1) ?_; clear hr a; intro a hr
            refine e_one (fuel := 29) (i := 1) (by kernel_rfl) rfl ?_
            replace h : Fit z (sepL (ob96 Bn21 S52 ca53 cc54 ca55 cc56 :: ro2 ca53 cc54 S52.cell :: ro90 ca55 cc56 S52.log :: ob62 Bn4 S42 ca43 cc44 ca45 cc46 :: ro2 ca43 cc44 S42.Held :: ro90 ca45 cc46 S42.Book :: ob62 Bn12 S47 ca48 cc49 ca50 cc51 :: ro2 ca48 cc49 S47.Held :: ro90 ca50 cc51 S47.Book :: ob96 Bn30 S57 ca58 cc59 ca60 cc61 :: ro2 ca58 cc59 S57.cell :: ro90 ca60 cc61 S57.log :: L)) _ := h.sel 12 [6, 7, 8, 0, 1, 2, 3, 4, 5, 9, 10, 11] (by kernel_rfl) (by kernel_rfl)
            have hc := cells_Arena_Cells_ok (H := e170) (h := h)
            refine op_call (wn rfl) rfl rfl hr (f := 24) (args := #[.pointer (some ⟨Bn21, 0, none⟩)]) (by kernel_rfl) hc ?_; clear hc h
            rintro _ w ⟨car171, rfl, h⟩; refine ⟨_, rfl, ?_⟩
            clear hr a; intro a hr
            refine wpList_nil ?_; refine then_normal ?_
            refine ⟨fun _ => ⟨⟨(h.pick 4).cell 1 rfl, trivial⟩, ⟨(h.pick 7).cell 1 rfl, trivial⟩, ⟨(h.pick 4).cell 4 rfl, trivial⟩, ⟨(h.pick 7).cell 4 rfl, trivial⟩, trivial⟩, ?_⟩
            refine e_one (fuel := 28) (i := 6) (by kernel_rfl) rfl ?_
            have hc := plunderlaw2_sameNumbers_ok (va0 := car171) (vc0 := r169.length) (va1 := ca43) (vc1 := cc44) (hv0 := (RdRow.of_row encZ_i64_ok (h.pick 3) (fun h => (h.pick 3)))) (hv1 := (RdRow.of_row encZ_i64_ok (h.pick 5) (fun h => (h.pick 5)))) (H := e173) (h := h)
            refine op_call (wn rfl) rfl rfl hr (f := 40) (args := #[.slice car171 r169.length r169.length, .slice ca43 S42.Held.length cc44]) (by kernel_rfl) hc ?_; clear hc h
            rintro _ w ⟨rfl, h⟩; refine ⟨_, rfl, ?_⟩
            clear hr a; intro a hr
            refine wpList_nil ?_; refine then_normal ?_
            refine ⟨fun _ => ⟨⟨(h.pick 4).cell 1 rfl, trivial⟩, ⟨(h.pick 7).cell 1 rfl, trivial⟩, ⟨(h.pick 4).cell 4 rfl, trivial⟩, ⟨(h.pick 7).cell 4 rfl, trivial⟩, trivial⟩, ?_⟩
            refine ev 27 7 rfl (by kernel_rfl) (wn rfl) hr (.bool r172) (fun w => by kernel_rfl) ?_; clear hr a; intro a hr
            refine ev 26 8 rfl (by kernel_rfl) ((wg hr rfl rfl rfl (b' := r172) (by kernel_rfl)).trans (by rw [show r172 = true from (c174)]; rfl)) hr (.pointer (some ⟨Bn30, 0, none⟩)) (fun w => by kernel_rfl) ?_; clear hr a; intro a hr
            refine ev 25 10 rfl (by kernel_rfl) ((wg hr rfl rfl rfl (b' := r172) (by kernel_rfl)).trans (by rw [show r172 = true from (c174)]; rfl)) hr (.pointer (some ⟨Bn12, 0, none⟩)) (fun w => by kernel_rfl) ?_; clear hr a; intro a hr
            refine evD hgo ⟨⟨(h.pick 4).cell 1 rfl, trivial⟩, ⟨(h.pick 7).cell 1 rfl, trivial⟩, ⟨(h.pick 4).cell 4 rfl, trivial⟩, ⟨(h.pick 7).cell 4 rfl, trivial⟩, trivial⟩ 24 11 rfl (by kernel_rfl) ((wg hr rfl rfl rfl (b' := r172) (by kernel_rfl)).trans (by rw [show r172 = true from (c174)]; rfl)) hr (.pointer (some ⟨Bn12, 0, none⟩)) (fun w => by kernel_rfl) ?_; clear hr a; intro a hr
            refine evD hgo ⟨⟨(h.pick 4).cell 1 rfl, trivial⟩, ⟨(h.pick 7).cell 1 rfl, trivial⟩, ⟨(h.pick 4).cell 4 rfl, trivial⟩, ⟨(h.pick 7).cell 4 rfl, trivial⟩, trivial⟩ 23 12 rfl (by kernel_rfl) ((wg hr rfl rfl rfl (b' := r172) (by kernel_rfl)).trans (by rw [show r172 = true from (c174)]; rfl)) hr (.pointer (some ⟨Bn12, 1, none⟩)) (fun w => by kernel_rfl) ?_; clear hr a; intro a hr
            refine el [1, 3, 4, 6, 9, 11, 12, 14, 18, 20, 21, 23, 27, 29, 30] (b := Bn12) (off := 1) (cs := [.slice ca48 S47.Held.length cc49]) (fun _ hk => ⟨hk, fun w hD => hD.2.1⟩) 22 13 rfl (by kernel_rfl) ((wg hr rfl rfl rfl (b' := r172) (by kernel_rfl)).trans (by rw [show r172 = true from (c174)]; rfl)) hr (.slice ca48 S47.Held.length cc49) ⟨(h.pick 7).cell 1 rfl, trivial⟩ (fun w hc => rl rfl (by kernel_rfl) (by kernel_rfl) hc.1) ?_; clear hr a; intro a hr
            refine e_one (fuel := 21) (i := 9) (by kernel_rfl) rfl ?_
            replace h : Fit z (sepL (ob96 Bn30 S57 ca58 cc59 ca60 cc61 :: ro2 ca58 cc59 S57.cell :: ro90 ca60 cc61 S57.log :: ob96 Bn21 S52 ca53 cc54 ca55 cc56 :: ro2 ca53 cc54 S52.cell :: ro90 ca55 cc56 S52.log :: ro2 car171 r169.length r169 :: ob62 Bn4 S42 ca43 cc44 ca45 cc46 :: ro2 ca43 cc44 S42.Held :: ro90 ca45 cc46 S42.Book :: ob62 Bn12 S47 ca48 cc49 ca50 cc51 :: ro2 ca48 cc49 S47.Held :: ro90 ca50 cc51 S47.Book :: L)) _ := h.sel 13 [10, 11, 12, 0, 1, 2, 3, 4, 5, 6, 7, 8, 9] (by kernel_rfl) (by kernel_rfl)
            have hc := cells_Arena_Cells_ok (H := e176) (h := h)
            refine op_call ((wg hr rfl rfl rfl (b' := r172) (by kernel_rfl)).trans (by rw [show r172 = true from (c174)]; rfl)) rfl rfl hr (f := 24) (args := #[.pointer (some ⟨Bn30, 0, none⟩)]) (by kernel_rfl) hc ?_; clear hc h
            rintro _ w ⟨car177, rfl, h⟩; refine ⟨_, rfl, ?_⟩
            clear hr a; intro a hr
            refine wpList_nil ?_; refine then_normal ?_
            refine ⟨fun _ => ⟨⟨(h.pick 8).cell 1 rfl, trivial⟩, ⟨(h.pick 11).cell 1 rfl, trivial⟩, ⟨(h.pick 8).cell 4 rfl, trivial⟩, ⟨(h.pick 11).cell 4 rfl, trivial⟩, trivial⟩, ?_⟩
            refine e_one (fuel := 20) (i := 14) (by kernel_rfl) rfl ?_
            have hc := plunderlaw2_sameNumbers_ok (va0 := car177) (vc0 := r175.length) (va1 := ca48) (vc1 := cc49) (hv0 := (RdRow.of_row encZ_i64_ok (h.pick 3) (fun h => (h.pick 3)))) (hv1 := (RdRow.of_row encZ_i64_ok (h.pick 12) (fun h => (h.pick 12)))) (H := e179) (h := h)
            refine op_call ((wg hr rfl rfl rfl (b' := r172) (by kernel_rfl)).trans (by rw [show r172 = true from (c174)]; rfl)) rfl rfl hr (f := 40) (args := #[.slice car177 r175.length r175.length, .slice ca48 S47.Held.length cc49]) (by kernel_rfl) hc ?_; clear hc h
            rintro _ w ⟨rfl, h⟩; refine ⟨_, rfl, ?_⟩
            clear hr a; intro a hr
            refine wpList_nil ?_; refine then_normal ?_
            refine ⟨fun _ => ⟨⟨(h.pick 8).cell 1 rfl, trivial⟩, ⟨(h.pick 11).cell 1 rfl, trivial⟩, ⟨(h.pick 8).cell 4 rfl, trivial⟩, ⟨(h.pick 11).cell 4 rfl, trivial⟩, trivial⟩, ?_⟩
            refine ev 19 15 rfl (by kernel_rfl) (wn rfl) hr (.bool r178) (fun w => rp_t (b := r172) rfl (by kernel_rfl) (c174) (by kernel_rfl)) ?_; clear hr a; intro a hr
            refine ev 18 16 rfl (by kernel_rfl) (wn rfl) hr (.bool r178) (fun w => by kernel_rfl) ?_; clear hr a; intro a hr
            refine ev 17 17 rfl (by kernel_rfl) ((wg hr rfl rfl rfl (b' := r178) (by kernel_rfl)).trans (by rw [show r178 = true from (c180)]; rfl)) hr (.pointer (some ⟨Bn21, 0, none⟩)) (fun w => by kernel_rfl) ?_; clear hr a; intro a hr
            refine ev 16 19 rfl (by kernel_rfl) ((wg hr rfl rfl rfl (b' := r178) (by kernel_rfl)).trans (by rw [show r178 = true from (c180)]; rfl)) hr (.pointer (some ⟨Bn4, 0, none⟩)) (fun w => by kernel_rfl) ?_; clear hr a; intro a hr
            refine evD hgo ⟨⟨(h.pick 8).cell 1 rfl, trivial⟩, ⟨(h.pick 11).cell 1 rfl, trivial⟩, ⟨(h.pick 8).cell 4 rfl, trivial⟩, ⟨(h.pick 11).cell 4 rfl, trivial⟩, trivial⟩ 15 20 rfl (by kernel_rfl) ((wg hr rfl rfl rfl (b' := r178) (by kernel_rfl)).trans (by rw [show r178 = true from (c180)]; rfl)) hr (.pointer (some ⟨Bn4, 0, none⟩)) (fun w => by kernel_rfl) ?_; clear hr a; intro a hr
            refine evD hgo ⟨⟨(h.pick 8).cell 1 rfl, trivial⟩, ⟨(h.pick 11).cell 1 rfl, trivial⟩, ⟨(h.pick 8).cell 4 rfl, trivial⟩, ⟨(h.pick 11).cell 4 rfl, trivial⟩, trivial⟩ 14 21 rfl (by kernel_rfl) ((wg hr rfl rfl rfl (b' := r178) (by kernel_rfl)).trans (by rw [show r178 = true from (c180)]; rfl)) hr (.pointer (some ⟨Bn4, 4, none⟩)) (fun w => by kernel_rfl) ?_; clear hr a; intro a hr
            refine el [1, 3, 4, 6, 9, 11, 12, 14, 18, 20, 21, 23, 27, 29, 30] (b := Bn4) (off := 4) (cs := [.slice ca45 S42.Book.length cc46]) (fun _ hk => ⟨hk, fun w hD => hD.2.2.1⟩) 13 22 rfl (by kernel_rfl) ((wg hr rfl rfl rfl (b' := r178) (by kernel_rfl)).trans (by rw [show r178 = true from (c180)]; rfl)) hr (.slice ca45 S42.Book.length cc46) ⟨(h.pick 8).cell 4 rfl, trivial⟩ (fun w hc => rl rfl (by kernel_rfl) (by kernel_rfl) hc.1) ?_; clear hr a; intro a hr
            refine e_one (fuel := 12) (i := 18) (by kernel_rfl) rfl ?_
            replace h : Fit z (sepL (ob96 Bn21 S52 ca53 cc54 ca55 cc56 :: ro2 ca53 cc54 S52.cell :: ro90 ca55 cc56 S52.log :: ob96 Bn30 S57 ca58 cc59 ca60 cc61 :: ro2 ca58 cc59 S57.cell :: ro90 ca60 cc61 S57.log :: ro2 car177 r175.length r175 :: ro2 car171 r169.length r169 :: ob62 Bn4 S42 ca43 cc44 ca45 cc46 :: ro2 ca43 cc44 S42.Held :: ro90 ca45 cc46 S42.Book :: ob62 Bn12 S47 ca48 cc49 ca50 cc51 :: ro2 ca48 cc49 S47.Held :: ro90 ca50 cc51 S47.Book :: L)) _ := h.sel 14 [4, 5, 6, 0, 1, 2, 3, 7, 8, 9, 10, 11, 12, 13] (by kernel_rfl) (by kernel_rfl)
            have hc := cells_Arena_Log_ok (H := e182) (h := h)
            refine op_call ((wg hr rfl rfl rfl (b' := r178) (by kernel_rfl)).trans (by rw [show r178 = true from (c180)]; rfl)) rfl rfl hr (f := 70) (args := #[.pointer (some ⟨Bn21, 0, none⟩)]) (by kernel_rfl) hc ?_; clear hc h
            rintro _ w ⟨car183, rfl, h⟩; refine ⟨_, rfl, ?_⟩
            clear hr a; intro a hr
            refine wpList_nil ?_; refine then_normal ?_
            refine ⟨fun _ => ⟨⟨(h.pick 9).cell 1 rfl, trivial⟩, ⟨(h.pick 12).cell 1 rfl, trivial⟩, ⟨(h.pick 9).cell 4 rfl, trivial⟩, ⟨(h.pick 12).cell 4 rfl, trivial⟩, trivial⟩, ?_⟩
            refine e_one (fuel := 11) (i := 23) (by kernel_rfl) rfl ?_
            have hc := plunderlaw2_sameLog_ok (va0 := car183) (vc0 := r181.length) (va1 := ca45) (vc1 := cc46) (hv0 := (RdRow.of_row enc_T_api_Access_ok (h.pick 3) (fun h => (h.pick 3)))) (hv1 := (RdRow.of_row enc_T_api_Access_ok (h.pick 11) (fun h => (h.pick 11)))) (H := e185) (h := h)
            refine op_call ((wg hr rfl rfl rfl (b' := r178) (by kernel_rfl)).trans (by rw [show r178 = true from (c180)]; rfl)) rfl rfl hr (f := 41) (args := #[.slice car183 r181.length r181.length, .slice ca45 S42.Book.length cc46]) (by kernel_rfl) hc ?_; clear hc h
            rintro _ w ⟨rfl, h⟩; refine ⟨_, rfl, ?_⟩
            clear hr a; intro a hr
            refine wpList_nil ?_; refine then_normal ?_
            refine ⟨fun _ => ⟨⟨(h.pick 9).cell 1 rfl, trivial⟩, ⟨(h.pick 12).cell 1 rfl, trivial⟩, ⟨(h.pick 9).cell 4 rfl, trivial⟩, ⟨(h.pick 12).cell 4 rfl, trivial⟩, trivial⟩, ?_⟩
            refine ev 10 24 rfl (by kernel_rfl) (wn rfl) hr (.bool r184) (fun w => rp_t (b := r178) rfl (by kernel_rfl) (c180) (by kernel_rfl)) ?_; clear hr a; intro a hr
            refine ev 9 25 rfl (by kernel_rfl) (wn rfl) hr (.bool r184) (fun w => by kernel_rfl) ?_; clear hr a; intro a hr
            refine ev 8 26 rfl (by kernel_rfl) ((wg hr rfl rfl rfl (b' := r184) (by kernel_rfl)).trans (by rw [show r184 = true from (c186)]; rfl)) hr (.pointer (some ⟨Bn30, 0, none⟩)) (fun w => by kernel_rfl) ?_; clear hr a; intro a hr
            refine ev 7 28 rfl (by kernel_rfl) ((wg hr rfl rfl rfl (b' := r184) (by kernel_rfl)).trans (by rw [show r184 = true from (c186)]; rfl)) hr (.pointer (some ⟨Bn12, 0, none⟩)) (fun w => by kernel_rfl) ?_; clear hr a; intro a hr
            refine evD hgo ⟨⟨(h.pick 9).cell 1 rfl, trivial⟩, ⟨(h.pick 12).cell 1 rfl, trivial⟩, ⟨(h.pick 9).cell 4 rfl, trivial⟩, ⟨(h.pick 12).cell 4 rfl, trivial⟩, trivial⟩ 6 29 rfl (by kernel_rfl) ((wg hr rfl rfl rfl (b' := r184) (by kernel_rfl)).trans (by rw [show r184 = true from (c186)]; rfl)) hr (.pointer (some ⟨Bn12, 0, none⟩)) (fun w => by kernel_rfl) ?_; clear hr a; intro a hr
            refine evD hgo ⟨⟨(h.pick 9).cell 1 rfl, trivial⟩, ⟨(h.pick 12).cell 1 rfl, trivial⟩, ⟨(h.pick 9).cell 4 rfl, trivial⟩, ⟨(h.pick 12).cell 4 rfl, trivial⟩, trivial⟩ 5 30 rfl (by kernel_rfl) ((wg hr rfl rfl rfl (b' := r184) (by kernel_rfl)).trans (by rw [show r184 = true from (c186)]; rfl)) hr (.pointer (some ⟨Bn12, 4, none⟩)) (fun w => by kernel_rfl) ?_; clear hr a; intro a hr
            refine el [1, 3, 4, 6, 9, 11, 12, 14, 18, 20, 21, 23, 27, 29, 30] (b := Bn12) (off := 4) (cs := [.slice ca50 S47.Book.length cc51]) (fun _ hk => ⟨hk, fun w hD => hD.2.2.2.1⟩) 4 31 rfl (by kernel_rfl) ((wg hr rfl rfl rfl (b' := r184) (by kernel_rfl)).trans (by rw [show r184 = true from (c186)]; rfl)) hr (.slice ca50 S47.Book.length cc51) ⟨(h.pick 12).cell 4 rfl, trivial⟩ (fun w hc => rl rfl (by kernel_rfl) (by kernel_rfl) hc.1) ?_; clear hr a; intro a hr
            refine e_one (fuel := 3) (i := 27) (by kernel_rfl) rfl ?_
            replace h : Fit z (sepL (ob96 Bn30 S57 ca58 cc59 ca60 cc61 :: ro2 ca58 cc59 S57.cell :: ro90 ca60 cc61 S57.log :: ob96 Bn21 S52 ca53 cc54 ca55 cc56 :: ro2 ca53 cc54 S52.cell :: ro90 ca55 cc56 S52.log :: ro90 car183 r181.length r181 :: ro2 car177 r175.length r175 :: ro2 car171 r169.length r169 :: ob62 Bn4 S42 ca43 cc44 ca45 cc46 :: ro2 ca43 cc44 S42.Held :: ro90 ca45 cc46 S42.Book :: ob62 Bn12 S47 ca48 cc49 ca50 cc51 :: ro2 ca48 cc49 S47.Held :: ro90 ca50 cc51 S47.Book :: L)) _ := h.sel 15 [4, 5, 6, 0, 1, 2, 3, 7, 8, 9, 10, 11, 12, 13, 14] (by kernel_rfl) (by kernel_rfl)
            have hc := cells_Arena_Log_ok (H := e188) (h := h)
            refine op_call ((wg hr rfl rfl rfl (b' := r184) (by kernel_rfl)).trans (by rw [show r184 = true from (c186)]; rfl)) rfl rfl hr (f := 70) (args := #[.pointer (some ⟨Bn30, 0, none⟩)]) (by kernel_rfl) hc ?_; clear hc h
            rintro _ w ⟨car189, rfl, h⟩; refine ⟨_, rfl, ?_⟩
            clear hr a; intro a hr
            refine wpList_nil ?_; refine then_normal ?_
            refine ⟨fun _ => ⟨⟨(h.pick 10).cell 1 rfl, trivial⟩, ⟨(h.pick 13).cell 1 rfl, trivial⟩, ⟨(h.pick 10).cell 4 rfl, trivial⟩, ⟨(h.pick 13).cell 4 rfl, trivial⟩, trivial⟩, ?_⟩
            refine e_one (fuel := 2) (i := 32) (by kernel_rfl) rfl ?_
            have hc := plunderlaw2_sameLog_ok (va0 := car189) (vc0 := r187.length) (va1 := ca50) (vc1 := cc51) (hv0 := (RdRow.of_row enc_T_api_Access_ok (h.pick 3) (fun h => (h.pick 3)))) (hv1 := (RdRow.of_row enc_T_api_Access_ok (h.pick 15) (fun h => (h.pick 15)))) (H := e191) (h := h)
            refine op_call ((wg hr rfl rfl rfl (b' := r184) (by kernel_rfl)).trans (by rw [show r184 = true from (c186)]; rfl)) rfl rfl hr (f := 41) (args := #[.slice car189 r187.length r187.length, .slice ca50 S47.Book.length cc51]) (by kernel_rfl) hc ?_; clear hc h
            rintro _ w ⟨rfl, h⟩; refine ⟨_, rfl, ?_⟩
            clear hr a; intro a hr
            refine wpList_nil ?_; refine then_normal ?_
            refine ⟨fun hE => absurd hE (by decide), ?_⟩
            refine ev 1 33 rfl (by kernel_rfl) (wn rfl) hr (.bool r190) (fun w => rp_t (b := r184) rfl (by kernel_rfl) (c186) (by kernel_rfl)) ?_; clear hr a; intro a hr
            refine ev 0 34 rfl (by kernel_rfl) (wn rfl) hr (.bool r190) (fun w => by kernel_rfl) ?_; clear hr a; intro a hr
            refine e_end (by kernel_rfl) ?_
            refine then_normal ?_
            refine wp_ret ?_
            refine end_ret1 (v := .bool r190) rfl hr (by kernel_rfl) ?_
            replace h : Fit z (sepL (L)) _ := h.sel 16 [] (by kernel_rfl) (by kernel_rfl)
            replace H := ej1 H; subst H
            exact ⟨rfl, h⟩
          ·
            replace H := ifF c186 H
            refine reg_E (fun w => heldC w Bn4 1 [.slice ca43 S42.Held.length cc44] ∧ heldC w Bn12 1 [.slice ca48 S47.Held.length cc49] ∧ heldC w Bn4 4 [.slice ca45 S42.Book.length cc46] ∧ True) [1, 3, 4, 6, 9, 11, 12, 14, 18, 20, 21] h (by kernel_rfl) ?_; intro w h
            change wpAnyE _ _ _ _ _ _ 35 (Array.replicate 35 false) a w
            have hgo : ∀ w w', CellsGo w w' → (heldC w Bn4 1 [.slice ca43 S42.Held.length cc44] ∧ heldC w Bn12 1 [.slice ca48 S47.Held.length cc49] ∧ heldC w Bn4 4 [.slice ca45 S42.Book.length cc46] ∧ True) → heldC w' Bn4 1 [.slice ca43 S42.Held.length cc44] ∧ heldC w' Bn12 1 [.slice ca48 S47.Held.length cc49] ∧ heldC w' Bn4 4 [.slice ca45 S42.Book.length cc46] ∧ True := fun w w' g hD => ⟨heldC_go _ _ _ _ _ g hD.1, heldC_go _ _ _ _ _ g hD.2.1, heldC_go _ _ _ _ _ g hD.2.2.1, trivial⟩
            refine ev 34 0 rfl (by kernel_rfl) (wn rfl) hr (.pointer (some ⟨Bn21, 0, none⟩)) (fun w => by kernel_rfl) ?_; clear hr a; intro a hr
            refine ev 33 2 rfl (by kernel_rfl) (wn rfl) hr (.pointer (some ⟨Bn4, 0, none⟩)) (fun w => by kernel_rfl) ?_; clear hr a; intro a hr
            refine evD hgo ⟨⟨h.cell 1 rfl, trivial⟩, ⟨(h.pick 3).cell 1 rfl, trivial⟩, ⟨h.cell 4 rfl, trivial⟩, trivial⟩ 32 3 rfl (by kernel_rfl) (wn rfl) hr (.pointer (some ⟨Bn4, 0, none⟩)) (fun w => by kernel_rfl) ?_; clear hr a; intro a hr
            refine evD hgo ⟨⟨h.cell 1 rfl, trivial⟩, ⟨(h.pick 3).cell 1 rfl, trivial⟩, ⟨h.cell 4 rfl, trivial⟩, trivial⟩ 31 4 rfl (by kernel_rfl) (wn rfl) hr (.pointer (some ⟨Bn4, 1, none⟩)) (fun w => by kernel_rfl) ?_; clear hr a; intro a hr
            refine el [1, 3, 4, 6, 9, 11, 12, 14, 18, 20, 21] (b := Bn4) (off := 1) (cs := [.slice ca43 S42.Held.length cc44]) (fun _ hk => ⟨hk, fun w hD => hD.1⟩) 30 5 rfl (by kernel_rfl) (wn rfl) hr (.slice ca43 S42.Held.length cc44) ⟨h.cell 1 rfl, trivial⟩ (fun w hc => rl rfl (by kernel_rfl) (by kernel_rfl) hc.1) ?_; clear hr a; intro a hr
            refine e_one (fuel := 29) (i := 1) (by kernel_rfl) rfl ?_
            replace h : Fit z (sepL (ob96 Bn21 S52 ca53 cc54 ca55 cc56 :: ro2 ca53 cc54 S52.cell :: ro90 ca55 cc56 S52.log :: ob62 Bn4 S42 ca43 cc44 ca45 cc46 :: ro2 ca43 cc44 S42.Held :: ro90 ca45 cc46 S42.Book :: ob62 Bn12 S47 ca48 cc49 ca50 cc51 :: ro2 ca48 cc49 S47.Held :: ro90 ca50 cc51 S47.Book :: ob96 Bn30 S57 ca58 cc59 ca60 cc61 :: ro2 ca58 cc59 S57.cell :: ro90 ca60 cc61 S57.log :: L)) _ := h.sel 12 [6, 7, 8, 0, 1, 2, 3, 4, 5, 9, 10, 11] (by kernel_rfl) (by kernel_rfl)
            have hc := cells_Arena_Cells_ok (H := e170) (h := h)
            refine op_call (wn rfl) rfl rfl hr (f := 24) (args := #[.pointer (some ⟨Bn21, 0, none⟩)]) (by kernel_rfl) hc ?_; clear hc h
            rintro _ w ⟨car171, rfl, h⟩; refine ⟨_, rfl, ?_⟩
            clear hr a; intro a hr
            refine wpList_nil ?_; refine then_normal ?_
            refine ⟨fun _ => ⟨⟨(h.pick 4).cell 1 rfl, trivial⟩, ⟨(h.pick 7).cell 1 rfl, trivial⟩, ⟨(h.pick 4).cell 4 rfl, trivial⟩, trivial⟩, ?_⟩
            refine e_one (fuel := 28) (i := 6) (by kernel_rfl) rfl ?_
            have hc := plunderlaw2_sameNumbers_ok (va0 := car171) (vc0 := r169.length) (va1 := ca43) (vc1 := cc44) (hv0 := (RdRow.of_row encZ_i64_ok (h.pick 3) (fun h => (h.pick 3)))) (hv1 := (RdRow.of_row encZ_i64_ok (h.pick 5) (fun h => (h.pick 5)))) (H := e173) (h := h)
            refine op_call (wn rfl) rfl rfl hr (f := 40) (args := #[.slice car171 r169.length r169.length, .slice ca43 S42.Held.length cc44]) (by kernel_rfl) hc ?_; clear hc h
            rintro _ w ⟨rfl, h⟩; refine ⟨_, rfl, ?_⟩
            clear hr a; intro a hr
            refine wpList_nil ?_; refine then_normal ?_
            refine ⟨fun _ => ⟨⟨(h.pick 4).cell 1 rfl, trivial⟩, ⟨(h.pick 7).cell 1 rfl, trivial⟩, ⟨(h.pick 4).cell 4 rfl, trivial⟩, trivial⟩, ?_⟩
            refine ev 27 7 rfl (by kernel_rfl) (wn rfl) hr (.bool r172) (fun w => by kernel_rfl) ?_; clear hr a; intro a hr
            refine ev 26 8 rfl (by kernel_rfl) ((wg hr rfl rfl rfl (b' := r172) (by kernel_rfl)).trans (by rw [show r172 = true from (c174)]; rfl)) hr (.pointer (some ⟨Bn30, 0, none⟩)) (fun w => by kernel_rfl) ?_; clear hr a; intro a hr
            refine ev 25 10 rfl (by kernel_rfl) ((wg hr rfl rfl rfl (b' := r172) (by kernel_rfl)).trans (by rw [show r172 = true from (c174)]; rfl)) hr (.pointer (some ⟨Bn12, 0, none⟩)) (fun w => by kernel_rfl) ?_; clear hr a; intro a hr
            refine evD hgo ⟨⟨(h.pick 4).cell 1 rfl, trivial⟩, ⟨(h.pick 7).cell 1 rfl, trivial⟩, ⟨(h.pick 4).cell 4 rfl, trivial⟩, trivial⟩ 24 11 rfl (by kernel_rfl) ((wg hr rfl rfl rfl (b' := r172) (by kernel_rfl)).trans (by rw [show r172 = true from (c174)]; rfl)) hr (.pointer (some ⟨Bn12, 0, none⟩)) (fun w => by kernel_rfl) ?_; clear hr a; intro a hr
            refine evD hgo ⟨⟨(h.pick 4).cell 1 rfl, trivial⟩, ⟨(h.pick 7).cell 1 rfl, trivial⟩, ⟨(h.pick 4).cell 4 rfl, trivial⟩, trivial⟩ 23 12 rfl (by kernel_rfl) ((wg hr rfl rfl rfl (b' := r172) (by kernel_rfl)).trans (by rw [show r172 = true from (c174)]; rfl)) hr (.pointer (some ⟨Bn12, 1, none⟩)) (fun w => by kernel_rfl) ?_; clear hr a; intro a hr
            refine el [1, 3, 4, 6, 9, 11, 12, 14, 18, 20, 21] (b := Bn12) (off := 1) (cs := [.slice ca48 S47.Held.length cc49]) (fun _ hk => ⟨hk, fun w hD => hD.2.1⟩) 22 13 rfl (by kernel_rfl) ((wg hr rfl rfl rfl (b' := r172) (by kernel_rfl)).trans (by rw [show r172 = true from (c174)]; rfl)) hr (.slice ca48 S47.Held.length cc49) ⟨(h.pick 7).cell 1 rfl, trivial⟩ (fun w hc => rl rfl (by kernel_rfl) (by kernel_rfl) hc.1) ?_; clear hr a; intro a hr
            refine e_one (fuel := 21) (i := 9) (by kernel_rfl) rfl ?_
            replace h : Fit z (sepL (ob96 Bn30 S57 ca58 cc59 ca60 cc61 :: ro2 ca58 cc59 S57.cell :: ro90 ca60 cc61 S57.log :: ob96 Bn21 S52 ca53 cc54 ca55 cc56 :: ro2 ca53 cc54 S52.cell :: ro90 ca55 cc56 S52.log :: ro2 car171 r169.length r169 :: ob62 Bn4 S42 ca43 cc44 ca45 cc46 :: ro2 ca43 cc44 S42.Held :: ro90 ca45 cc46 S42.Book :: ob62 Bn12 S47 ca48 cc49 ca50 cc51 :: ro2 ca48 cc49 S47.Held :: ro90 ca50 cc51 S47.Book :: L)) _ := h.sel 13 [10, 11, 12, 0, 1, 2, 3, 4, 5, 6, 7, 8, 9] (by kernel_rfl) (by kernel_rfl)
            have hc := cells_Arena_Cells_ok (H := e176) (h := h)
            refine op_call ((wg hr rfl rfl rfl (b' := r172) (by kernel_rfl)).trans (by rw [show r172 = true from (c174)]; rfl)) rfl rfl hr (f := 24) (args := #[.pointer (some ⟨Bn30, 0, none⟩)]) (by kernel_rfl) hc ?_; clear hc h
            rintro _ w ⟨car177, rfl, h⟩; refine ⟨_, rfl, ?_⟩
            clear hr a; intro a hr
            refine wpList_nil ?_; refine then_normal ?_
            refine ⟨fun _ => ⟨⟨(h.pick 8).cell 1 rfl, trivial⟩, ⟨(h.pick 11).cell 1 rfl, trivial⟩, ⟨(h.pick 8).cell 4 rfl, trivial⟩, trivial⟩, ?_⟩
            refine e_one (fuel := 20) (i := 14) (by kernel_rfl) rfl ?_
            have hc := plunderlaw2_sameNumbers_ok (va0 := car177) (vc0 := r175.length) (va1 := ca48) (vc1 := cc49) (hv0 := (RdRow.of_row encZ_i64_ok (h.pick 3) (fun h => (h.pick 3)))) (hv1 := (RdRow.of_row encZ_i64_ok (h.pick 12) (fun h => (h.pick 12)))) (H := e179) (h := h)
            refine op_call ((wg hr rfl rfl rfl (b' := r172) (by kernel_rfl)).trans (by rw [show r172 = true from (c174)]; rfl)) rfl rfl hr (f := 40) (args := #[.slice car177 r175.length r175.length, .slice ca48 S47.Held.length cc49]) (by kernel_rfl) hc ?_; clear hc h
            rintro _ w ⟨rfl, h⟩; refine ⟨_, rfl, ?_⟩
            clear hr a; intro a hr
            refine wpList_nil ?_; refine then_normal ?_
            refine ⟨fun _ => ⟨⟨(h.pick 8).cell 1 rfl, trivial⟩, ⟨(h.pick 11).cell 1 rfl, trivial⟩, ⟨(h.pick 8).cell 4 rfl, trivial⟩, trivial⟩, ?_⟩
            refine ev 19 15 rfl (by kernel_rfl) (wn rfl) hr (.bool r178) (fun w => rp_t (b := r172) rfl (by kernel_rfl) (c174) (by kernel_rfl)) ?_; clear hr a; intro a hr
            refine ev 18 16 rfl (by kernel_rfl) (wn rfl) hr (.bool r178) (fun w => by kernel_rfl) ?_; clear hr a; intro a hr
            refine ev 17 17 rfl (by kernel_rfl) ((wg hr rfl rfl rfl (b' := r178) (by kernel_rfl)).trans (by rw [show r178 = true from (c180)]; rfl)) hr (.pointer (some ⟨Bn21, 0, none⟩)) (fun w => by kernel_rfl) ?_; clear hr a; intro a hr
            refine ev 16 19 rfl (by kernel_rfl) ((wg hr rfl rfl rfl (b' := r178) (by kernel_rfl)).trans (by rw [show r178 = true from (c180)]; rfl)) hr (.pointer (some ⟨Bn4, 0, none⟩)) (fun w => by kernel_rfl) ?_; clear hr a; intro a hr
            refine evD hgo ⟨⟨(h.pick 8).cell 1 rfl, trivial⟩, ⟨(h.pick 11).cell 1 rfl, trivial⟩, ⟨(h.pick 8).cell 4 rfl, trivial⟩, trivial⟩ 15 20 rfl (by kernel_rfl) ((wg hr rfl rfl rfl (b' := r178) (by kernel_rfl)).trans (by rw [show r178 = true from (c180)]; rfl)) hr (.pointer (some ⟨Bn4, 0, none⟩)) (fun w => by kernel_rfl) ?_; clear hr a; intro a hr
            refine evD hgo ⟨⟨(h.pick 8).cell 1 rfl, trivial⟩, ⟨(h.pick 11).cell 1 rfl, trivial⟩, ⟨(h.pick 8).cell 4 rfl, trivial⟩, trivial⟩ 14 21 rfl (by kernel_rfl) ((wg hr rfl rfl rfl (b' := r178) (by kernel_rfl)).trans (by rw [show r178 = true from (c180)]; rfl)) hr (.pointer (some ⟨Bn4, 4, none⟩)) (fun w => by kernel_rfl) ?_; clear hr a; intro a hr
            refine el [1, 3, 4, 6, 9, 11, 12, 14, 18, 20, 21] (b := Bn4) (off := 4) (cs := [.slice ca45 S42.Book.length cc46]) (fun _ hk => ⟨hk, fun w hD => hD.2.2.1⟩) 13 22 rfl (by kernel_rfl) ((wg hr rfl rfl rfl (b' := r178) (by kernel_rfl)).trans (by rw [show r178 = true from (c180)]; rfl)) hr (.slice ca45 S42.Book.length cc46) ⟨(h.pick 8).cell 4 rfl, trivial⟩ (fun w hc => rl rfl (by kernel_rfl) (by kernel_rfl) hc.1) ?_; clear hr a; intro a hr
            refine e_one (fuel := 12) (i := 18) (by kernel_rfl) rfl ?_
            replace h : Fit z (sepL (ob96 Bn21 S52 ca53 cc54 ca55 cc56 :: ro2 ca53 cc54 S52.cell :: ro90 ca55 cc56 S52.log :: ob96 Bn30 S57 ca58 cc59 ca60 cc61 :: ro2 ca58 cc59 S57.cell :: ro90 ca60 cc61 S57.log :: ro2 car177 r175.length r175 :: ro2 car171 r169.length r169 :: ob62 Bn4 S42 ca43 cc44 ca45 cc46 :: ro2 ca43 cc44 S42.Held :: ro90 ca45 cc46 S42.Book :: ob62 Bn12 S47 ca48 cc49 ca50 cc51 :: ro2 ca48 cc49 S47.Held :: ro90 ca50 cc51 S47.Book :: L)) _ := h.sel 14 [4, 5, 6, 0, 1, 2, 3, 7, 8, 9, 10, 11, 12, 13] (by kernel_rfl) (by kernel_rfl)
            have hc := cells_Arena_Log_ok (H := e182) (h := h)
            refine op_call ((wg hr rfl rfl rfl (b' := r178) (by kernel_rfl)).trans (by rw [show r178 = true from (c180)]; rfl)) rfl rfl hr (f := 70) (args := #[.pointer (some ⟨Bn21, 0, none⟩)]) (by kernel_rfl) hc ?_; clear hc h
            rintro _ w ⟨car183, rfl, h⟩; refine ⟨_, rfl, ?_⟩
            clear hr a; intro a hr
            refine wpList_nil ?_; refine then_normal ?_
            refine ⟨fun _ => ⟨⟨(h.pick 9).cell 1 rfl, trivial⟩, ⟨(h.pick 12).cell 1 rfl, trivial⟩, ⟨(h.pick 9).cell 4 rfl, trivial⟩, trivial⟩, ?_⟩
            refine e_one (fuel := 11) (i := 23) (by kernel_rfl) rfl ?_
            have hc := plunderlaw2_sameLog_ok (va0 := car183) (vc0 := r181.length) (va1 := ca45) (vc1 := cc46) (hv0 := (RdRow.of_row enc_T_api_Access_ok (h.pick 3) (fun h => (h.pick 3)))) (hv1 := (RdRow.of_row enc_T_api_Access_ok (h.pick 11) (fun h => (h.pick 11)))) (H := e185) (h := h)
            refine op_call ((wg hr rfl rfl rfl (b' := r178) (by kernel_rfl)).trans (by rw [show r178 = true from (c180)]; rfl)) rfl rfl hr (f := 41) (args := #[.slice car183 r181.length r181.length, .slice ca45 S42.Book.length cc46]) (by kernel_rfl) hc ?_; clear hc h
            rintro _ w ⟨rfl, h⟩; refine ⟨_, rfl, ?_⟩
            clear hr a; intro a hr
            refine wpList_nil ?_; refine then_normal ?_
            refine ⟨fun hE => absurd hE (by decide), ?_⟩
            refine ev 10 24 rfl (by kernel_rfl) (wn rfl) hr (.bool r184) (fun w => rp_t (b := r178) rfl (by kernel_rfl) (c180) (by kernel_rfl)) ?_; clear hr a; intro a hr
            refine ev 9 25 rfl (by kernel_rfl) (wn rfl) hr (.bool r184) (fun w => by kernel_rfl) ?_; clear hr a; intro a hr
            refine eo 8 26 rfl (by kernel_rfl) ((wg hr rfl rfl rfl (b' := r184) (by kernel_rfl)).trans (by rw [show r184 = false from (bF c186)]; rfl)) hr ?_; clear hr a; intro a hr
            refine eo 7 28 rfl (by kernel_rfl) ((wg hr rfl rfl rfl (b' := r184) (by kernel_rfl)).trans (by rw [show r184 = false from (bF c186)]; rfl)) hr ?_; clear hr a; intro a hr
            refine eo 6 29 rfl (by kernel_rfl) ((wg hr rfl rfl rfl (b' := r184) (by kernel_rfl)).trans (by rw [show r184 = false from (bF c186)]; rfl)) hr ?_; clear hr a; intro a hr
            refine eo 5 30 rfl (by kernel_rfl) ((wg hr rfl rfl rfl (b' := r184) (by kernel_rfl)).trans (by rw [show r184 = false from (bF c186)]; rfl)) hr ?_; clear hr a; intro a hr
            refine eo 4 31 rfl (by kernel_rfl) ((wg hr rfl rfl rfl (b' := r184) (by kernel_rfl)).trans (by rw [show r184 = false from (bF c186)]; rfl)) hr ?_; clear hr a; intro a hr
            refine e_one (fuel := 3) (i := 27) (by kernel_rfl) rfl ?_
            refine op_off ((wg hr rfl rfl rfl (b' := r184) (by kernel_rfl)).trans (by rw [show r184 = false from (bF c186)]; rfl)) rfl rfl hr ?_; clear hr a; intro a hr
            refine wpList_nil ?_; refine then_normal ?_
            refine ⟨fun hE => absurd hE (by decide), ?_⟩
            refine e_one (fuel := 2) (i := 32) (by kernel_rfl) rfl ?_
            refine op_off ((wg hr rfl rfl rfl (b' := r184) (by kernel_rfl)).trans (by rw [show r184 = false from (bF c186)]; rfl)) rfl rfl hr ?_; clear hr a; intro a hr
            refine wpList_nil ?_; refine then_normal ?_
            refine ⟨fun hE => absurd hE (by decide), ?_⟩
            refine ev 1 33 rfl (by kernel_rfl) (wn rfl) hr (.bool false) (fun w => rp_f (b := r184) rfl (by kernel_rfl) (bF c186) (by kernel_rfl)) ?_; clear hr a; intro a hr
            refine ev 0 34 rfl (by kernel_rfl) (wn rfl) hr (.bool false) (fun w => by kernel_rfl) ?_; clear hr a; intro a hr
            refine e_end (by kernel_rfl) ?_
            refine then_normal ?_
            refine wp_ret ?_
            refine end_ret1 (v := .bool false) rfl hr (by kernel_rfl) ?_
            replace h : Fit z (sepL (L)) _ := h.sel 15 [] (by kernel_rfl) (by kernel_rfl)
            replace H := ej1 H; subst H
            exact ⟨rfl, h⟩
        ·
          replace H := ifF c180 H
          refine reg_E (fun w => heldC w Bn4 1 [.slice ca43 S42.Held.length cc44] ∧ heldC w Bn12 1 [.slice ca48 S47.Held.length cc49] ∧ True) [1, 3, 4, 6, 9, 11, 12] h (by kernel_rfl) ?_; intro w h
          change wpAnyE _ _ _ _ _ _ 35 (Array.replicate 35 false) a w
          have hgo : ∀ w w', CellsGo w w' → (heldC w Bn4 1 [.slice ca43 S42.Held.length cc44] ∧ heldC w Bn12 1 [.slice ca48 S47.Held.length cc49] ∧ True) → heldC w' Bn4 1 [.slice ca43 S42.Held.length cc44] ∧ heldC w' Bn12 1 [.slice ca48 S47.Held.length cc49] ∧ True := fun w w' g hD => ⟨heldC_go _ _ _ _ _ g hD.1, heldC_go _ _ _ _ _ g hD.2.1, trivial⟩
          refine ev 34 0 rfl (by kernel_rfl) (wn rfl) hr (.pointer (some ⟨Bn21, 0, none⟩)) (fun w => by kernel_rfl) ?_; clear hr a; intro a hr
          refine ev 33 2 rfl (by kernel_rfl) (wn rfl) hr (.pointer (some ⟨Bn4, 0, none⟩)) (fun w => by kernel_rfl) ?_; clear hr a; intro a hr
          refine evD hgo ⟨⟨h.cell 1 rfl, trivial⟩, ⟨(h.pick 3).cell 1 rfl, trivial⟩, trivial⟩ 32 3 rfl (by kernel_rfl) (wn rfl) hr (.pointer (some ⟨Bn4, 0, none⟩)) (fun w => by kernel_rfl) ?_; clear hr a; intro a hr
          refine evD hgo ⟨⟨h.cell 1 rfl, trivial⟩, ⟨(h.pick 3).cell 1 rfl, trivial⟩, trivial⟩ 31 4 rfl (by kernel_rfl) (wn rfl) hr (.pointer (some ⟨Bn4, 1, none⟩)) (fun w => by kernel_rfl) ?_; clear hr a; intro a hr
          refine el [1, 3, 4, 6, 9, 11, 12] (b := Bn4) (off := 1) (cs := [.slice ca43 S42.Held.length cc44]) (fun _ hk => ⟨hk, fun w hD => hD.1⟩) 30 5 rfl (by kernel_rfl) (wn rfl) hr (.slice ca43 S42.Held.length cc44) ⟨h.cell 1 rfl, trivial⟩ (fun w hc => rl rfl (by kernel_rfl) (by kernel_rfl) hc.1) ?_; clear hr a; intro a hr
          refine e_one (fuel := 29) (i := 1) (by kernel_rfl) rfl ?_
          replace h : Fit z (sepL (ob96 Bn21 S52 ca53 cc54 ca55 cc56 :: ro2 ca53 cc54 S52.cell :: ro90 ca55 cc56 S52.log :: ob62 Bn4 S42 ca43 cc44 ca45 cc46 :: ro2 ca43 cc44 S42.Held :: ro90 ca45 cc46 S42.Book :: ob62 Bn12 S47 ca48 cc49 ca50 cc51 :: ro2 ca48 cc49 S47.Held :: ro90 ca50 cc51 S47.Book :: ob96 Bn30 S57 ca58 cc59 ca60 cc61 :: ro2 ca58 cc59 S57.cell :: ro90 ca60 cc61 S57.log :: L)) _ := h.sel 12 [6, 7, 8, 0, 1, 2, 3, 4, 5, 9, 10, 11] (by kernel_rfl) (by kernel_rfl)
          have hc := cells_Arena_Cells_ok (H := e170) (h := h)
          refine op_call (wn rfl) rfl rfl hr (f := 24) (args := #[.pointer (some ⟨Bn21, 0, none⟩)]) (by kernel_rfl) hc ?_; clear hc h
          rintro _ w ⟨car171, rfl, h⟩; refine ⟨_, rfl, ?_⟩
          clear hr a; intro a hr
          refine wpList_nil ?_; refine then_normal ?_
          refine ⟨fun _ => ⟨⟨(h.pick 4).cell 1 rfl, trivial⟩, ⟨(h.pick 7).cell 1 rfl, trivial⟩, trivial⟩, ?_⟩
          refine e_one (fuel := 28) (i := 6) (by kernel_rfl) rfl ?_
          have hc := plunderlaw2_sameNumbers_ok (va0 := car171) (vc0 := r169.length) (va1 := ca43) (vc1 := cc44) (hv0 := (RdRow.of_row encZ_i64_ok (h.pick 3) (fun h => (h.pick 3)))) (hv1 := (RdRow.of_row encZ_i64_ok (h.pick 5) (fun h => (h.pick 5)))) (H := e173) (h := h)
          refine op_call (wn rfl) rfl rfl hr (f := 40) (args := #[.slice car171 r169.length r169.length, .slice ca43 S42.Held.length cc44]) (by kernel_rfl) hc ?_; clear hc h
          rintro _ w ⟨rfl, h⟩; refine ⟨_, rfl, ?_⟩
          clear hr a; intro a hr
          refine wpList_nil ?_; refine then_normal ?_
          refine ⟨fun _ => ⟨⟨(h.pick 4).cell 1 rfl, trivial⟩, ⟨(h.pick 7).cell 1 rfl, trivial⟩, trivial⟩, ?_⟩
          refine ev 27 7 rfl (by kernel_rfl) (wn rfl) hr (.bool r172) (fun w => by kernel_rfl) ?_; clear hr a; intro a hr
          refine ev 26 8 rfl (by kernel_rfl) ((wg hr rfl rfl rfl (b' := r172) (by kernel_rfl)).trans (by rw [show r172 = true from (c174)]; rfl)) hr (.pointer (some ⟨Bn30, 0, none⟩)) (fun w => by kernel_rfl) ?_; clear hr a; intro a hr
          refine ev 25 10 rfl (by kernel_rfl) ((wg hr rfl rfl rfl (b' := r172) (by kernel_rfl)).trans (by rw [show r172 = true from (c174)]; rfl)) hr (.pointer (some ⟨Bn12, 0, none⟩)) (fun w => by kernel_rfl) ?_; clear hr a; intro a hr
          refine evD hgo ⟨⟨(h.pick 4).cell 1 rfl, trivial⟩, ⟨(h.pick 7).cell 1 rfl, trivial⟩, trivial⟩ 24 11 rfl (by kernel_rfl) ((wg hr rfl rfl rfl (b' := r172) (by kernel_rfl)).trans (by rw [show r172 = true from (c174)]; rfl)) hr (.pointer (some ⟨Bn12, 0, none⟩)) (fun w => by kernel_rfl) ?_; clear hr a; intro a hr
          refine evD hgo ⟨⟨(h.pick 4).cell 1 rfl, trivial⟩, ⟨(h.pick 7).cell 1 rfl, trivial⟩, trivial⟩ 23 12 rfl (by kernel_rfl) ((wg hr rfl rfl rfl (b' := r172) (by kernel_rfl)).trans (by rw [show r172 = true from (c174)]; rfl)) hr (.pointer (some ⟨Bn12, 1, none⟩)) (fun w => by kernel_rfl) ?_; clear hr a; intro a hr
          refine el [1, 3, 4, 6, 9, 11, 12] (b := Bn12) (off := 1) (cs := [.slice ca48 S47.Held.length cc49]) (fun _ hk => ⟨hk, fun w hD => hD.2.1⟩) 22 13 rfl (by kernel_rfl) ((wg hr rfl rfl rfl (b' := r172) (by kernel_rfl)).trans (by rw [show r172 = true from (c174)]; rfl)) hr (.slice ca48 S47.Held.length cc49) ⟨(h.pick 7).cell 1 rfl, trivial⟩ (fun w hc => rl rfl (by kernel_rfl) (by kernel_rfl) hc.1) ?_; clear hr a; intro a hr
          refine e_one (fuel := 21) (i := 9) (by kernel_rfl) rfl ?_
          replace h : Fit z (sepL (ob96 Bn30 S57 ca58 cc59 ca60 cc61 :: ro2 ca58 cc59 S57.cell :: ro90 ca60 cc61 S57.log :: ob96 Bn21 S52 ca53 cc54 ca55 cc56 :: ro2 ca53 cc54 S52.cell :: ro90 ca55 cc56 S52.log :: ro2 car171 r169.length r169 :: ob62 Bn4 S42 ca43 cc44 ca45 cc46 :: ro2 ca43 cc44 S42.Held :: ro90 ca45 cc46 S42.Book :: ob62 Bn12 S47 ca48 cc49 ca50 cc51 :: ro2 ca48 cc49 S47.Held :: ro90 ca50 cc51 S47.Book :: L)) _ := h.sel 13 [10, 11, 12, 0, 1, 2, 3, 4, 5, 6, 7, 8, 9] (by kernel_rfl) (by kernel_rfl)
          have hc := cells_Arena_Cells_ok (H := e176) (h := h)
          refine op_call ((wg hr rfl rfl rfl (b' := r172) (by kernel_rfl)).trans (by rw [show r172 = true from (c174)]; rfl)) rfl rfl hr (f := 24) (args := #[.pointer (some ⟨Bn30, 0, none⟩)]) (by kernel_rfl) hc ?_; clear hc h
          rintro _ w ⟨car177, rfl, h⟩; refine ⟨_, rfl, ?_⟩
          clear hr a; intro a hr
          refine wpList_nil ?_; refine then_normal ?_
          refine ⟨fun _ => ⟨⟨(h.pick 8).cell 1 rfl, trivial⟩, ⟨(h.pick 11).cell 1 rfl, trivial⟩, trivial⟩, ?_⟩
          refine e_one (fuel := 20) (i := 14) (by kernel_rfl) rfl ?_
          have hc := plunderlaw2_sameNumbers_ok (va0 := car177) (vc0 := r175.length) (va1 := ca48) (vc1 := cc49) (hv0 := (RdRow.of_row encZ_i64_ok (h.pick 3) (fun h => (h.pick 3)))) (hv1 := (RdRow.of_row encZ_i64_ok (h.pick 12) (fun h => (h.pick 12)))) (H := e179) (h := h)
          refine op_call ((wg hr rfl rfl rfl (b' := r172) (by kernel_rfl)).trans (by rw [show r172 = true from (c174)]; rfl)) rfl rfl hr (f := 40) (args := #[.slice car177 r175.length r175.length, .slice ca48 S47.Held.length cc49]) (by kernel_rfl) hc ?_; clear hc h
          rintro _ w ⟨rfl, h⟩; refine ⟨_, rfl, ?_⟩
          clear hr a; intro a hr
          refine wpList_nil ?_; refine then_normal ?_
          refine ⟨fun hE => absurd hE (by decide), ?_⟩
          refine ev 19 15 rfl (by kernel_rfl) (wn rfl) hr (.bool r178) (fun w => rp_t (b := r172) rfl (by kernel_rfl) (c174) (by kernel_rfl)) ?_; clear hr a; intro a hr
          refine ev 18 16 rfl (by kernel_rfl) (wn rfl) hr (.bool r178) (fun w => by kernel_rfl) ?_; clear hr a; intro a hr
          refine eo 17 17 rfl (by kernel_rfl) ((wg hr rfl rfl rfl (b' := r178) (by kernel_rfl)).trans (by rw [show r178 = false from (bF c180)]; rfl)) hr ?_; clear hr a; intro a hr
          refine eo 16 19 rfl (by kernel_rfl) ((wg hr rfl rfl rfl (b' := r178) (by kernel_rfl)).trans (by rw [show r178 = false from (bF c180)]; rfl)) hr ?_; clear hr a; intro a hr
          refine eo 15 20 rfl (by kernel_rfl) ((wg hr rfl rfl rfl (b' := r178) (by kernel_rfl)).trans (by rw [show r178 = false from (bF c180)]; rfl)) hr ?_; clear hr a; intro a hr
          refine eo 14 21 rfl (by kernel_rfl) ((wg hr rfl rfl rfl (b' := r178) (by kernel_rfl)).trans (by rw [show r178 = false from (bF c180)]; rfl)) hr ?_; clear hr a; intro a hr
          refine eo 13 22 rfl (by kernel_rfl) ((wg hr rfl rfl rfl (b' := r178) (by kernel_rfl)).trans (by rw [show r178 = false from (bF c180)]; rfl)) hr ?_; clear hr a; intro a hr
          refine e_one (fuel := 12) (i := 18) (by kernel_rfl) rfl ?_
          refine op_off ((wg hr rfl rfl rfl (b' := r178) (by kernel_rfl)).trans (by rw [show r178 = false from (bF c180)]; rfl)) rfl rfl hr ?_; clear hr a; intro a hr
          refine wpList_nil ?_; refine then_normal ?_
          refine ⟨fun hE => absurd hE (by decide), ?_⟩
          refine e_one (fuel := 11) (i := 23) (by kernel_rfl) rfl ?_
          refine op_off ((wg hr rfl rfl rfl (b' := r178) (by kernel_rfl)).trans (by rw [show r178 = false from (bF c180)]; rfl)) rfl rfl hr ?_; clear hr a; intro a hr
          refine wpList_nil ?_; refine then_normal ?_
          refine ⟨fun hE => absurd hE (by decide), ?_⟩
          refine ev 10 24 rfl (by kernel_rfl) (wn rfl) hr (.bool false) (fun w => rp_f (b := r178) rfl (by kernel_rfl) (bF c180) (by kernel_rfl)) ?_; clear hr a; intro a hr
          refine ev 9 25 rfl (by kernel_rfl) (wn rfl) hr (.bool false) (fun w => by kernel_rfl) ?_; clear hr a; intro a hr
          refine eo 8 26 rfl (by kernel_rfl) ((wg hr rfl rfl rfl (b' := false) (by kernel_rfl)).trans rfl) hr ?_; clear hr a; intro a hr
          refine eo 7 28 rfl (by kernel_rfl) ((wg hr rfl rfl rfl (b' := false) (by kernel_rfl)).trans rfl) hr ?_; clear hr a; intro a hr
          refine eo 6 29 rfl (by kernel_rfl) ((wg hr rfl rfl rfl (b' := false) (by kernel_rfl)).trans rfl) hr ?_; clear hr a; intro a hr
          refine eo 5 30 rfl (by kernel_rfl) ((wg hr rfl rfl rfl (b' := false) (by kernel_rfl)).trans rfl) hr ?_; clear hr a; intro a hr
          refine eo 4 31 rfl (by kernel_rfl) ((wg hr rfl rfl rfl (b' := false) (by kernel_rfl)).trans rfl) hr ?_; clear hr a; intro a hr
          refine e_one (fuel := 3) (i := 27) (by kernel_rfl) rfl ?_
          refine op_off ((wg hr rfl rfl rfl (b' := false) (by kernel_rfl)).trans rfl) rfl rfl hr ?_; clear hr a; intro a hr
          refine wpList_nil ?_; refine then_normal ?_
          refine ⟨fun hE => absurd hE (by decide), ?_⟩
          refine e_one (fuel := 2) (i := 32) (by kernel_rfl) rfl ?_
          refine op_off ((wg hr rfl rfl rfl (b' := false) (by kernel_rfl)).trans rfl) rfl rfl hr ?_; clear hr a; intro a hr
          refine wpList_nil ?_; refine then_normal ?_
          refine ⟨fun hE => absurd hE (by decide), ?_⟩
          refine ev 1 33 rfl (by kernel_rfl) (wn rfl) hr (.bool false) (fun w => by kernel_rfl) ?_; clear hr a; intro a hr
          refine ev 0 34 rfl (by kernel_rfl) (wn rfl) hr (.bool false) (fun w => by kernel_rfl) ?_; clear hr a; intro a hr
          refine e_end (by kernel_rfl) ?_
          refine then_normal ?_
          refine wp_ret ?_
          refine end_ret1 (v := .bool false) rfl hr (by kernel_rfl) ?_
          replace h : Fit z (sepL (L)) _ := h.sel 14 [] (by kernel_rfl) (by kernel_rfl)
          replace H := ej1 H; subst H
          exact ⟨rfl, h⟩
      ·
        replace H := ifF c174 H
        refine reg_E (fun w => heldC w Bn4 1 [.slice ca43 S42.Held.length cc44] ∧ True) [1, 3, 4] h (by kernel_rfl) ?_; intro w h
        change wpAnyE _ _ _ _ _ _ 35 (Array.replicate 35 false) a w
        have hgo : ∀ w w', CellsGo w w' → (heldC w Bn4 1 [.slice ca43 S42.Held.length cc44] ∧ True) → heldC w' Bn4 1 [.slice ca43 S42.Held.length cc44] ∧ True := fun w w' g hD => ⟨heldC_go _ _ _ _ _ g hD.1, trivial⟩
        refine ev 34 0 rfl (by kernel_rfl) (wn rfl) hr (.pointer (some ⟨Bn21, 0, none⟩)) (fun w => by kernel_rfl) ?_; clear hr a; intro a hr
        refine ev 33 2 rfl (by kernel_rfl) (wn rfl) hr (.pointer (some ⟨Bn4, 0, none⟩)) (fun w => by kernel_rfl) ?_; clear hr a; intro a hr
        refine evD hgo ⟨⟨h.cell 1 rfl, trivial⟩, trivial⟩ 32 3 rfl (by kernel_rfl) (wn rfl) hr (.pointer (some ⟨Bn4, 0, none⟩)) (fun w => by kernel_rfl) ?_; clear hr a; intro a hr
        refine evD hgo ⟨⟨h.cell 1 rfl, trivial⟩, trivial⟩ 31 4 rfl (by kernel_rfl) (wn rfl) hr (.pointer (some ⟨Bn4, 1, none⟩)) (fun w => by kernel_rfl) ?_; clear hr a; intro a hr
        refine el [1, 3, 4] (b := Bn4) (off := 1) (cs := [.slice ca43 S42.Held.length cc44]) (fun _ hk => ⟨hk, fun w hD => hD.1⟩) 30 5 rfl (by kernel_rfl) (wn rfl) hr (.slice ca43 S42.Held.length cc44) ⟨h.cell 1 rfl, trivial⟩ (fun w hc => rl rfl (by kernel_rfl) (by kernel_rfl) hc.1) ?_; clear hr a; intro a hr
        refine e_one (fuel := 29) (i := 1) (by kernel_rfl) rfl ?_
        replace h : Fit z (sepL (ob96 Bn21 S52 ca53 cc54 ca55 cc56 :: ro2 ca53 cc54 S52.cell :: ro90 ca55 cc56 S52.log :: ob62 Bn4 S42 ca43 cc44 ca45 cc46 :: ro2 ca43 cc44 S42.Held :: ro90 ca45 cc46 S42.Book :: ob62 Bn12 S47 ca48 cc49 ca50 cc51 :: ro2 ca48 cc49 S47.Held :: ro90 ca50 cc51 S47.Book :: ob96 Bn30 S57 ca58 cc59 ca60 cc61 :: ro2 ca58 cc59 S57.cell :: ro90 ca60 cc61 S57.log :: L)) _ := h.sel 12 [6, 7, 8, 0, 1, 2, 3, 4, 5, 9, 10, 11] (by kernel_rfl) (by kernel_rfl)
        have hc := cells_Arena_Cells_ok (H := e170) (h := h)
        refine op_call (wn rfl) rfl rfl hr (f := 24) (args := #[.pointer (some ⟨Bn21, 0, none⟩)]) (by kernel_rfl) hc ?_; clear hc h
        rintro _ w ⟨car171, rfl, h⟩; refine ⟨_, rfl, ?_⟩
        clear hr a; intro a hr
        refine wpList_nil ?_; refine then_normal ?_
        refine ⟨fun _ => ⟨⟨(h.pick 4).cell 1 rfl, trivial⟩, trivial⟩, ?_⟩
        refine e_one (fuel := 28) (i := 6) (by kernel_rfl) rfl ?_
        have hc := plunderlaw2_sameNumbers_ok (va0 := car171) (vc0 := r169.length) (va1 := ca43) (vc1 := cc44) (hv0 := (RdRow.of_row encZ_i64_ok (h.pick 3) (fun h => (h.pick 3)))) (hv1 := (RdRow.of_row encZ_i64_ok (h.pick 5) (fun h => (h.pick 5)))) (H := e173) (h := h)
        refine op_call (wn rfl) rfl rfl hr (f := 40) (args := #[.slice car171 r169.length r169.length, .slice ca43 S42.Held.length cc44]) (by kernel_rfl) hc ?_; clear hc h
        rintro _ w ⟨rfl, h⟩; refine ⟨_, rfl, ?_⟩
        clear hr a; intro a hr
        refine wpList_nil ?_; refine then_normal ?_
        refine ⟨fun hE => absurd hE (by decide), ?_⟩
        refine ev 27 7 rfl (by kernel_rfl) (wn rfl) hr (.bool r172) (fun w => by kernel_rfl) ?_; clear hr a; intro a hr
        refine eo 26 8 rfl (by kernel_rfl) ((wg hr rfl rfl rfl (b' := r172) (by kernel_rfl)).trans (by rw [show r172 = false from (bF c174)]; rfl)) hr ?_; clear hr a; intro a hr
        refine eo 25 10 rfl (by kernel_rfl) ((wg hr rfl rfl rfl (b' := r172) (by kernel_rfl)).trans (by rw [show r172 = false from (bF c174)]; rfl)) hr ?_; clear hr a; intro a hr
        refine eo 24 11 rfl (by kernel_rfl) ((wg hr rfl rfl rfl (b' := r172) (by kernel_rfl)).trans (by rw [show r172 = false from (bF c174)]; rfl)) hr ?_; clear hr a; intro a hr
        refine eo 23 12 rfl (by kernel_rfl) ((wg hr rfl rfl rfl (b' := r172) (by kernel_rfl)).trans (by rw [show r172 = false from (bF c174)]; rfl)) hr ?_; clear hr a; intro a hr
        refine eo 22 13 rfl (by kernel_rfl) ((wg hr rfl rfl rfl (b' := r172) (by kernel_rfl)).trans (by rw [show r172 = false from (bF c174)]; rfl)) hr ?_; clear hr a; intro a hr
        refine e_one (fuel := 21) (i := 9) (by kernel_rfl) rfl ?_
        refine op_off ((wg hr rfl rfl rfl (b' := r172) (by kernel_rfl)).trans (by rw [show r172 = false from (bF c174)]; rfl)) rfl rfl hr ?_; clear hr a; intro a hr
        refine wpList_nil ?_; refine then_normal ?_
        refine ⟨fun hE => absurd hE (by decide), ?_⟩
        refine e_one (fuel := 20) (i := 14) (by kernel_rfl) rfl ?_
        refine op_off ((wg hr rfl rfl rfl (b' := r172) (by kernel_rfl)).trans (by rw [show r172 = false from (bF c174)]; rfl)) rfl rfl hr ?_; clear hr a; intro a hr
        refine wpList_nil ?_; refine then_normal ?_
        refine ⟨fun hE => absurd hE (by decide), ?_⟩
        refine ev 19 15 rfl (by kernel_rfl) (wn rfl) hr (.bool false) (fun w => rp_f (b := r172) rfl (by kernel_rfl) (bF c174) (by kernel_rfl)) ?_; clear hr a; intro a hr
        refine ev 18 16 rfl (by kernel_rfl) (wn rfl) hr (.bool false) (fun w => by kernel_rfl) ?_; clear hr a; intro a hr
        refine eo 17 17 rfl (by kernel_rfl) ((wg hr rfl rfl rfl (b' := false) (by kernel_rfl)).trans rfl) hr ?_; clear hr a; intro a hr
        refine eo 16 19 rfl (by kernel_rfl) ((wg hr rfl rfl rfl (b' := false) (by kernel_rfl)).trans rfl) hr ?_; clear hr a; intro a hr
        refine eo 15 20 rfl (by kernel_rfl) ((wg hr rfl rfl rfl (b' := false) (by kernel_rfl)).trans rfl) hr ?_; clear hr a; intro a hr
        refine eo 14 21 rfl (by kernel_rfl) ((wg hr rfl rfl rfl (b' := false) (by kernel_rfl)).trans rfl) hr ?_; clear hr a; intro a hr
        refine eo 13 22 rfl (by kernel_rfl) ((wg hr rfl rfl rfl (b' := false) (by kernel_rfl)).trans rfl) hr ?_; clear hr a; intro a hr
        refine e_one (fuel := 12) (i := 18) (by kernel_rfl) rfl ?_
        refine op_off ((wg hr rfl rfl rfl (b' := false) (by kernel_rfl)).trans rfl) rfl rfl hr ?_; clear hr a; intro a hr
        refine wpList_nil ?_; refine then_normal ?_
        refine ⟨fun hE => absurd hE (by decide), ?_⟩
        refine e_one (fuel := 11) (i := 23) (by kernel_rfl) rfl ?_
        refine op_off ((wg hr rfl rfl rfl (b' := false) (by kernel_rfl)).trans rfl) rfl rfl hr ?_; clear hr a; intro a hr
        refine wpList_nil ?_; refine then_normal ?_
        refine ⟨fun hE => absurd hE (by decide), ?_⟩
        refine ev 10 24 rfl (by kernel_rfl) (wn rfl) hr (.bool false) (fun w => by kernel_rfl) ?_; clear hr a; intro a hr
        refine ev 9 25 rfl (by kernel_rfl) (wn rfl) hr (.bool false) (fun w => by kernel_rfl) ?_; clear hr a; intro a hr
        refine eo 8 26 rfl (by kernel_rfl) ((wg hr rfl rfl rfl (b' := false) (by kernel_rfl)).trans rfl) hr ?_; clear hr a; intro a hr
        refine eo 7 28 rfl (by kernel_rfl) ((wg hr rfl rfl rfl (b' := false) (by kernel_rfl)).trans rfl) hr ?_; clear hr a; intro a hr
        refine eo 6 29 rfl (by kernel_rfl) ((wg hr rfl rfl rfl (b' := false) (by kernel_rfl)).trans rfl) hr ?_; clear hr a; intro a hr
        refine eo 5 30 rfl (by kernel_rfl) ((wg hr rfl rfl rfl (b' := false) (by kernel_rfl)).trans rfl) hr ?_; clear hr a; intro a hr
        refine eo 4 31 rfl (by kernel_rfl) ((wg hr rfl rfl rfl (b' := false) (by kernel_rfl)).trans rfl) hr ?_; clear hr a; intro a hr
        refine e_one (fuel := 3) (i := 27) (by kernel_rfl) rfl ?_
        refine op_off ((wg hr rfl rfl rfl (b' := false) (by kernel_rfl)).trans rfl) rfl rfl hr ?_; clear hr a; intro a hr
        refine wpList_nil ?_; refine then_normal ?_
        refine ⟨fun hE => absurd hE (by decide), ?_⟩
        refine e_one (fuel := 2) (i := 32) (by kernel_rfl) rfl ?_
        refine op_off ((wg hr rfl rfl rfl (b' := false) (by kernel_rfl)).trans rfl) rfl rfl hr ?_; clear hr a; intro a hr
        refine wpList_nil ?_; refine then_normal ?_
        refine ⟨fun hE => absurd hE (by decide), ?_⟩
        refine ev 1 33 rfl (by kernel_rfl) (wn rfl) hr (.bool false) (fun w => by kernel_rfl) ?_; clear hr a; intro a hr
        refine ev 0 34 rfl (by kernel_rfl) (wn rfl) hr (.bool false) (fun w => by kernel_rfl) ?_; clear hr a; intro a hr
        refine e_end (by kernel_rfl) ?_
        refine then_normal ?_
        refine wp_ret ?_
        refine end_ret1 (v := .bool false) rfl hr (by kernel_rfl) ?_
        replace h : Fit z (sepL (L)) _ := h.sel 13 [] (by kernel_rfl) (by kernel_rfl)
        replace H := ej1 H; subst H
        exact ⟨rfl, h⟩
    | none =>
      have hc := cells_New_ok1 (H := e28) (h := h)
      refine op_call (wn rfl) rfl rfl hr (f := 19) (args := #[.int .i64 p1]) (by kernel_rfl) hc ?_; clear hc h
      rintro _ w ⟨rfl, h⟩; refine ⟨_, rfl, ?_⟩
      clear hr a; intro a hr
      refine ovs [38, 41, 42, 17, 18] [.tuple #[.pointer none, .int .i64 r27], .pointer none, .int .i64 r27, .pointer none, .int .i64 r27] hr ⟨rfl, rfl⟩ (by kernel_rfl) ?_; clear hr a; intro a hr
      refine wpList_nil ?_
      refine then_normal ?_
      replace H := jd0 H; obtain ⟨o193, H, hK192⟩ := H
      refine cut_rule (β := Unit) (fun _ a w => .inl () = o193 ∧ ∃ j, Rep 141 (lk [(2, .slice va2 p2.length vc2), (3, .bool p3), (4, .bool p4), (11, .pointer (some ⟨Bn4, 0, none⟩)), (13, .pointer (some ⟨Bn12, 0, none⟩)), (15, .pointer (some ⟨Bn21, 0, none⟩)), (17, .pointer none)] j) a ∧ Fit z (sepL (ob62 Bn4 r1 car5 ccr6 car7 ccr8 :: ro2 car5 ccr6 r1.Held :: ro90 car7 ccr8 r1.Book :: ob62 Bn12 r9 car13 ccr14 car15 ccr16 :: ro2 car13 ccr14 r9.Held :: ro90 car15 ccr16 r9.Book :: ob96 Bn21 S20 car22 ccr23 car24 ccr25 :: ro2 car22 ccr23 S20.cell :: ro90 car24 ccr25 S20.log :: L)) w) ?_ ?_
      ·
        refine wp_seq ?_
        refine wp_region_lit ?_
        refine ovs [43, 44, 45, 46] [.int .i64 r18, .int .i64 r2, .bool (r18 != r2), .bool (r18 != r2)] hr ⟨rfl, rfl⟩ (by kernel_rfl) ?_; clear hr a; intro a hr
        by_cases c194 : r18 = r2
        ·
          replace H := ifT c194 H
          refine op_val ((wg hr rfl rfl rfl (b' := (r18 != r2)) (by kernel_rfl)).trans (by rw [show (r18 != r2) = false from (bne_eq_false_iff_eq.mpr c194)]; rfl)) rfl rfl hr (v := .int .i64 r27) (by kernel_rfl) ?_; clear hr a; intro a hr
          refine op_val ((wg hr rfl rfl rfl (b' := (r18 != r2)) (by kernel_rfl)).trans (by rw [show (r18 != r2) = false from (bne_eq_false_iff_eq.mpr c194)]; rfl)) rfl rfl hr (v := .int .i64 r10) (by kernel_rfl) ?_; clear hr a; intro a hr
          refine op_val ((wg hr rfl rfl rfl (b' := (r18 != r2)) (by kernel_rfl)).trans (by rw [show (r18 != r2) = false from (bne_eq_false_iff_eq.mpr c194)]; rfl)) rfl rfl hr (v := .bool (r27 != r10)) (by kernel_rfl) ?_; clear hr a; intro a hr
          refine op_val (wn rfl) rfl rfl hr (v := .bool (r27 != r10)) (rp_f (b := (r18 != r2)) rfl (by kernel_rfl) (bne_eq_false_iff_eq.mpr c194) (by kernel_rfl)) ?_; clear hr a; intro a hr
          refine ov hr (.bool (r27 != r10)) (by kernel_rfl) ?_; clear hr a; intro a hr
          by_cases c195 : r27 = r10
          ·
            replace H := ifT c195 H
            refine op_val ((wg hr rfl rfl rfl (b' := (r27 != r10)) (by kernel_rfl)).trans (by rw [show (r27 != r10) = false from (bne_eq_false_iff_eq.mpr c195)]; rfl)) rfl rfl hr (v := .pointer (some ⟨Bn21, 0, none⟩)) (by kernel_rfl) ?_; clear hr a; intro a hr
            refine op_val ((wg hr rfl rfl rfl (b' := (r27 != r10)) (by kernel_rfl)).trans (by rw [show (r27 != r10) = false from (bne_eq_false_iff_eq.mpr c195)]; rfl)) rfl rfl hr (v := .bool false) (by kernel_rfl) ?_; clear hr a; intro a hr
            refine op_val ((wg hr rfl rfl rfl (b' := (r27 != r10)) (by kernel_rfl)).trans (by rw [show (r27 != r10) = false from (bne_eq_false_iff_eq.mpr c195)]; rfl)) rfl rfl hr (v := .int .i64 r2) (by kernel_rfl) ?_; clear hr a; intro a hr
            refine op_val ((wg hr rfl rfl rfl (b' := (r27 != r10)) (by kernel_rfl)).trans (by rw [show (r27 != r10) = false from (bne_eq_false_iff_eq.mpr c195)]; rfl)) rfl rfl hr (v := .bool (r2 != (0 : Int))) (by kernel_rfl) ?_; clear hr a; intro a hr
            refine op_val ((wg hr rfl rfl rfl (b' := (r27 != r10)) (by kernel_rfl)).trans (by rw [show (r27 != r10) = false from (bne_eq_false_iff_eq.mpr c195)]; rfl)) rfl rfl hr (v := .bool (!(false == (r2 != (0 : Int))))) (by kernel_rfl) ?_; clear hr a; intro a hr
            refine op_val (wn rfl) rfl rfl hr (v := .bool (!(false == (r2 != (0 : Int))))) (rp_f (b := (r27 != r10)) rfl (by kernel_rfl) (bne_eq_false_iff_eq.mpr c195) (by kernel_rfl)) ?_; clear hr a; intro a hr
            refine ov hr (.bool (!(false == (r2 != (0 : Int))))) (by kernel_rfl) ?_; clear hr a; intro a hr
            by_cases c196 : false = (r2 != (0 : Int))
            ·
              replace H := ifT c196 H
              refine op_val ((wg hr rfl rfl rfl (b' := (!(false == (r2 != (0 : Int))))) (by kernel_rfl)).trans (by rw [show (!(false == (r2 != (0 : Int)))) = false from (by rw [show (false == (r2 != (0 : Int))) = true from (beq_iff_eq.mpr c196)]; rfl)]; rfl)) rfl rfl hr (v := .pointer none) (by kernel_rfl) ?_; clear hr a; intro a hr
              refine op_val ((wg hr rfl rfl rfl (b' := (!(false == (r2 != (0 : Int))))) (by kernel_rfl)).trans (by rw [show (!(false == (r2 != (0 : Int)))) = false from (by rw [show (false == (r2 != (0 : Int))) = true from (beq_iff_eq.mpr c196)]; rfl)]; rfl)) rfl rfl hr (v := .bool true) (by kernel_rfl) ?_; clear hr a; intro a hr
              refine op_val ((wg hr rfl rfl rfl (b' := (!(false == (r2 != (0 : Int))))) (by kernel_rfl)).trans (by rw [show (!(false == (r2 != (0 : Int)))) = false from (by rw [show (false == (r2 != (0 : Int))) = true from (beq_iff_eq.mpr c196)]; rfl)]; rfl)) rfl rfl hr (v := .int .i64 r10) (by kernel_rfl) ?_; clear hr a; intro a hr
              refine op_val ((wg hr rfl rfl rfl (b' := (!(false == (r2 != (0 : Int))))) (by kernel_rfl)).trans (by rw [show (!(false == (r2 != (0 : Int)))) = false from (by rw [show (false == (r2 != (0 : Int))) = true from (beq_iff_eq.mpr c196)]; rfl)]; rfl)) rfl rfl hr (v := .bool (r10 != (0 : Int))) (by kernel_rfl) ?_; clear hr a; intro a hr
              refine op_val ((wg hr rfl rfl rfl (b' := (!(false == (r2 != (0 : Int))))) (by kernel_rfl)).trans (by rw [show (!(false == (r2 != (0 : Int)))) = false from (by rw [show (false == (r2 != (0 : Int))) = true from (beq_iff_eq.mpr c196)]; rfl)]; rfl)) rfl rfl hr (v := .bool (!(true == (r10 != (0 : Int))))) (by kernel_rfl) ?_; clear hr a; intro a hr
              refine op_val (wn rfl) rfl rfl hr (v := .bool (!(true == (r10 != (0 : Int))))) (rp_f (b := (!(false == (r2 != (0 : Int))))) rfl (by kernel_rfl) (by rw [show (false == (r2 != (0 : Int))) = true from (beq_iff_eq.mpr c196)]; rfl) (by kernel_rfl)) ?_; clear hr a; intro a hr
              refine wpList_nil ?_
              refine then_normal ?_
              by_cases c197 : true = (r10 != (0 : Int))
              ·
                replace H := ifT c197 H
                refine cond_ff hr (b := (!(true == (r10 != (0 : Int))))) (by rw [show (true == (r10 != (0 : Int))) = true from (beq_iff_eq.mpr c197)]; rfl) ?_
                refine wp_skip ?_
                refine then_normal ?_
                replace hr := hr.fold2 [(2, .slice va2 p2.length vc2), (3, .bool p3), (4, .bool p4), (11, .pointer (some ⟨Bn4, 0, none⟩)), (13, .pointer (some ⟨Bn12, 0, none⟩)), (15, .pointer (some ⟨Bn21, 0, none⟩)), (17, .pointer none)] (by kernel_rfl); obtain ⟨j, hr⟩ := hr
                replace h : Fit z (sepL (ob62 Bn4 r1 car5 ccr6 car7 ccr8 :: ro2 car5 ccr6 r1.Held :: ro90 car7 ccr8 r1.Book :: ob62 Bn12 r9 car13 ccr14 car15 ccr16 :: ro2 car13 ccr14 r9.Held :: ro90 car15 ccr16 r9.Book :: ob96 Bn21 S20 car22 ccr23 car24 ccr25 :: ro2 car22 ccr23 S20.cell :: ro90 car24 ccr25 S20.log :: L)) _ := h.sel 9 [6, 7, 8, 3, 4, 5, 0, 1, 2] (by kernel_rfl) (by kernel_rfl)
                exact ⟨(), sinj H, j, hr, h⟩
              ·
                replace H := ifF c197 H
                refine cond_tt hr (b := (!(true == (r10 != (0 : Int))))) (by rw [show (true == (r10 != (0 : Int))) = false from (beq_eq_false_iff_ne.mpr c197)]; rfl) ?_
                refine wp_seq ?_
                refine wp_region_lit ?_
                refine ov hr (.bool false) (by kernel_rfl) ?_; clear hr a; intro a hr
                refine wpList_nil ?_
                refine then_normal ?_
                refine wp_ret ?_
                refine then_ret ?_
                refine end_ret1 (v := .bool false) rfl hr (by kernel_rfl) ?_
                replace H := jx0 H hK192
                replace h : Fit z (sepL (L)) _ := h.sel 9 [] (by kernel_rfl) (by kernel_rfl)
                replace H := ej1 H; subst H
                exact ⟨rfl, h⟩
            ·
              replace H := ifF c196 H
              refine op_off ((wg hr rfl rfl rfl (b' := (!(false == (r2 != (0 : Int))))) (by kernel_rfl)).trans (by rw [show (!(false == (r2 != (0 : Int)))) = true from (by rw [show (false == (r2 != (0 : Int))) = false from (beq_eq_false_iff_ne.mpr c196)]; rfl)]; rfl)) rfl rfl hr ?_; clear hr a; intro a hr
              refine op_off ((wg hr rfl rfl rfl (b' := (!(false == (r2 != (0 : Int))))) (by kernel_rfl)).trans (by rw [show (!(false == (r2 != (0 : Int)))) = true from (by rw [show (false == (r2 != (0 : Int))) = false from (beq_eq_false_iff_ne.mpr c196)]; rfl)]; rfl)) rfl rfl hr ?_; clear hr a; intro a hr
              refine op_off ((wg hr rfl rfl rfl (b' := (!(false == (r2 != (0 : Int))))) (by kernel_rfl)).trans (by rw [show (!(false == (r2 != (0 : Int)))) = true from (by rw [show (false == (r2 != (0 : Int))) = false from (beq_eq_false_iff_ne.mpr c196)]; rfl)]; rfl)) rfl rfl hr ?_; clear hr a; intro a hr
              refine op_off ((wg hr rfl rfl rfl (b' := (!(false == (r2 != (0 : Int))))) (by kernel_rfl)).trans (by rw [show (!(false == (r2 != (0 : Int)))) = true from (by rw [show (false == (r2 != (0 : Int))) = false from (beq_eq_false_iff_ne.mpr c196)]; rfl)]; rfl)) rfl rfl hr ?_; clear hr a; intro a hr
              refine op_off ((wg hr rfl rfl rfl (b' := (!(false == (r2 != (0 : Int))))) (by kernel_rfl)).trans (by rw [show (!(false == (r2 != (0 : Int)))) = true from (by rw [show (false == (r2 != (0 : Int))) = false from (beq_eq_false_iff_ne.mpr c196)]; rfl)]; rfl)) rfl rfl hr ?_; clear hr a; intro a hr
              refine op_val (wn rfl) rfl rfl hr (v := .bool true) (rp_t (b := (!(false == (r2 != (0 : Int))))) rfl (by kernel_rfl) (by rw [show (false == (r2 != (0 : Int))) = false from (beq_eq_false_iff_ne.mpr c196)]; rfl) (by kernel_rfl)) ?_; clear hr a; intro a hr
              refine wpList_nil ?_
              refine then_normal ?_
              refine cond_tt hr (b := true) rfl ?_
              refine wp_seq ?_
              refine wp_region_lit ?_
              refine ov hr (.bool false) (by kernel_rfl) ?_; clear hr a; intro a hr
              refine wpList_nil ?_
              refine then_normal ?_
              refine wp_ret ?_
              refine then_ret ?_
              refine end_ret1 (v := .bool false) rfl hr (by kernel_rfl) ?_
              replace H := jx0 H hK192
              replace h : Fit z (sepL (L)) _ := h.sel 9 [] (by kernel_rfl) (by kernel_rfl)
              replace H := ej1 H; subst H
              exact ⟨rfl, h⟩
          ·
            replace H := ifF c195 H
            refine op_off ((wg hr rfl rfl rfl (b' := (r27 != r10)) (by kernel_rfl)).trans (by rw [show (r27 != r10) = true from (bne_iff_ne.mpr c195)]; rfl)) rfl rfl hr ?_; clear hr a; intro a hr
            refine op_off ((wg hr rfl rfl rfl (b' := (r27 != r10)) (by kernel_rfl)).trans (by rw [show (r27 != r10) = true from (bne_iff_ne.mpr c195)]; rfl)) rfl rfl hr ?_; clear hr a; intro a hr
            refine op_off ((wg hr rfl rfl rfl (b' := (r27 != r10)) (by kernel_rfl)).trans (by rw [show (r27 != r10) = true from (bne_iff_ne.mpr c195)]; rfl)) rfl rfl hr ?_; clear hr a; intro a hr
            refine op_off ((wg hr rfl rfl rfl (b' := (r27 != r10)) (by kernel_rfl)).trans (by rw [show (r27 != r10) = true from (bne_iff_ne.mpr c195)]; rfl)) rfl rfl hr ?_; clear hr a; intro a hr
            refine op_off ((wg hr rfl rfl rfl (b' := (r27 != r10)) (by kernel_rfl)).trans (by rw [show (r27 != r10) = true from (bne_iff_ne.mpr c195)]; rfl)) rfl rfl hr ?_; clear hr a; intro a hr
            refine op_val (wn rfl) rfl rfl hr (v := .bool true) (rp_t (b := (r27 != r10)) rfl (by kernel_rfl) (bne_iff_ne.mpr c195) (by kernel_rfl)) ?_; clear hr a; intro a hr
            refine ov hr (.bool true) (by kernel_rfl) ?_; clear hr a; intro a hr
            refine op_off ((wg hr rfl rfl rfl (b' := true) (by kernel_rfl)).trans rfl) rfl rfl hr ?_; clear hr a; intro a hr
            refine op_off ((wg hr rfl rfl rfl (b' := true) (by kernel_rfl)).trans rfl) rfl rfl hr ?_; clear hr a; intro a hr
            refine op_off ((wg hr rfl rfl rfl (b' := true) (by kernel_rfl)).trans rfl) rfl rfl hr ?_; clear hr a; intro a hr
            refine op_off ((wg hr rfl rfl rfl (b' := true) (by kernel_rfl)).trans rfl) rfl rfl hr ?_; clear hr a; intro a hr
            refine op_off ((wg hr rfl rfl rfl (b' := true) (by kernel_rfl)).trans rfl) rfl rfl hr ?_; clear hr a; intro a hr
            refine ov hr (.bool true) (by kernel_rfl) ?_; clear hr a; intro a hr
            refine wpList_nil ?_
            refine then_normal ?_
            refine cond_tt hr (b := true) rfl ?_
            refine wp_seq ?_
            refine wp_region_lit ?_
            refine ov hr (.bool false) (by kernel_rfl) ?_; clear hr a; intro a hr
            refine wpList_nil ?_
            refine then_normal ?_
            refine wp_ret ?_
            refine then_ret ?_
            refine end_ret1 (v := .bool false) rfl hr (by kernel_rfl) ?_
            replace H := jx0 H hK192
            replace h : Fit z (sepL (L)) _ := h.sel 9 [] (by kernel_rfl) (by kernel_rfl)
            replace H := ej1 H; subst H
            exact ⟨rfl, h⟩
        ·
          replace H := ifF c194 H
          refine op_off ((wg hr rfl rfl rfl (b' := (r18 != r2)) (by kernel_rfl)).trans (by rw [show (r18 != r2) = true from (bne_iff_ne.mpr c194)]; rfl)) rfl rfl hr ?_; clear hr a; intro a hr
          refine op_off ((wg hr rfl rfl rfl (b' := (r18 != r2)) (by kernel_rfl)).trans (by rw [show (r18 != r2) = true from (bne_iff_ne.mpr c194)]; rfl)) rfl rfl hr ?_; clear hr a; intro a hr
          refine op_off ((wg hr rfl rfl rfl (b' := (r18 != r2)) (by kernel_rfl)).trans (by rw [show (r18 != r2) = true from (bne_iff_ne.mpr c194)]; rfl)) rfl rfl hr ?_; clear hr a; intro a hr
          refine op_val (wn rfl) rfl rfl hr (v := .bool true) (rp_t (b := (r18 != r2)) rfl (by kernel_rfl) (bne_iff_ne.mpr c194) (by kernel_rfl)) ?_; clear hr a; intro a hr
          refine ov hr (.bool true) (by kernel_rfl) ?_; clear hr a; intro a hr
          refine op_off ((wg hr rfl rfl rfl (b' := true) (by kernel_rfl)).trans rfl) rfl rfl hr ?_; clear hr a; intro a hr
          refine op_off ((wg hr rfl rfl rfl (b' := true) (by kernel_rfl)).trans rfl) rfl rfl hr ?_; clear hr a; intro a hr
          refine op_off ((wg hr rfl rfl rfl (b' := true) (by kernel_rfl)).trans rfl) rfl rfl hr ?_; clear hr a; intro a hr
          refine op_off ((wg hr rfl rfl rfl (b' := true) (by kernel_rfl)).trans rfl) rfl rfl hr ?_; clear hr a; intro a hr
          refine op_off ((wg hr rfl rfl rfl (b' := true) (by kernel_rfl)).trans rfl) rfl rfl hr ?_; clear hr a; intro a hr
          refine ovs [57, 58] [.bool true, .bool true] hr ⟨rfl, rfl⟩ (by kernel_rfl) ?_; clear hr a; intro a hr
          refine op_off ((wg hr rfl rfl rfl (b' := true) (by kernel_rfl)).trans rfl) rfl rfl hr ?_; clear hr a; intro a hr
          refine op_off ((wg hr rfl rfl rfl (b' := true) (by kernel_rfl)).trans rfl) rfl rfl hr ?_; clear hr a; intro a hr
          refine op_off ((wg hr rfl rfl rfl (b' := true) (by kernel_rfl)).trans rfl) rfl rfl hr ?_; clear hr a; intro a hr
          refine op_off ((wg hr rfl rfl rfl (b' := true) (by kernel_rfl)).trans rfl) rfl rfl hr ?_; clear hr a; intro a hr
          refine op_off ((wg hr rfl rfl rfl (b' := true) (by kernel_rfl)).trans rfl) rfl rfl hr ?_; clear hr a; intro a hr
          refine ov hr (.bool true) (by kernel_rfl) ?_; clear hr a; intro a hr
          refine wpList_nil ?_
          refine then_normal ?_
          refine cond_tt hr (b := true) rfl ?_
          refine wp_seq ?_
          refine wp_region_lit ?_
          refine ov hr (.bool false) (by kernel_rfl) ?_; clear hr a; intro a hr
          refine wpList_nil ?_
          refine then_normal ?_
          refine wp_ret ?_
          refine then_ret ?_
          refine end_ret1 (v := .bool false) rfl hr (by kernel_rfl) ?_
          replace H := jx0 H hK192
          replace h : Fit z (sepL (L)) _ := h.sel 9 [] (by kernel_rfl) (by kernel_rfl)
          replace H := ej1 H; subst H
          exact ⟨rfl, h⟩
      clear h hr a; rintro _ a w ⟨rfl, j, hr, h⟩
      replace H := jk0 hK192
      refine wp_seq ?_
      refine wp_region_lit ?_
      refine ov hr (.agg #[.slice none 0 0, .slice none 0 0, .int .i64 0]) (by kernel_rfl) ?_; clear hr a; intro a hr
      refine op_new (wn rfl) rfl rfl hr h (vf := fun b => .pointer (some ⟨b, 0, none⟩)) (cs := #[.slice none 0 0, .slice none 0 0, .int .i64 0]) (T := 78) (by kernel_rfl) ?_; clear h hr a; intro b198 w a h hr
      refine ov hr (.pointer (some ⟨b198, 0, none⟩)) (by kernel_rfl) ?_; clear hr a; intro a hr
      refine wpList_nil ?_
      refine then_normal ?_
      replace H := jd3 H; obtain ⟨o215, H, hK214⟩ := H
      refine cut_rule (β := Unit) (fun _ a w => ∃ ca200 : Option Addr, ∃ cc201 : Nat, ∃ ca202 : Option Addr, ∃ cc203 : Nat, ∃ ca205 : Option Addr, ∃ cc206 : Nat, ∃ ca207 : Option Addr, ∃ cc208 : Nat, ∃ ca210 : Option Addr, ∃ cc211 : Nat, ∃ ca212 : Option Addr, ∃ cc213 : Nat, ∃ S199 : T_plunderref2_Arena, ∃ S204 : T_plunderref2_Arena, ∃ S209 : T_cells_Arena, .inl (S199, S204, S209) = o215 ∧ ∃ j, Rep 141 (lk [(11, .pointer (some ⟨Bn4, 0, none⟩)), (13, .pointer (some ⟨Bn12, 0, none⟩)), (15, .pointer (some ⟨Bn21, 0, none⟩)), (17, .pointer none)] j) a ∧ Fit z (sepL (ob62 Bn4 S199 ca200 cc201 ca202 cc203 :: ro2 ca200 cc201 S199.Held :: ro90 ca202 cc203 S199.Book :: ob62 Bn12 S204 ca205 cc206 ca207 cc208 :: ro2 ca205 cc206 S204.Held :: ro90 ca207 cc208 S204.Book :: ob96 Bn21 S209 ca210 cc211 ca212 cc213 :: ro2 ca210 cc211 S209.cell :: ro90 ca212 cc213 S209.log :: L)) w) ?_ ?_
      ·
        refine wp_seq ?_
        refine wp_region_lit ?_
        refine ov hr (.int .i64 0) (by kernel_rfl) ?_; clear hr a; intro a hr
        refine wpList_nil ?_
        refine then_normal ?_
        refine wp_block ?_
        replace hr := hr.fold2 [(2, .slice va2 p2.length vc2), (3, .bool p3), (4, .bool p4), (11, .pointer (some ⟨Bn4, 0, none⟩)), (13, .pointer (some ⟨Bn12, 0, none⟩)), (15, .pointer (some ⟨Bn21, 0, none⟩)), (17, .pointer none), (19, .pointer (some ⟨b198, 0, none⟩)), (20, .int .i64 0)] (by kernel_rfl); obtain ⟨j, hr⟩ := hr
        replace h : Fit z (sepL (rowN 139 5 own_T_plunderlaw2_kept (.slice none 0 0) ([] : List T_plunderlaw2_kept) :: pts b198 (.cells #[.slice none 0 0, .slice none 0 0, .int .i64 0] 78) :: ob62 Bn4 r1 car5 ccr6 car7 ccr8 :: ro2 car5 ccr6 r1.Held :: ro90 car7 ccr8 r1.Book :: ob62 Bn12 r9 car13 ccr14 car15 ccr16 :: ro2 car13 ccr14 r9.Held :: ro90 car15 ccr16 r9.Book :: ob96 Bn21 S20 car22 ccr23 car24 ccr25 :: ro2 car22 ccr23 S20.cell :: ro90 car24 ccr25 S20.log :: L)) _ := h.rowN_nil
        replace h : Fit z (sepL (rowN 142 5 own_T_plunderlaw2_noted (.slice none 0 0) ([] : List T_plunderlaw2_noted) :: rowN 139 5 own_T_plunderlaw2_kept (.slice none 0 0) ([] : List T_plunderlaw2_kept) :: pts b198 (.cells #[.slice none 0 0, .slice none 0 0, .int .i64 0] 78) :: ob62 Bn4 r1 car5 ccr6 car7 ccr8 :: ro2 car5 ccr6 r1.Held :: ro90 car7 ccr8 r1.Book :: ob62 Bn12 r9 car13 ccr14 car15 ccr16 :: ro2 car13 ccr14 r9.Held :: ro90 car15 ccr16 r9.Book :: ob96 Bn21 S20 car22 ccr23 car24 ccr25 :: ro2 car22 ccr23 S20.cell :: ro90 car24 ccr25 S20.log :: L)) _ := h.rowN_nil
        replace h : Fit z (sepL (ob62 Bn4 r1 car5 ccr6 car7 ccr8 :: ro2 car5 ccr6 r1.Held :: ro90 car7 ccr8 r1.Book :: ob62 Bn12 r9 car13 ccr14 car15 ccr16 :: ro2 car13 ccr14 r9.Held :: ro90 car15 ccr16 r9.Book :: ob96 Bn21 S20 car22 ccr23 car24 ccr25 :: ro2 car22 ccr23 S20.cell :: ro90 car24 ccr25 S20.log :: pts b198 (.cells #[.slice none ((⟨([] : List T_plunderlaw2_kept), ([] : List T_plunderlaw2_noted), 0⟩ : T_plunderlaw2_book).numberLists.length) 0, .slice none ((⟨([] : List T_plunderlaw2_kept), ([] : List T_plunderlaw2_noted), 0⟩ : T_plunderlaw2_book).accessLists.length) 0, .int .i64 ((⟨([] : List T_plunderlaw2_kept), ([] : List T_plunderlaw2_noted), 0⟩ : T_plunderlaw2_book).next)] 78) :: rowN 139 5 own_T_plunderlaw2_kept (.slice none ((⟨([] : List T_plunderlaw2_kept), ([] : List T_plunderlaw2_noted), 0⟩ : T_plunderlaw2_book).numberLists.length) 0) ((⟨([] : List T_plunderlaw2_kept), ([] : List T_plunderlaw2_noted), 0⟩ : T_plunderlaw2_book).numberLists) :: rowN 142 5 own_T_plunderlaw2_noted (.slice none ((⟨([] : List T_plunderlaw2_kept), ([] : List T_plunderlaw2_noted), 0⟩ : T_plunderlaw2_book).accessLists.length) 0) ((⟨([] : List T_plunderlaw2_kept), ([] : List T_plunderlaw2_noted), 0⟩ : T_plunderlaw2_book).accessLists) :: L)) _ := h.sel 12 [3, 4, 5, 6, 7, 8, 9, 10, 11, 2, 1, 0] (by kernel_rfl) (by kernel_rfl)
        refine loop_rule (β := Nat) id (fun m a w => ∃ ca217 : Option Addr, ∃ cc218 : Nat, ∃ ca219 : Option Addr, ∃ cc220 : Nat, ∃ ca222 : Option Addr, ∃ cc223 : Nat, ∃ ca224 : Option Addr, ∃ cc225 : Nat, ∃ ca227 : Option Addr, ∃ cc228 : Nat, ∃ ca229 : Option Addr, ∃ cc230 : Nat, ∃ ca232 : Option Addr, ∃ cc233 : Nat, ∃ ca234 : Option Addr, ∃ cc235 : Nat, ∃ S216 : T_plunderref2_Arena, ∃ S221 : T_plunderref2_Arena, ∃ S226 : T_cells_Arena, ∃ S231 : T_plunderlaw2_book, ∃ g236 : Int, (plunderlaw2_walk_l2 K p2 p3 p4 m S216 S221 S226 S231 g236) = some o215 ∧ ∃ j, Rep 141 (lk [(2, .slice va2 p2.length vc2), (3, .bool p3), (4, .bool p4), (11, .pointer (some ⟨Bn4, 0, none⟩)), (13, .pointer (some ⟨Bn12, 0, none⟩)), (15, .pointer (some ⟨Bn21, 0, none⟩)), (17, .pointer none), (19, .pointer (some ⟨b198, 0, none⟩)), (20, .int .i64 g236)] j) a ∧ Fit z (sepL (ob62 Bn4 S216 ca217 cc218 ca219 cc220 :: ro2 ca217 cc218 S216.Held :: ro90 ca219 cc220 S216.Book :: ob62 Bn12 S221 ca222 cc223 ca224 cc225 :: ro2 ca222 cc223 S221.Held :: ro90 ca224 cc225 S221.Book :: ob96 Bn21 S226 ca227 cc228 ca229 cc230 :: ro2 ca227 cc228 S226.cell :: ro90 ca229 cc230 S226.log :: ob78 b198 S231 ca232 cc233 ca234 cc235 :: rn139 ca232 cc233 S231.numberLists :: rn142 ca234 cc235 S231.accessLists :: L)) w) K ⟨car5, ccr6, car7, ccr8, car13, ccr14, car15, ccr16, car22, ccr23, car24, ccr25, none, 0, none, 0, r1, r9, S20, (⟨([] : List T_plunderlaw2_kept), ([] : List T_plunderlaw2_noted), 0⟩ : T_plunderlaw2_book), 0, H, j, hr, h⟩ ?_
        clear h hr a H; rintro k2 a w ⟨ca217, cc218, ca219, cc220, ca222, cc223, ca224, cc225, ca227, cc228, ca229, cc230, ca232, cc233, ca234, cc235, S216, S221, S226, S231, g236, H, j, hr, h⟩
        cases k2 with
        | zero => exact absurd H (by simp [plunderlaw2_walk_l2])
        | succ k2 =>
          rw [plunderlaw2_walk_l2] at H
          refine wp_seq ?_
          refine wp_seq ?_
          refine wp_region_lit ?_
          refine ovs [67, 68, 69, 70] [.int .i64 g236, .slice va2 p2.length vc2, .int .i64 ((p2.length : Nat) : Int), .bool (decide (g236 < ((p2.length : Nat) : Int)))] hr ⟨rfl, rfl⟩ (by kernel_rfl) ?_; clear hr a; intro a hr
          refine wpList_nil ?_
          refine then_normal ?_
          by_cases c237 : g236 < ((p2.length : Nat) : Int)
          ·
            replace H := ifT c237 H
            refine cond_tt hr (b := (decide (g236 < ((p2.length : Nat) : Int)))) (decide_eq_true c237) ?_
            refine wp_skip ?_
            refine then_normal ?_
            refine wp_seq ?_
            refine wp_block ?_
            refine wp_seq ?_
            refine wp_region_lit ?_
            replace H := gd H; obtain ⟨c238, H⟩ := H
            refine ovs [73, 74] [.slice va2 p2.length vc2, .int .i64 g236] hr ⟨rfl, rfl⟩ (by kernel_rfl) ?_; clear hr a; intro a hr
            refine op_val (wn rfl) rfl rfl hr (v := .pointer (some ⟨blk va2, offs va2 + g236.toNat * 5, none⟩)) (ri_rd (k := .i64) (E := 30) (cc := vc2) rfl (by kernel_rfl) (by kernel_rfl) rfl (by kernel_rfl) (by kernel_rfl) hv2 c238) ?_; clear hr a; intro a hr
            refine op_val (wn rfl) rfl rfl hr (v := .agg #[.int .i64 ((at_ p2 g236.toNat).Side), .int .i64 ((at_ p2 g236.toNat).Kind), .int .i64 ((at_ p2 g236.toNat).Addr), .int .i64 ((at_ p2 g236.toNat).A), .int .i64 ((at_ p2 g236.toNat).B)]) (rlm (cs := [.int .i64 ((at_ p2 g236.toNat).Side), .int .i64 ((at_ p2 g236.toNat).Kind), .int .i64 ((at_ p2 g236.toNat).Addr), .int .i64 ((at_ p2 g236.toNat).A), .int .i64 ((at_ p2 g236.toNat).B)]) rfl (by kernel_rfl) (by kernel_rfl) (by kernel_rfl) ⟨hv2.cell c238 (h.dn 12) 0 rfl, hv2.cell c238 (h.dn 12) 1 rfl, hv2.cell c238 (h.dn 12) 2 rfl, hv2.cell c238 (h.dn 12) 3 rfl, hv2.cell c238 (h.dn 12) 4 rfl, trivial⟩) ?_; clear hr a; intro a hr
            refine op_new (wn rfl) rfl rfl hr h (vf := fun b => .pointer (some ⟨b, 0, none⟩)) (cs := #[.int .i64 0, .int .i64 0, .int .i64 0, .int .i64 0, .int .i64 0]) (T := 30) (by kernel_rfl) ?_; clear h hr a; intro b239 w a h hr
            refine op_stores (wn rfl) rfl hr rfl (by kernel_rfl) (by kernel_rfl) (vs := [.int .i64 ((at_ p2 g236.toNat).Side), .int .i64 ((at_ p2 g236.toNat).Kind), .int .i64 ((at_ p2 g236.toNat).Addr), .int .i64 ((at_ p2 g236.toNat).A), .int .i64 ((at_ p2 g236.toNat).B)]) rfl rfl (by kernel_rfl) h (i := 0) (cs' := #[.int .i64 ((at_ p2 g236.toNat).Side), .int .i64 ((at_ p2 g236.toNat).Kind), .int .i64 ((at_ p2 g236.toNat).Addr), .int .i64 ((at_ p2 g236.toNat).A), .int .i64 ((at_ p2 g236.toNat).B)]) rfl ?_; clear h; intro w h
            refine wpList_nil ?_
            replace h : Fit z (sepL (ob30 b239 (at_ p2 g236.toNat) :: ob62 Bn4 S216 ca217 cc218 ca219 cc220 :: ro2 ca217 cc218 S216.Held :: ro90 ca219 cc220 S216.Book :: ob62 Bn12 S221 ca222 cc223 ca224 cc225 :: ro2 ca222 cc223 S221.Held :: ro90 ca224 cc225 S221.Book :: ob96 Bn21 S226 ca227 cc228 ca229 cc230 :: ro2 ca227 cc228 S226.cell :: ro90 ca229 cc230 S226.log :: ob78 b198 S231 ca232 cc233 ca234 cc235 :: rn139 ca232 cc233 S231.numberLists :: rn142 ca234 cc235 S231.accessLists :: L)) _ := h
            refine then_normal ?_
            refine wp_seq ?_
            refine wp_region_lit ?_
            refine ov hr (.bool false) (by kernel_rfl) ?_; clear hr a; intro a hr
            refine wpList_nil ?_
            refine then_normal ?_
            replace H := kd5 H; obtain ⟨o262, H, hK261⟩ := H
            refine cut_rule (β := Unit) (fun _ a w => ∃ ca241 : Option Addr, ∃ cc242 : Nat, ∃ ca243 : Option Addr, ∃ cc244 : Nat, ∃ ca246 : Option Addr, ∃ cc247 : Nat, ∃ ca248 : Option Addr, ∃ cc249 : Nat, ∃ ca251 : Option Addr, ∃ cc252 : Nat, ∃ ca253 : Option Addr, ∃ cc254 : Nat, ∃ ca256 : Option Addr, ∃ cc257 : Nat, ∃ ca258 : Option Addr, ∃ cc259 : Nat, ∃ S240 : T_plunderref2_Arena, ∃ S245 : T_plunderref2_Arena, ∃ S250 : T_cells_Arena, ∃ S255 : T_plunderlaw2_book, ∃ g260 : Bool, (S240, S245, S250, S255, g260) = o262 ∧ ∃ j, Rep 141 (lk [(2, .slice va2 p2.length vc2), (3, .bool p3), (4, .bool p4), (11, .pointer (some ⟨Bn4, 0, none⟩)), (13, .pointer (some ⟨Bn12, 0, none⟩)), (15, .pointer (some ⟨Bn21, 0, none⟩)), (17, .pointer none), (19, .pointer (some ⟨b198, 0, none⟩)), (20, .int .i64 g236), (22, .bool g260)] j) a ∧ Fit z (sepL (ob62 Bn4 S240 ca241 cc242 ca243 cc244 :: ro2 ca241 cc242 S240.Held :: ro90 ca243 cc244 S240.Book :: ob62 Bn12 S245 ca246 cc247 ca248 cc249 :: ro2 ca246 cc247 S245.Held :: ro90 ca248 cc249 S245.Book :: ob96 Bn21 S250 ca251 cc252 ca253 cc254 :: ro2 ca251 cc252 S250.cell :: ro90 ca253 cc254 S250.log :: ob78 b198 S255 ca256 cc257 ca258 cc259 :: rn139 ca256 cc257 S255.numberLists :: rn142 ca258 cc259 S255.accessLists :: L)) w) ?_ ?_
            ·
              replace H := kd1 H; obtain ⟨o265, H, hK264⟩ := H
              refine cut_rule (β := Unit) (fun _ a w => ∃ g263 : Bool, g263 = o265 ∧ ∃ j, Rep 141 (lk [(2, .slice va2 p2.length vc2), (3, .bool p3), (4, .bool p4), (11, .pointer (some ⟨Bn4, 0, none⟩)), (13, .pointer (some ⟨Bn12, 0, none⟩)), (15, .pointer (some ⟨Bn21, 0, none⟩)), (17, .pointer none), (19, .pointer (some ⟨b198, 0, none⟩)), (20, .int .i64 g236), (21, .pointer (some ⟨b239, 0, none⟩)), (83, .bool g263)] j) a ∧ Fit z (sepL (ob62 Bn4 S216 ca217 cc218 ca219 cc220 :: ro2 ca217 cc218 S216.Held :: ro90 ca219 cc220 S216.Book :: ob62 Bn12 S221 ca222 cc223 ca224 cc225 :: ro2 ca222 cc223 S221.Held :: ro90 ca224 cc225 S221.Book :: ob96 Bn21 S226 ca227 cc228 ca229 cc230 :: ro2 ca227 cc228 S226.cell :: ro90 ca229 cc230 S226.log :: ob78 b198 S231 ca232 cc233 ca234 cc235 :: rn139 ca232 cc233 S231.numberLists :: rn142 ca234 cc235 S231.accessLists :: ob30 b239 (at_ p2 g236.toNat) :: L)) w) ?_ ?_
              ·
                refine wp_region_lit ?_
                refine ovs [77, 78] [.bool p3, .bool p3] hr ⟨rfl, rfl⟩ (by kernel_rfl) ?_; clear hr a; intro a hr
                by_cases c266 : p3 = true
                ·
                  replace H := ifT c266 H
                  refine op_off ((wg hr rfl rfl rfl (b' := p3) (by kernel_rfl)).trans (by rw [show p3 = true from (c266)]; rfl)) rfl rfl hr ?_; clear hr a; intro a hr
                  refine op_off ((wg hr rfl rfl rfl (b' := p3) (by kernel_rfl)).trans (by rw [show p3 = true from (c266)]; rfl)) rfl rfl hr ?_; clear hr a; intro a hr
                  refine op_off ((wg hr rfl rfl rfl (b' := p3) (by kernel_rfl)).trans (by rw [show p3 = true from (c266)]; rfl)) rfl rfl hr ?_; clear hr a; intro a hr
                  refine op_off ((wg hr rfl rfl rfl (b' := p3) (by kernel_rfl)).trans (by rw [show p3 = true from (c266)]; rfl)) rfl rfl hr ?_; clear hr a; intro a hr
                  refine op_val (wn rfl) rfl rfl hr (v := .bool true) (rp_t (b := p3) rfl (by kernel_rfl) (c266) (by kernel_rfl)) ?_; clear hr a; intro a hr
                  refine wpList_nil ?_
                  refine then_normal ?_
                  replace hr := hr.fold2 [(2, .slice va2 p2.length vc2), (3, .bool p3), (4, .bool p4), (11, .pointer (some ⟨Bn4, 0, none⟩)), (13, .pointer (some ⟨Bn12, 0, none⟩)), (15, .pointer (some ⟨Bn21, 0, none⟩)), (17, .pointer none), (19, .pointer (some ⟨b198, 0, none⟩)), (20, .int .i64 g236), (21, .pointer (some ⟨b239, 0, none⟩)), (83, .bool true)] (by kernel_rfl); obtain ⟨j, hr⟩ := hr
                  replace h : Fit z (sepL (ob62 Bn4 S216 ca217 cc218 ca219 cc220 :: ro2 ca217 cc218 S216.Held :: ro90 ca219 cc220 S216.Book :: ob62 Bn12 S221 ca222 cc223 ca224 cc225 :: ro2 ca222 cc223 S221.Held :: ro90 ca224 cc225 S221.Book :: ob96 Bn21 S226 ca227 cc228 ca229 cc230 :: ro2 ca227 cc228 S226.cell :: ro90 ca229 cc230 S226.log :: ob78 b198 S231 ca232 cc233 ca234 cc235 :: rn139 ca232 cc233 S231.numberLists :: rn142 ca234 cc235 S231.accessLists :: ob30 b239 (at_ p2 g236.toNat) :: L)) _ := h.sel 13 [1, 2, 3, 4, 5, 6, 7, 8, 9, 10, 11, 12, 0] (by kernel_rfl) (by kernel_rfl)
                  exact ⟨(), true, sinj H, j, hr, h⟩
                ·
                  replace H := ifF c266 H
                  refine op_val ((wg hr rfl rfl rfl (b' := p3) (by kernel_rfl)).trans (by rw [show p3 = false from (bF c266)]; rfl)) rfl rfl hr (v := .pointer (some ⟨b239, 0, none⟩)) (by kernel_rfl) ?_; clear hr a; intro a hr
                  refine op_val ((wg hr rfl rfl rfl (b' := p3) (by kernel_rfl)).trans (by rw [show p3 = false from (bF c266)]; rfl)) rfl rfl hr (v := .int .i64 ((at_ p2 g236.toNat).Side)) (rl rfl (by kernel_rfl) (by kernel_rfl) (h.cell 0 rfl)) ?_; clear hr a; intro a hr
                  replace H := bd1 H; obtain ⟨r267, e268, H⟩ := H
                  have hc := plunderlaw2_mod_ok (H := e268) (h := h)
                  refine op_call ((wg hr rfl rfl rfl (b' := p3) (by kernel_rfl)).trans (by rw [show p3 = false from (bF c266)]; rfl)) rfl rfl hr (f := 23) (args := #[.int .i64 ((at_ p2 g236.toNat).Side), .int .i64 2]) (by kernel_rfl) hc ?_; clear hc h
                  rintro _ w ⟨rfl, h⟩; refine ⟨_, rfl, ?_⟩
                  clear hr a; intro a hr
                  refine op_val ((wg hr rfl rfl rfl (b' := p3) (by kernel_rfl)).trans (by rw [show p3 = false from (bF c266)]; rfl)) rfl rfl hr (v := .bool (r267 == (0 : Int))) (by kernel_rfl) ?_; clear hr a; intro a hr
                  refine op_val (wn rfl) rfl rfl hr (v := .bool (r267 == (0 : Int))) (rp_f (b := p3) rfl (by kernel_rfl) (bF c266) (by kernel_rfl)) ?_; clear hr a; intro a hr
                  refine wpList_nil ?_
                  refine then_normal ?_
                  replace hr := hr.fold2 [(2, .slice va2 p2.length vc2), (3, .bool p3), (4, .bool p4), (11, .pointer (some ⟨Bn4, 0, none⟩)), (13, .pointer (some ⟨Bn12, 0, none⟩)), (15, .pointer (some ⟨Bn21, 0, none⟩)), (17, .pointer none), (19, .pointer (some ⟨b198, 0, none⟩)), (20, .int .i64 g236), (21, .pointer (some ⟨b239, 0, none⟩)), (83, .bool (r267 == (0 : Int)))] (by kernel_rfl); obtain ⟨j, hr⟩ := hr
                  replace h : Fit z (sepL (ob62 Bn4 S216 ca217 cc218 ca219 cc220 :: ro2 ca217 cc218 S216.Held :: ro90 ca219 cc220 S216.Book :: ob62 Bn12 S221 ca222 cc223 ca224 cc225 :: ro2 ca222 cc223 S221.Held :: ro90 ca224 cc225 S221.Book :: ob96 Bn21 S226 ca227 cc228 ca229 cc230 :: ro2 ca227 cc228 S226.cell :: ro90 ca229 cc230 S226.log :: ob78 b198 S231 ca232 cc233 ca234 cc235 :: rn139 ca232 cc233 S231.numberLists :: rn142 ca234 cc235 S231.accessLists :: ob30 b239 (at_ p2 g236.toNat) :: L)) _ := h.sel 13 [1, 2, 3, 4, 5, 6, 7, 8, 9, 10, 11, 12, 0] (by kernel_rfl) (by kernel_rfl)
                  exact ⟨(), (r267 == (0 : Int)), sinj H, j, hr, h⟩
              clear h hr a; rintro _ a w ⟨g263, rfl, j, hr, h⟩
              replace H := kk1 hK264
              by_cases c269 : g263 = true
              ·
                replace H := ifT c269 H
                refine cond_tt hr (b := g263) (c269) ?_
                refine wp_region_lit ?_
                refine ovs [84, 85] [.pointer (some ⟨Bn21, 0, none⟩), .pointer (some ⟨Bn4, 0, none⟩)] hr ⟨rfl, rfl⟩ (by kernel_rfl) ?_; clear hr a; intro a hr
                refine op_val (wn rfl) rfl rfl hr (v := .agg #[.int .i64 ((at_ p2 g236.toNat).Side), .int .i64 ((at_ p2 g236.toNat).Kind), .int .i64 ((at_ p2 g236.toNat).Addr), .int .i64 ((at_ p2 g236.toNat).A), .int .i64 ((at_ p2 g236.toNat).B)]) (rlm (cs := [.int .i64 ((at_ p2 g236.toNat).Side), .int .i64 ((at_ p2 g236.toNat).Kind), .int .i64 ((at_ p2 g236.toNat).Addr), .int .i64 ((at_ p2 g236.toNat).A), .int .i64 ((at_ p2 g236.toNat).B)]) rfl (by kernel_rfl) (by kernel_rfl) (by kernel_rfl) ⟨(h.pick 12).cell 0 rfl, (h.pick 12).cell 1 rfl, (h.pick 12).cell 2 rfl, (h.pick 12).cell 3 rfl, (h.pick 12).cell 4 rfl, trivial⟩) ?_; clear hr a; intro a hr
                replace H := bd4 H; obtain ⟨r270, S271, S272, S273, e274, H⟩ := H
                refine ov hr (.pointer (some ⟨b198, 0, none⟩)) (by kernel_rfl) ?_; clear hr a; intro a hr
                replace h : Fit z (sepL (ob96 Bn21 S226 ca227 cc228 ca229 cc230 :: ro2 ca227 cc228 S226.cell :: ro90 ca229 cc230 S226.log :: ob62 Bn4 S216 ca217 cc218 ca219 cc220 :: ro2 ca217 cc218 S216.Held :: ro90 ca219 cc220 S216.Book :: ob78 b198 S231 ca232 cc233 ca234 cc235 :: rn139 ca232 cc233 S231.numberLists :: rn142 ca234 cc235 S231.accessLists :: ob62 Bn12 S221 ca222 cc223 ca224 cc225 :: ro2 ca222 cc223 S221.Held :: ro90 ca224 cc225 S221.Book :: ob30 b239 (at_ p2 g236.toNat) :: L)) _ := h.sel 13 [6, 7, 8, 0, 1, 2, 9, 10, 11, 3, 4, 5, 12] (by kernel_rfl) (by kernel_rfl)
                have hc := plunderlaw2_plays_ok (H := e274) (h := h)
                refine op_call (wn rfl) rfl rfl hr (f := 69) (args := #[.pointer (some ⟨Bn21, 0, none⟩), .pointer (some ⟨Bn4, 0, none⟩), .agg #[.int .i64 ((at_ p2 g236.toNat).Side), .int .i64 ((at_ p2 g236.toNat).Kind), .int .i64 ((at_ p2 g236.toNat).Addr), .int .i64 ((at_ p2 g236.toNat).A), .int .i64 ((at_ p2 g236.toNat).B)], .pointer (some ⟨b198, 0, none⟩)]) (by kernel_rfl) hc ?_; clear hc h
                rintro _ w ⟨caq275, ccq276, caq277, ccq278, caq279, ccq280, caq281, ccq282, caq283, ccq284, caq285, ccq286, rfl, h⟩; refine ⟨_, rfl, ?_⟩
                clear hr a; intro a hr
                refine ov hr (.bool r270) (by kernel_rfl) ?_; clear hr a; intro a hr
                refine wpList_nil ?_
                refine then_normal ?_
                replace hr := hr.fold2 [(2, .slice va2 p2.length vc2), (3, .bool p3), (4, .bool p4), (11, .pointer (some ⟨Bn4, 0, none⟩)), (13, .pointer (some ⟨Bn12, 0, none⟩)), (15, .pointer (some ⟨Bn21, 0, none⟩)), (17, .pointer none), (19, .pointer (some ⟨b198, 0, none⟩)), (20, .int .i64 g236), (22, .bool r270)] (by kernel_rfl); obtain ⟨j, hr⟩ := hr
                replace h : Fit z (sepL (ob62 Bn4 S272 caq279 ccq280 caq281 ccq282 :: ro2 caq279 ccq280 S272.Held :: ro90 caq281 ccq282 S272.Book :: ob62 Bn12 S221 ca222 cc223 ca224 cc225 :: ro2 ca222 cc223 S221.Held :: ro90 ca224 cc225 S221.Book :: ob96 Bn21 S271 caq275 ccq276 caq277 ccq278 :: ro2 caq275 ccq276 S271.cell :: ro90 caq277 ccq278 S271.log :: ob78 b198 S273 caq283 ccq284 caq285 ccq286 :: rn139 caq283 ccq284 S273.numberLists :: rn142 caq285 ccq286 S273.accessLists :: L)) _ := h.sel 13 [3, 4, 5, 9, 10, 11, 0, 1, 2, 6, 7, 8] (by kernel_rfl) (by kernel_rfl)
                exact ⟨(), caq279, ccq280, caq281, ccq282, ca222, cc223, ca224, cc225, caq275, ccq276, caq277, ccq278, caq283, ccq284, caq285, ccq286, S272, S221, S271, S273, r270, sinj H, j, hr, h⟩
              ·
                replace H := ifF c269 H
                refine cond_ff hr (b := g263) (bF c269) ?_
                refine wp_region_lit ?_
                refine ovs [89, 90] [.pointer none, .pointer (some ⟨Bn12, 0, none⟩)] hr ⟨rfl, rfl⟩ (by kernel_rfl) ?_; clear hr a; intro a hr
                refine op_val (wn rfl) rfl rfl hr (v := .agg #[.int .i64 ((at_ p2 g236.toNat).Side), .int .i64 ((at_ p2 g236.toNat).Kind), .int .i64 ((at_ p2 g236.toNat).Addr), .int .i64 ((at_ p2 g236.toNat).A), .int .i64 ((at_ p2 g236.toNat).B)]) (rlm (cs := [.int .i64 ((at_ p2 g236.toNat).Side), .int .i64 ((at_ p2 g236.toNat).Kind), .int .i64 ((at_ p2 g236.toNat).Addr), .int .i64 ((at_ p2 g236.toNat).A), .int .i64 ((at_ p2 g236.toNat).B)]) rfl (by kernel_rfl) (by kernel_rfl) (by kernel_rfl) ⟨(h.pick 12).cell 0 rfl, (h.pick 12).cell 1 rfl, (h.pick 12).cell 2 rfl, (h.pick 12).cell 3 rfl, (h.pick 12).cell 4 rfl, trivial⟩) ?_; clear hr a; intro a hr
                replace H := bd3 H; obtain ⟨r287, S288, S289, e290, H⟩ := H
                refine ov hr (.pointer (some ⟨b198, 0, none⟩)) (by kernel_rfl) ?_; clear hr a; intro a hr
                replace h : Fit z (sepL (ob62 Bn12 S221 ca222 cc223 ca224 cc225 :: ro2 ca222 cc223 S221.Held :: ro90 ca224 cc225 S221.Book :: ob78 b198 S231 ca232 cc233 ca234 cc235 :: rn139 ca232 cc233 S231.numberLists :: rn142 ca234 cc235 S231.accessLists :: ob62 Bn4 S216 ca217 cc218 ca219 cc220 :: ro2 ca217 cc218 S216.Held :: ro90 ca219 cc220 S216.Book :: ob96 Bn21 S226 ca227 cc228 ca229 cc230 :: ro2 ca227 cc228 S226.cell :: ro90 ca229 cc230 S226.log :: ob30 b239 (at_ p2 g236.toNat) :: L)) _ := h.sel 13 [3, 4, 5, 9, 10, 11, 0, 1, 2, 6, 7, 8, 12] (by kernel_rfl) (by kernel_rfl)
                have hc := plunderlaw2_plays_nil_ok (H := e290) (h := h)
                refine op_call (wn rfl) rfl rfl hr (f := 69) (args := #[.pointer none, .pointer (some ⟨Bn12, 0, none⟩), .agg #[.int .i64 ((at_ p2 g236.toNat).Side), .int .i64 ((at_ p2 g236.toNat).Kind), .int .i64 ((at_ p2 g236.toNat).Addr), .int .i64 ((at_ p2 g236.toNat).A), .int .i64 ((at_ p2 g236.toNat).B)], .pointer (some ⟨b198, 0, none⟩)]) (by kernel_rfl) hc ?_; clear hc h
                rintro _ w ⟨caq291, ccq292, caq293, ccq294, caq295, ccq296, caq297, ccq298, rfl, h⟩; refine ⟨_, rfl, ?_⟩
                clear hr a; intro a hr
                refine ov hr (.bool r287) (by kernel_rfl) ?_; clear hr a; intro a hr
                refine wpList_nil ?_
                refine then_normal ?_
                replace hr := hr.fold2 [(2, .slice va2 p2.length vc2), (3, .bool p3), (4, .bool p4), (11, .pointer (some ⟨Bn4, 0, none⟩)), (13, .pointer (some ⟨Bn12, 0, none⟩)), (15, .pointer (some ⟨Bn21, 0, none⟩)), (17, .pointer none), (19, .pointer (some ⟨b198, 0, none⟩)), (20, .int .i64 g236), (22, .bool r287)] (by kernel_rfl); obtain ⟨j, hr⟩ := hr
                replace h : Fit z (sepL (ob62 Bn4 S216 ca217 cc218 ca219 cc220 :: ro2 ca217 cc218 S216.Held :: ro90 ca219 cc220 S216.Book :: ob62 Bn12 S288 caq291 ccq292 caq293 ccq294 :: ro2 caq291 ccq292 S288.Held :: ro90 caq293 ccq294 S288.Book :: ob96 Bn21 S226 ca227 cc228 ca229 cc230 :: ro2 ca227 cc228 S226.cell :: ro90 ca229 cc230 S226.log :: ob78 b198 S289 caq295 ccq296 caq297 ccq298 :: rn139 caq295 ccq296 S289.numberLists :: rn142 caq297 ccq298 S289.accessLists :: L)) _ := h.sel 13 [6, 7, 8, 0, 1, 2, 9, 10, 11, 3, 4, 5] (by kernel_rfl) (by kernel_rfl)
                exact ⟨(), ca217, cc218, ca219, cc220, caq291, ccq292, caq293, ccq294, ca227, cc228, ca229, cc230, caq295, ccq296, caq297, ccq298, S216, S288, S226, S289, r287, sinj H, j, hr, h⟩
            clear h hr a; rintro _ a w ⟨ca241, cc242, ca243, cc244, ca246, cc247, ca248, cc249, ca251, cc252, ca253, cc254, ca256, cc257, ca258, cc259, S240, S245, S250, S255, g260, rfl, j, hr, h⟩
            replace H := kk5 hK261
            refine wp_seq ?_
            refine wp_seq ?_
            refine wp_region_lit ?_
            refine ovs [94, 95] [.bool g260, .bool (!g260)] hr ⟨rfl, rfl⟩ (by kernel_rfl) ?_; clear hr a; intro a hr
            refine wpList_nil ?_
            refine then_normal ?_
            by_cases c299 : g260 = true
            ·
              replace H := ifT c299 H
              refine cond_ff hr (b := (!g260)) (by rw [show g260 = true from (c299)]; rfl) ?_
              refine wp_skip ?_
              refine then_normal ?_
              refine wp_seq ?_
              refine wp_region_lit ?_
              refine ov hr (.bool p4) (by kernel_rfl) ?_; clear hr a; intro a hr
              refine wpList_nil ?_
              refine then_normal ?_
              by_cases c300 : p4 = true
              ·
                replace H := ifT c300 H
                refine cond_tt hr (b := p4) (c300) ?_
                refine wp_seq ?_
                refine wp_region_lit ?_
                replace H := bd1 H; obtain ⟨r301, e302, H⟩ := H
                refine ov hr (.pointer (some ⟨b198, 0, none⟩)) (by kernel_rfl) ?_; clear hr a; intro a hr
                replace h : Fit z (sepL (ob78 b198 S255 ca256 cc257 ca258 cc259 :: rn139 ca256 cc257 S255.numberLists :: rn142 ca258 cc259 S255.accessLists :: ob62 Bn4 S240 ca241 cc242 ca243 cc244 :: ro2 ca241 cc242 S240.Held :: ro90 ca243 cc244 S240.Book :: ob62 Bn12 S245 ca246 cc247 ca248 cc249 :: ro2 ca246 cc247 S245.Held :: ro90 ca248 cc249 S245.Book :: ob96 Bn21 S250 ca251 cc252 ca253 cc254 :: ro2 ca251 cc252 S250.cell :: ro90 ca253 cc254 S250.log :: L)) _ := h.sel 12 [9, 10, 11, 0, 1, 2, 3, 4, 5, 6, 7, 8] (by kernel_rfl) (by kernel_rfl)
                have hc := plunderlaw2_book_stands_ok (H := e302) (h := h)
                refine op_call (wn rfl) rfl rfl hr (f := 45) (args := #[.pointer (some ⟨b198, 0, none⟩)]) (by kernel_rfl) hc ?_; clear hc h
                rintro _ w ⟨rfl, h⟩; refine ⟨_, rfl, ?_⟩
                clear hr a; intro a hr
                refine ov hr (.bool r301) (by kernel_rfl) ?_; clear hr a; intro a hr
                refine wpList_nil ?_
                refine then_normal ?_
                refine wp_seq ?_
                refine wp_region_lit ?_
                refine ovs [99, 100] [.bool r301, .bool (!r301)] hr ⟨rfl, rfl⟩ (by kernel_rfl) ?_; clear hr a; intro a hr
                refine wpList_nil ?_
                refine then_normal ?_
                by_cases c303 : r301 = true
                ·
                  replace H := ifT c303 H
                  refine cond_ff hr (b := (!r301)) (by rw [show r301 = true from (c303)]; rfl) ?_
                  refine wp_skip ?_
                  refine blk_normal ?_
                  refine then_normal ?_
                  refine wp_region_lit ?_
                  refine ovs [71, 72, 20] [.int .i64 g236, .int .i64 (wi (g236 + (1 : Int))), .int .i64 (wi (g236 + (1 : Int)))] hr ⟨rfl, rfl⟩ (by kernel_rfl) ?_; clear hr a; intro a hr
                  refine wpList_nil ?_
                  refine then_normal ?_
                  replace hr := hr.fold2 [(2, .slice va2 p2.length vc2), (3, .bool p3), (4, .bool p4), (11, .pointer (some ⟨Bn4, 0, none⟩)), (13, .pointer (some ⟨Bn12, 0, none⟩)), (15, .pointer (some ⟨Bn21, 0, none⟩)), (17, .pointer none), (19, .pointer (some ⟨b198, 0, none⟩)), (20, .int .i64 (wi (g236 + (1 : Int))))] (by kernel_rfl); obtain ⟨j, hr⟩ := hr
                  replace h : Fit z (sepL (ob62 Bn4 S240 ca241 cc242 ca243 cc244 :: ro2 ca241 cc242 S240.Held :: ro90 ca243 cc244 S240.Book :: ob62 Bn12 S245 ca246 cc247 ca248 cc249 :: ro2 ca246 cc247 S245.Held :: ro90 ca248 cc249 S245.Book :: ob96 Bn21 S250 ca251 cc252 ca253 cc254 :: ro2 ca251 cc252 S250.cell :: ro90 ca253 cc254 S250.log :: ob78 b198 S255 ca256 cc257 ca258 cc259 :: rn139 ca256 cc257 S255.numberLists :: rn142 ca258 cc259 S255.accessLists :: L)) _ := h.sel 12 [3, 4, 5, 6, 7, 8, 9, 10, 11, 0, 1, 2] (by kernel_rfl) (by kernel_rfl)
                  exact ⟨_, ⟨ca241, cc242, ca243, cc244, ca246, cc247, ca248, cc249, ca251, cc252, ca253, cc254, ca256, cc257, ca258, cc259, S240, S245, S250, S255, (wi (g236 + (1 : Int))), H, j, hr, h⟩, Nat.lt_succ_self _⟩
                ·
                  replace H := ifF c303 H
                  refine cond_tt hr (b := (!r301)) (by rw [show r301 = false from (bF c303)]; rfl) ?_
                  refine wp_seq ?_
                  refine wp_region_lit ?_
                  refine ov hr (.bool false) (by kernel_rfl) ?_; clear hr a; intro a hr
                  refine wpList_nil ?_
                  refine then_normal ?_
                  refine wp_ret ?_
                  refine blk_ret ?_
                  refine then_ret ?_
                  refine then_ret ?_
                  refine blk_ret ?_
                  refine then_ret ?_
                  refine end_ret1 (v := .bool false) rfl hr (by kernel_rfl) ?_
                  replace H := jx3 H hK214
                  replace h : Fit z (sepL (L)) _ := h.sel 12 [] (by kernel_rfl) (by kernel_rfl)
                  replace H := ej1 H; subst H
                  exact ⟨rfl, h⟩
              ·
                replace H := ifF c300 H
                refine cond_ff hr (b := p4) (bF c300) ?_
                refine wp_skip ?_
                refine blk_normal ?_
                refine then_normal ?_
                refine wp_region_lit ?_
                refine ovs [71, 72, 20] [.int .i64 g236, .int .i64 (wi (g236 + (1 : Int))), .int .i64 (wi (g236 + (1 : Int)))] hr ⟨rfl, rfl⟩ (by kernel_rfl) ?_; clear hr a; intro a hr
                refine wpList_nil ?_
                refine then_normal ?_
                replace hr := hr.fold2 [(2, .slice va2 p2.length vc2), (3, .bool p3), (4, .bool p4), (11, .pointer (some ⟨Bn4, 0, none⟩)), (13, .pointer (some ⟨Bn12, 0, none⟩)), (15, .pointer (some ⟨Bn21, 0, none⟩)), (17, .pointer none), (19, .pointer (some ⟨b198, 0, none⟩)), (20, .int .i64 (wi (g236 + (1 : Int))))] (by kernel_rfl); obtain ⟨j, hr⟩ := hr
                exact ⟨_, ⟨ca241, cc242, ca243, cc244, ca246, cc247, ca248, cc249, ca251, cc252, ca253, cc254, ca256, cc257, ca258, cc259, S240, S245, S250, S255, (wi (g236 + (1 : Int))), H, j, hr, h⟩, Nat.lt_succ_self _⟩
            ·
              replace H := ifF c299 H
              refine cond_tt hr (b := (!g260)) (by rw [show g260 = false from (bF c299)]; rfl) ?_
              refine wp_seq ?_
              refine wp_region_lit ?_
              refine ov hr (.bool false) (by kernel_rfl) ?_; clear hr a; intro a hr
              refine wpList_nil ?_
              refine then_normal ?_
              refine wp_ret ?_
              refine then_ret ?_
              refine blk_ret ?_
              refine then_ret ?_
              refine then_ret ?_
              refine blk_ret ?_
              refine then_ret ?_
              refine end_ret1 (v := .bool false) rfl hr (by kernel_rfl) ?_
              replace H := jx3 H hK214
              replace h : Fit z (sepL (L)) _ := h.sel 12 [] (by kernel_rfl) (by kernel_rfl)
              replace H := ej1 H; subst H
              exact ⟨rfl, h⟩
          ·
            replace H := ifF c237 H
            refine cond_ff hr (b := (decide (g236 < ((p2.length : Nat) : Int)))) (decide_eq_false c237) ?_
            refine wp_exit ?_
            refine then_exit ?_
            refine then_exit ?_
            refine blk_here ?_
            refine then_normal ?_
            replace hr := hr.fold2 [(11, .pointer (some ⟨Bn4, 0, none⟩)), (13, .pointer (some ⟨Bn12, 0, none⟩)), (15, .pointer (some ⟨Bn21, 0, none⟩)), (17, .pointer none)] (by kernel_rfl); obtain ⟨j, hr⟩ := hr
            replace h : Fit z (sepL (ob62 Bn4 S216 ca217 cc218 ca219 cc220 :: ro2 ca217 cc218 S216.Held :: ro90 ca219 cc220 S216.Book :: ob62 Bn12 S221 ca222 cc223 ca224 cc225 :: ro2 ca222 cc223 S221.Held :: ro90 ca224 cc225 S221.Book :: ob96 Bn21 S226 ca227 cc228 ca229 cc230 :: ro2 ca227 cc228 S226.cell :: ro90 ca229 cc230 S226.log :: L)) _ := h.sel 12 [0, 1, 2, 3, 4, 5, 6, 7, 8] (by kernel_rfl) (by kernel_rfl)
            exact ⟨(), ca217, cc218, ca219, cc220, ca222, cc223, ca224, cc225, ca227, cc228, ca229, cc230, S216, S221, S226, sinj H, j, hr, h⟩
      clear h hr a; rintro _ a w ⟨ca200, cc201, ca202, cc203, ca205, cc206, ca207, cc208, ca210, cc211, ca212, cc213, S199, S204, S209, rfl, j, hr, h⟩
      replace H := jk3 hK214
      refine wp_seq ?_
      refine wp_seq ?_
      refine wp_region_lit ?_
      refine ovs [101, 102, 103] [.pointer (some ⟨Bn21, 0, none⟩), .bool false, .bool false] hr ⟨rfl, rfl⟩ (by kernel_rfl) ?_; clear hr a; intro a hr
      refine op_val ((wg hr rfl rfl rfl (b' := false) (by kernel_rfl)).trans rfl) rfl rfl hr (v := .pointer none) (by kernel_rfl) ?_; clear hr a; intro a hr
      refine op_val ((wg hr rfl rfl rfl (b' := false) (by kernel_rfl)).trans rfl) rfl rfl hr (v := .bool true) (by kernel_rfl) ?_; clear hr a; intro a hr
      refine ov hr (.bool true) (by kernel_rfl) ?_; clear hr a; intro a hr
      refine wpList_nil ?_
      refine then_normal ?_
      refine cond_tt hr (b := true) rfl ?_
      refine wp_seq ?_
      refine wp_region_lit ?_
      refine ov hr (.bool true) (by kernel_rfl) ?_; clear hr a; intro a hr
      refine wpList_nil ?_
      refine then_normal ?_
      refine wp_ret ?_
      refine then_ret ?_
      refine end_ret1 (v := .bool true) rfl hr (by kernel_rfl) ?_
      replace h : Fit z (sepL (L)) _ := h.sel 9 [] (by kernel_rfl) (by kernel_rfl)
      replace H := ej1 H; subst H
      exact ⟨rfl, h⟩
  | none =>
    have hc := cells_New_ok1 (H := e19) (h := h)
    refine op_call (wn rfl) rfl rfl hr (f := 19) (args := #[.int .i64 p0]) (by kernel_rfl) hc ?_; clear hc h
    rintro _ w ⟨rfl, h⟩; refine ⟨_, rfl, ?_⟩
    clear hr a; intro a hr
    refine ovs [33, 36, 37, 15, 16] [.tuple #[.pointer none, .int .i64 r18], .pointer none, .int .i64 r18, .pointer none, .int .i64 r18] hr ⟨rfl, rfl⟩ (by kernel_rfl) ?_; clear hr a; intro a hr
    refine wpList_nil ?_
    refine then_normal ?_
    refine wp_seq ?_
    refine wp_region_lit ?_
    replace H := bd2 H; obtain ⟨r304, r305, e306, H⟩ := H
    refine ov hr (.int .i64 p1) (by kernel_rfl) ?_; clear hr a; intro a hr
    cases r304 with
    | some S307 =>
      have hc := cells_New_ok0 (H := e306) (h := h)
      refine op_call (wn rfl) rfl rfl hr (f := 19) (args := #[.int .i64 p1]) (by kernel_rfl) hc ?_; clear hc h
      rintro _ w ⟨Bn308, car309, ccr310, car311, ccr312, rfl, h⟩; refine ⟨_, rfl, ?_⟩
      clear hr a; intro a hr
      refine ovs [38, 41, 42, 17, 18] [.tuple #[.pointer (some ⟨Bn308, 0, none⟩), .int .i64 r305], .pointer (some ⟨Bn308, 0, none⟩), .int .i64 r305, .pointer (some ⟨Bn308, 0, none⟩), .int .i64 r305] hr ⟨rfl, rfl⟩ (by kernel_rfl) ?_; clear hr a; intro a hr
      refine wpList_nil ?_
      refine then_normal ?_
      replace H := jd0 H; obtain ⟨o314, H, hK313⟩ := H
      refine cut_rule (β := Unit) (fun _ a w => .inl () = o314 ∧ ∃ j, Rep 141 (lk [(2, .slice va2 p2.length vc2), (3, .bool p3), (4, .bool p4), (11, .pointer (some ⟨Bn4, 0, none⟩)), (13, .pointer (some ⟨Bn12, 0, none⟩)), (15, .pointer none), (17, .pointer (some ⟨Bn308, 0, none⟩))] j) a ∧ Fit z (sepL (ob62 Bn4 r1 car5 ccr6 car7 ccr8 :: ro2 car5 ccr6 r1.Held :: ro90 car7 ccr8 r1.Book :: ob62 Bn12 r9 car13 ccr14 car15 ccr16 :: ro2 car13 ccr14 r9.Held :: ro90 car15 ccr16 r9.Book :: ob96 Bn308 S307 car309 ccr310 car311 ccr312 :: ro2 car309 ccr310 S307.cell :: ro90 car311 ccr312 S307.log :: L)) w) ?_ ?_
      ·
        refine wp_seq ?_
        refine wp_region_lit ?_
        refine ovs [43, 44, 45, 46] [.int .i64 r18, .int .i64 r2, .bool (r18 != r2), .bool (r18 != r2)] hr ⟨rfl, rfl⟩ (by kernel_rfl) ?_; clear hr a; intro a hr
        by_cases c315 : r18 = r2
        ·
          replace H := ifT c315 H
          refine op_val ((wg hr rfl rfl rfl (b' := (r18 != r2)) (by kernel_rfl)).trans (by rw [show (r18 != r2) = false from (bne_eq_false_iff_eq.mpr c315)]; rfl)) rfl rfl hr (v := .int .i64 r305) (by kernel_rfl) ?_; clear hr a; intro a hr
          refine op_val ((wg hr rfl rfl rfl (b' := (r18 != r2)) (by kernel_rfl)).trans (by rw [show (r18 != r2) = false from (bne_eq_false_iff_eq.mpr c315)]; rfl)) rfl rfl hr (v := .int .i64 r10) (by kernel_rfl) ?_; clear hr a; intro a hr
          refine op_val ((wg hr rfl rfl rfl (b' := (r18 != r2)) (by kernel_rfl)).trans (by rw [show (r18 != r2) = false from (bne_eq_false_iff_eq.mpr c315)]; rfl)) rfl rfl hr (v := .bool (r305 != r10)) (by kernel_rfl) ?_; clear hr a; intro a hr
          refine op_val (wn rfl) rfl rfl hr (v := .bool (r305 != r10)) (rp_f (b := (r18 != r2)) rfl (by kernel_rfl) (bne_eq_false_iff_eq.mpr c315) (by kernel_rfl)) ?_; clear hr a; intro a hr
          refine ov hr (.bool (r305 != r10)) (by kernel_rfl) ?_; clear hr a; intro a hr
          by_cases c316 : r305 = r10
          ·
            replace H := ifT c316 H
            refine op_val ((wg hr rfl rfl rfl (b' := (r305 != r10)) (by kernel_rfl)).trans (by rw [show (r305 != r10) = false from (bne_eq_false_iff_eq.mpr c316)]; rfl)) rfl rfl hr (v := .pointer none) (by kernel_rfl) ?_; clear hr a; intro a hr
            refine op_val ((wg hr rfl rfl rfl (b' := (r305 != r10)) (by kernel_rfl)).trans (by rw [show (r305 != r10) = false from (bne_eq_false_iff_eq.mpr c316)]; rfl)) rfl rfl hr (v := .bool true) (by kernel_rfl) ?_; clear hr a; intro a hr
            refine op_val ((wg hr rfl rfl rfl (b' := (r305 != r10)) (by kernel_rfl)).trans (by rw [show (r305 != r10) = false from (bne_eq_false_iff_eq.mpr c316)]; rfl)) rfl rfl hr (v := .int .i64 r2) (by kernel_rfl) ?_; clear hr a; intro a hr
            refine op_val ((wg hr rfl rfl rfl (b' := (r305 != r10)) (by kernel_rfl)).trans (by rw [show (r305 != r10) = false from (bne_eq_false_iff_eq.mpr c316)]; rfl)) rfl rfl hr (v := .bool (r2 != (0 : Int))) (by kernel_rfl) ?_; clear hr a; intro a hr
            refine op_val ((wg hr rfl rfl rfl (b' := (r305 != r10)) (by kernel_rfl)).trans (by rw [show (r305 != r10) = false from (bne_eq_false_iff_eq.mpr c316)]; rfl)) rfl rfl hr (v := .bool (!(true == (r2 != (0 : Int))))) (by kernel_rfl) ?_; clear hr a; intro a hr
            refine op_val (wn rfl) rfl rfl hr (v := .bool (!(true == (r2 != (0 : Int))))) (rp_f (b := (r305 != r10)) rfl (by kernel_rfl) (bne_eq_false_iff_eq.mpr c316) (by kernel_rfl)) ?_; clear hr a; intro a hr
            refine ov hr (.bool (!(true == (r2 != (0 : Int))))) (by kernel_rfl) ?_; clear hr a; intro a hr
            by_cases c317 : true = (r2 != (0 : Int))
            ·
              replace H := ifT c317 H
              refine op_val ((wg hr rfl rfl rfl (b' := (!(true == (r2 != (0 : Int))))) (by kernel_rfl)).trans (by rw [show (!(true == (r2 != (0 : Int)))) = false from (by rw [show (true == (r2 != (0 : Int))) = true from (beq_iff_eq.mpr c317)]; rfl)]; rfl)) rfl rfl hr (v := .pointer (some ⟨Bn308, 0, none⟩)) (by kernel_rfl) ?_; clear hr a; intro a hr
              refine op_val ((wg hr rfl rfl rfl (b' := (!(true == (r2 != (0 : Int))))) (by kernel_rfl)).trans (by rw [show (!(true == (r2 != (0 : Int)))) = false from (by rw [show (true == (r2 != (0 : Int))) = true from (beq_iff_eq.mpr c317)]; rfl)]; rfl)) rfl rfl hr (v := .bool false) (by kernel_rfl) ?_; clear hr a; intro a hr
              refine op_val ((wg hr rfl rfl rfl (b' := (!(true == (r2 != (0 : Int))))) (by kernel_rfl)).trans (by rw [show (!(true == (r2 != (0 : Int)))) = false from (by rw [show (true == (r2 != (0 : Int))) = true from (beq_iff_eq.mpr c317)]; rfl)]; rfl)) rfl rfl hr (v := .int .i64 r10) (by kernel_rfl) ?_; clear hr a; intro a hr
              refine op_val ((wg hr rfl rfl rfl (b' := (!(true == (r2 != (0 : Int))))) (by kernel_rfl)).trans (by rw [show (!(true == (r2 != (0 : Int)))) = false from (by rw [show (true == (r2 != (0 : Int))) = true from (beq_iff_eq.mpr c317)]; rfl)]; rfl)) rfl rfl hr (v := .bool (r10 != (0 : Int))) (by kernel_rfl) ?_; clear hr a; intro a hr
              refine op_val ((wg hr rfl rfl rfl (b' := (!(true == (r2 != (0 : Int))))) (by kernel_rfl)).trans (by rw [show (!(true == (r2 != (0 : Int)))) = false from (by rw [show (true == (r2 != (0 : Int))) = true from (beq_iff_eq.mpr c317)]; rfl)]; rfl)) rfl rfl hr (v := .bool (!(false == (r10 != (0 : Int))))) (by kernel_rfl) ?_; clear hr a; intro a hr
              refine op_val (wn rfl) rfl rfl hr (v := .bool (!(false == (r10 != (0 : Int))))) (rp_f (b := (!(true == (r2 != (0 : Int))))) rfl (by kernel_rfl) (by rw [show (true == (r2 != (0 : Int))) = true from (beq_iff_eq.mpr c317)]; rfl) (by kernel_rfl)) ?_; clear hr a; intro a hr
              refine wpList_nil ?_
              refine then_normal ?_
              by_cases c318 : false = (r10 != (0 : Int))
              ·
                replace H := ifT c318 H
                refine cond_ff hr (b := (!(false == (r10 != (0 : Int))))) (by rw [show (false == (r10 != (0 : Int))) = true from (beq_iff_eq.mpr c318)]; rfl) ?_
                refine wp_skip ?_
                refine then_normal ?_
                replace hr := hr.fold2 [(2, .slice va2 p2.length vc2), (3, .bool p3), (4, .bool p4), (11, .pointer (some ⟨Bn4, 0, none⟩)), (13, .pointer (some ⟨Bn12, 0, none⟩)), (15, .pointer none), (17, .pointer (some ⟨Bn308, 0, none⟩))] (by kernel_rfl); obtain ⟨j, hr⟩ := hr
                replace h : Fit z (sepL (ob62 Bn4 r1 car5 ccr6 car7 ccr8 :: ro2 car5 ccr6 r1.Held :: ro90 car7 ccr8 r1.Book :: ob62 Bn12 r9 car13 ccr14 car15 ccr16 :: ro2 car13 ccr14 r9.Held :: ro90 car15 ccr16 r9.Book :: ob96 Bn308 S307 car309 ccr310 car311 ccr312 :: ro2 car309 ccr310 S307.cell :: ro90 car311 ccr312 S307.log :: L)) _ := h.sel 9 [6, 7, 8, 3, 4, 5, 0, 1, 2] (by kernel_rfl) (by kernel_rfl)
                exact ⟨(), sinj H, j, hr, h⟩
              ·
                replace H := ifF c318 H
                refine cond_tt hr (b := (!(false == (r10 != (0 : Int))))) (by rw [show (false == (r10 != (0 : Int))) = false from (beq_eq_false_iff_ne.mpr c318)]; rfl) ?_
                refine wp_seq ?_
                refine wp_region_lit ?_
                refine ov hr (.bool false) (by kernel_rfl) ?_; clear hr a; intro a hr
                refine wpList_nil ?_
                refine then_normal ?_
                refine wp_ret ?_
                refine then_ret ?_
                refine end_ret1 (v := .bool false) rfl hr (by kernel_rfl) ?_
                replace H := jx0 H hK313
                replace h : Fit z (sepL (L)) _ := h.sel 9 [] (by kernel_rfl) (by kernel_rfl)
                replace H := ej1 H; subst H
                exact ⟨rfl, h⟩
            ·
              replace H := ifF c317 H
              refine op_off ((wg hr rfl rfl rfl (b' := (!(true == (r2 != (0 : Int))))) (by kernel_rfl)).trans (by rw [show (!(true == (r2 != (0 : Int)))) = true from (by rw [show (true == (r2 != (0 : Int))) = false from (beq_eq_false_iff_ne.mpr c317)]; rfl)]; rfl)) rfl rfl hr ?_; clear hr a; intro a hr
              refine op_off ((wg hr rfl rfl rfl (b' := (!(true == (r2 != (0 : Int))))) (by kernel_rfl)).trans (by rw [show (!(true == (r2 != (0 : Int)))) = true from (by rw [show (true == (r2 != (0 : Int))) = false from (beq_eq_false_iff_ne.mpr c317)]; rfl)]; rfl)) rfl rfl hr ?_; clear hr a; intro a hr
              refine op_off ((wg hr rfl rfl rfl (b' := (!(true == (r2 != (0 : Int))))) (by kernel_rfl)).trans (by rw [show (!(true == (r2 != (0 : Int)))) = true from (by rw [show (true == (r2 != (0 : Int))) = false from (beq_eq_false_iff_ne.mpr c317)]; rfl)]; rfl)) rfl rfl hr ?_; clear hr a; intro a hr
              refine op_off ((wg hr rfl rfl rfl (b' := (!(true == (r2 != (0 : Int))))) (by kernel_rfl)).trans (by rw [show (!(true == (r2 != (0 : Int)))) = true from (by rw [show (true == (r2 != (0 : Int))) = false from (beq_eq_false_iff_ne.mpr c317)]; rfl)]; rfl)) rfl rfl hr ?_; clear hr a; intro a hr
              refine op_off ((wg hr rfl rfl rfl (b' := (!(true == (r2 != (0 : Int))))) (by kernel_rfl)).trans (by rw [show (!(true == (r2 != (0 : Int)))) = true from (by rw [show (true == (r2 != (0 : Int))) = false from (beq_eq_false_iff_ne.mpr c317)]; rfl)]; rfl)) rfl rfl hr ?_; clear hr a; intro a hr
              refine op_val (wn rfl) rfl rfl hr (v := .bool true) (rp_t (b := (!(true == (r2 != (0 : Int))))) rfl (by kernel_rfl) (by rw [show (true == (r2 != (0 : Int))) = false from (beq_eq_false_iff_ne.mpr c317)]; rfl) (by kernel_rfl)) ?_; clear hr a; intro a hr
              refine wpList_nil ?_
              refine then_normal ?_
              refine cond_tt hr (b := true) rfl ?_
              refine wp_seq ?_
              refine wp_region_lit ?_
              refine ov hr (.bool false) (by kernel_rfl) ?_; clear hr a; intro a hr
              refine wpList_nil ?_
              refine then_normal ?_
              refine wp_ret ?_
              refine then_ret ?_
              refine end_ret1 (v := .bool false) rfl hr (by kernel_rfl) ?_
              replace H := jx0 H hK313
              replace h : Fit z (sepL (L)) _ := h.sel 9 [] (by kernel_rfl) (by kernel_rfl)
              replace H := ej1 H; subst H
              exact ⟨rfl, h⟩
          ·
            replace H := ifF c316 H
            refine op_off ((wg hr rfl rfl rfl (b' := (r305 != r10)) (by kernel_rfl)).trans (by rw [show (r305 != r10) = true from (bne_iff_ne.mpr c316)]; rfl)) rfl rfl hr ?_; clear hr a; intro a hr
            refine op_off ((wg hr rfl rfl rfl (b' := (r305 != r10)) (by kernel_rfl)).trans (by rw [show (r305 != r10) = true from (bne_iff_ne.mpr c316)]; rfl)) rfl rfl hr ?_; clear hr a; intro a hr
            refine op_off ((wg hr rfl rfl rfl (b' := (r305 != r10)) (by kernel_rfl)).trans (by rw [show (r305 != r10) = true from (bne_iff_ne.mpr c316)]; rfl)) rfl rfl hr ?_; clear hr a; intro a hr
            refine op_off ((wg hr rfl rfl rfl (b' := (r305 != r10)) (by kernel_rfl)).trans (by rw [show (r305 != r10) = true from (bne_iff_ne.mpr c316)]; rfl)) rfl rfl hr ?_; clear hr a; intro a hr
            refine op_off ((wg hr rfl rfl rfl (b' := (r305 != r10)) (by kernel_rfl)).trans (by rw [show (r305 != r10) = true from (bne_iff_ne.mpr c316)]; rfl)) rfl rfl hr ?_; clear hr a; intro a hr
            refine op_val (wn rfl) rfl rfl hr (v := .bool true) (rp_t (b := (r305 != r10)) rfl (by kernel_rfl) (bne_iff_ne.mpr c316) (by kernel_rfl)) ?_; clear hr a; intro a hr
            refine ov hr (.bool true) (by kernel_rfl) ?_; clear hr a; intro a hr
            refine op_off ((wg hr rfl rfl rfl (b' := true) (by kernel_rfl)).trans rfl) rfl rfl hr ?_; clear hr a; intro a hr
            refine op_off ((wg hr rfl rfl rfl (b' := true) (by kernel_rfl)).trans rfl) rfl rfl hr ?_; clear hr a; intro a hr
            refine op_off ((wg hr rfl rfl rfl (b' := true) (by kernel_rfl)).trans rfl) rfl rfl hr ?_; clear hr a; intro a hr
            refine op_off ((wg hr rfl rfl rfl (b' := true) (by kernel_rfl)).trans rfl) rfl rfl hr ?_; clear hr a; intro a hr
            refine op_off ((wg hr rfl rfl rfl (b' := true) (by kernel_rfl)).trans rfl) rfl rfl hr ?_; clear hr a; intro a hr
            refine ov hr (.bool true) (by kernel_rfl) ?_; clear hr a; intro a hr
            refine wpList_nil ?_
            refine then_normal ?_
            refine cond_tt hr (b := true) rfl ?_
            refine wp_seq ?_
            refine wp_region_lit ?_
            refine ov hr (.bool false) (by kernel_rfl) ?_; clear hr a; intro a hr
            refine wpList_nil ?_
            refine then_normal ?_
            refine wp_ret ?_
            refine then_ret ?_
            refine end_ret1 (v := .bool false) rfl hr (by kernel_rfl) ?_
            replace H := jx0 H hK313
            replace h : Fit z (sepL (L)) _ := h.sel 9 [] (by kernel_rfl) (by kernel_rfl)
            replace H := ej1 H; subst H
            exact ⟨rfl, h⟩
        ·
          replace H := ifF c315 H
          refine op_off ((wg hr rfl rfl rfl (b' := (r18 != r2)) (by kernel_rfl)).trans (by rw [show (r18 != r2) = true from (bne_iff_ne.mpr c315)]; rfl)) rfl rfl hr ?_; clear hr a; intro a hr
          refine op_off ((wg hr rfl rfl rfl (b' := (r18 != r2)) (by kernel_rfl)).trans (by rw [show (r18 != r2) = true from (bne_iff_ne.mpr c315)]; rfl)) rfl rfl hr ?_; clear hr a; intro a hr
          refine op_off ((wg hr rfl rfl rfl (b' := (r18 != r2)) (by kernel_rfl)).trans (by rw [show (r18 != r2) = true from (bne_iff_ne.mpr c315)]; rfl)) rfl rfl hr ?_; clear hr a; intro a hr
          refine op_val (wn rfl) rfl rfl hr (v := .bool true) (rp_t (b := (r18 != r2)) rfl (by kernel_rfl) (bne_iff_ne.mpr c315) (by kernel_rfl)) ?_; clear hr a; intro a hr
          refine ov hr (.bool true) (by kernel_rfl) ?_; clear hr a; intro a hr
          refine op_off ((wg hr rfl rfl rfl (b' := true) (by kernel_rfl)).trans rfl) rfl rfl hr ?_; clear hr a; intro a hr
          refine op_off ((wg hr rfl rfl rfl (b' := true) (by kernel_rfl)).trans rfl) rfl rfl hr ?_; clear hr a; intro a hr
          refine op_off ((wg hr rfl rfl rfl (b' := true) (by kernel_rfl)).trans rfl) rfl rfl hr ?_; clear hr a; intro a hr
          refine op_off ((wg hr rfl rfl rfl (b' := true) (by kernel_rfl)).trans rfl) rfl rfl hr ?_; clear hr a; intro a hr
          refine op_off ((wg hr rfl rfl rfl (b' := true) (by kernel_rfl)).trans rfl) rfl rfl hr ?_; clear hr a; intro a hr
          refine ovs [57, 58] [.bool true, .bool true] hr ⟨rfl, rfl⟩ (by kernel_rfl) ?_; clear hr a; intro a hr
          refine op_off ((wg hr rfl rfl rfl (b' := true) (by kernel_rfl)).trans rfl) rfl rfl hr ?_; clear hr a; intro a hr
          refine op_off ((wg hr rfl rfl rfl (b' := true) (by kernel_rfl)).trans rfl) rfl rfl hr ?_; clear hr a; intro a hr
          refine op_off ((wg hr rfl rfl rfl (b' := true) (by kernel_rfl)).trans rfl) rfl rfl hr ?_; clear hr a; intro a hr
          refine op_off ((wg hr rfl rfl rfl (b' := true) (by kernel_rfl)).trans rfl) rfl rfl hr ?_; clear hr a; intro a hr
          refine op_off ((wg hr rfl rfl rfl (b' := true) (by kernel_rfl)).trans rfl) rfl rfl hr ?_; clear hr a; intro a hr
          refine ov hr (.bool true) (by kernel_rfl) ?_; clear hr a; intro a hr
          refine wpList_nil ?_
          refine then_normal ?_
          refine cond_tt hr (b := true) rfl ?_
          refine wp_seq ?_
          refine wp_region_lit ?_
          refine ov hr (.bool false) (by kernel_rfl) ?_; clear hr a; intro a hr
          refine wpList_nil ?_
          refine then_normal ?_
          refine wp_ret ?_
          refine then_ret ?_
          refine end_ret1 (v := .bool false) rfl hr (by kernel_rfl) ?_
          replace H := jx0 H hK313
          replace h : Fit z (sepL (L)) _ := h.sel 9 [] (by kernel_rfl) (by kernel_rfl)
          replace H := ej1 H; subst H
          exact ⟨rfl, h⟩
      clear h hr a; rintro _ a w ⟨rfl, j, hr, h⟩
      replace H := jk0 hK313
      refine wp_seq ?_
      refine wp_region_lit ?_
      refine ov hr (.agg #[.slice none 0 0, .slice none 0 0, .int .i64 0]) (by kernel_rfl) ?_; clear hr a; intro a hr
      refine op_new (wn rfl) rfl rfl hr h (vf := fun b => .pointer (some ⟨b, 0, none⟩)) (cs := #[.slice none 0 0, .slice none 0 0, .int .i64 0]) (T := 78) (by kernel_rfl) ?_; clear h hr a; intro b319 w a h hr
      refine ov hr (.pointer (some ⟨b319, 0, none⟩)) (by kernel_rfl) ?_; clear hr a; intro a hr
      refine wpList_nil ?_
      refine then_normal ?_
      replace H := jd3 H; obtain ⟨o336, H, hK335⟩ := H
      refine cut_rule (β := Unit) (fun _ a w => ∃ ca321 : Option Addr, ∃ cc322 : Nat, ∃ ca323 : Option Addr, ∃ cc324 : Nat, ∃ ca326 : Option Addr, ∃ cc327 : Nat, ∃ ca328 : Option Addr, ∃ cc329 : Nat, ∃ ca331 : Option Addr, ∃ cc332 : Nat, ∃ ca333 : Option Addr, ∃ cc334 : Nat, ∃ S320 : T_plunderref2_Arena, ∃ S325 : T_plunderref2_Arena, ∃ S330 : T_cells_Arena, .inl (S320, S325, S330) = o336 ∧ ∃ j, Rep 141 (lk [(11, .pointer (some ⟨Bn4, 0, none⟩)), (13, .pointer (some ⟨Bn12, 0, none⟩)), (15, .pointer none), (17, .pointer (some ⟨Bn308, 0, none⟩))] j) a ∧ Fit z (sepL (ob62 Bn4 S320 ca321 cc322 ca323 cc324 :: ro2 ca321 cc322 S320.Held :: ro90 ca323 cc324 S320.Book :: ob62 Bn12 S325 ca326 cc327 ca328 cc329 :: ro2 ca326 cc327 S325.Held :: ro90 ca328 cc329 S325.Book :: ob96 Bn308 S330 ca331 cc332 ca333 cc334 :: ro2 ca331 cc332 S330.cell :: ro90 ca333 cc334 S330.log :: L)) w) ?_ ?_
      ·
        refine wp_seq ?_
        refine wp_region_lit ?_
        refine ov hr (.int .i64 0) (by kernel_rfl) ?_; clear hr a; intro a hr
        refine wpList_nil ?_
        refine then_normal ?_
        refine wp_block ?_
        replace hr := hr.fold2 [(2, .slice va2 p2.length vc2), (3, .bool p3), (4, .bool p4), (11, .pointer (some ⟨Bn4, 0, none⟩)), (13, .pointer (some ⟨Bn12, 0, none⟩)), (15, .pointer none), (17, .pointer (some ⟨Bn308, 0, none⟩)), (19, .pointer (some ⟨b319, 0, none⟩)), (20, .int .i64 0)] (by kernel_rfl); obtain ⟨j, hr⟩ := hr
        replace h : Fit z (sepL (rowN 139 5 own_T_plunderlaw2_kept (.slice none 0 0) ([] : List T_plunderlaw2_kept) :: pts b319 (.cells #[.slice none 0 0, .slice none 0 0, .int .i64 0] 78) :: ob62 Bn4 r1 car5 ccr6 car7 ccr8 :: ro2 car5 ccr6 r1.Held :: ro90 car7 ccr8 r1.Book :: ob62 Bn12 r9 car13 ccr14 car15 ccr16 :: ro2 car13 ccr14 r9.Held :: ro90 car15 ccr16 r9.Book :: ob96 Bn308 S307 car309 ccr310 car311 ccr312 :: ro2 car309 ccr310 S307.cell :: ro90 car311 ccr312 S307.log :: L)) _ := h.rowN_nil
        replace h : Fit z (sepL (rowN 142 5 own_T_plunderlaw2_noted (.slice none 0 0) ([] : List T_plunderlaw2_noted) :: rowN 139 5 own_T_plunderlaw2_kept (.slice none 0 0) ([] : List T_plunderlaw2_kept) :: pts b319 (.cells #[.slice none 0 0, .slice none 0 0, .int .i64 0] 78) :: ob62 Bn4 r1 car5 ccr6 car7 ccr8 :: ro2 car5 ccr6 r1.Held :: ro90 car7 ccr8 r1.Book :: ob62 Bn12 r9 car13 ccr14 car15 ccr16 :: ro2 car13 ccr14 r9.Held :: ro90 car15 ccr16 r9.Book :: ob96 Bn308 S307 car309 ccr310 car311 ccr312 :: ro2 car309 ccr310 S307.cell :: ro90 car311 ccr312 S307.log :: L)) _ := h.rowN_nil
        replace h : Fit z (sepL (ob62 Bn4 r1 car5 ccr6 car7 ccr8 :: ro2 car5 ccr6 r1.Held :: ro90 car7 ccr8 r1.Book :: ob62 Bn12 r9 car13 ccr14 car15 ccr16 :: ro2 car13 ccr14 r9.Held :: ro90 car15 ccr16 r9.Book :: ob96 Bn308 S307 car309 ccr310 car311 ccr312 :: ro2 car309 ccr310 S307.cell :: ro90 car311 ccr312 S307.log :: pts b319 (.cells #[.slice none ((⟨([] : List T_plunderlaw2_kept), ([] : List T_plunderlaw2_noted), 0⟩ : T_plunderlaw2_book).numberLists.length) 0, .slice none ((⟨([] : List T_plunderlaw2_kept), ([] : List T_plunderlaw2_noted), 0⟩ : T_plunderlaw2_book).accessLists.length) 0, .int .i64 ((⟨([] : List T_plunderlaw2_kept), ([] : List T_plunderlaw2_noted), 0⟩ : T_plunderlaw2_book).next)] 78) :: rowN 139 5 own_T_plunderlaw2_kept (.slice none ((⟨([] : List T_plunderlaw2_kept), ([] : List T_plunderlaw2_noted), 0⟩ : T_plunderlaw2_book).numberLists.length) 0) ((⟨([] : List T_plunderlaw2_kept), ([] : List T_plunderlaw2_noted), 0⟩ : T_plunderlaw2_book).numberLists) :: rowN 142 5 own_T_plunderlaw2_noted (.slice none ((⟨([] : List T_plunderlaw2_kept), ([] : List T_plunderlaw2_noted), 0⟩ : T_plunderlaw2_book).accessLists.length) 0) ((⟨([] : List T_plunderlaw2_kept), ([] : List T_plunderlaw2_noted), 0⟩ : T_plunderlaw2_book).accessLists) :: L)) _ := h.sel 12 [3, 4, 5, 6, 7, 8, 9, 10, 11, 2, 1, 0] (by kernel_rfl) (by kernel_rfl)
        refine loop_rule (β := Nat) id (fun m a w => ∃ ca338 : Option Addr, ∃ cc339 : Nat, ∃ ca340 : Option Addr, ∃ cc341 : Nat, ∃ ca343 : Option Addr, ∃ cc344 : Nat, ∃ ca345 : Option Addr, ∃ cc346 : Nat, ∃ ca348 : Option Addr, ∃ cc349 : Nat, ∃ ca350 : Option Addr, ∃ cc351 : Nat, ∃ ca353 : Option Addr, ∃ cc354 : Nat, ∃ ca355 : Option Addr, ∃ cc356 : Nat, ∃ S337 : T_plunderref2_Arena, ∃ S342 : T_plunderref2_Arena, ∃ S347 : T_cells_Arena, ∃ S352 : T_plunderlaw2_book, ∃ g357 : Int, (plunderlaw2_walk_l3 K p2 p3 p4 m S337 S342 S347 S352 g357) = some o336 ∧ ∃ j, Rep 141 (lk [(2, .slice va2 p2.length vc2), (3, .bool p3), (4, .bool p4), (11, .pointer (some ⟨Bn4, 0, none⟩)), (13, .pointer (some ⟨Bn12, 0, none⟩)), (15, .pointer none), (17, .pointer (some ⟨Bn308, 0, none⟩)), (19, .pointer (some ⟨b319, 0, none⟩)), (20, .int .i64 g357)] j) a ∧ Fit z (sepL (ob62 Bn4 S337 ca338 cc339 ca340 cc341 :: ro2 ca338 cc339 S337.Held :: ro90 ca340 cc341 S337.Book :: ob62 Bn12 S342 ca343 cc344 ca345 cc346 :: ro2 ca343 cc344 S342.Held :: ro90 ca345 cc346 S342.Book :: ob96 Bn308 S347 ca348 cc349 ca350 cc351 :: ro2 ca348 cc349 S347.cell :: ro90 ca350 cc351 S347.log :: ob78 b319 S352 ca353 cc354 ca355 cc356 :: rn139 ca353 cc354 S352.numberLists :: rn142 ca355 cc356 S352.accessLists :: L)) w) K ⟨car5, ccr6, car7, ccr8, car13, ccr14, car15, ccr16, car309, ccr310, car311, ccr312, none, 0, none, 0, r1, r9, S307, (⟨([] : List T_plunderlaw2_kept), ([] : List T_plunderlaw2_noted), 0⟩ : T_plunderlaw2_book), 0, H, j, hr, h⟩ ?_
        clear h hr a H; rintro k3 a w ⟨ca338, cc339, ca340, cc341, ca343, cc344, ca345, cc346, ca348, cc349, ca350, cc351, ca353, cc354, ca355, cc356, S337, S342, S347, S352, g357, H, j, hr, h⟩
        cases k3 with
        | zero => exact absurd H (by simp [plunderlaw2_walk_l3])
        | succ k3 =>
          rw [plunderlaw2_walk_l3] at H
          refine wp_seq ?_
          refine wp_seq ?_
          refine wp_region_lit ?_
          refine ovs [67, 68, 69, 70] [.int .i64 g357, .slice va2 p2.length vc2, .int .i64 ((p2.length : Nat) : Int), .bool (decide (g357 < ((p2.length : Nat) : Int)))] hr ⟨rfl, rfl⟩ (by kernel_rfl) ?_; clear hr a; intro a hr
          refine wpList_nil ?_
          refine then_normal ?_
          by_cases c358 : g357 < ((p2.length : Nat) : Int)
          ·
            replace H := ifT c358 H
            refine cond_tt hr (b := (decide (g357 < ((p2.length : Nat) : Int)))) (decide_eq_true c358) ?_
            refine wp_skip ?_
            refine then_normal ?_
            refine wp_seq ?_
            refine wp_block ?_
            refine wp_seq ?_
            refine wp_region_lit ?_
            replace H := gd H; obtain ⟨c359, H⟩ := H
            refine ovs [73, 74] [.slice va2 p2.length vc2, .int .i64 g357] hr ⟨rfl, rfl⟩ (by kernel_rfl) ?_; clear hr a; intro a hr
            refine op_val (wn rfl) rfl rfl hr (v := .pointer (some ⟨blk va2, offs va2 + g357.toNat * 5, none⟩)) (ri_rd (k := .i64) (E := 30) (cc := vc2) rfl (by kernel_rfl) (by kernel_rfl) rfl (by kernel_rfl) (by kernel_rfl) hv2 c359) ?_; clear hr a; intro a hr
            refine op_val (wn rfl) rfl rfl hr (v := .agg #[.int .i64 ((at_ p2 g357.toNat).Side), .int .i64 ((at_ p2 g357.toNat).Kind), .int .i64 ((at_ p2 g357.toNat).Addr), .int .i64 ((at_ p2 g357.toNat).A), .int .i64 ((at_ p2 g357.toNat).B)]) (rlm (cs := [.int .i64 ((at_ p2 g357.toNat).Side), .int .i64 ((at_ p2 g357.toNat).Kind), .int .i64 ((at_ p2 g357.toNat).Addr), .int .i64 ((at_ p2 g357.toNat).A), .int .i64 ((at_ p2 g357.toNat).B)]) rfl (by kernel_rfl) (by kernel_rfl) (by kernel_rfl) ⟨hv2.cell c359 (h.dn 12) 0 rfl, hv2.cell c359 (h.dn 12) 1 rfl, hv2.cell c359 (h.dn 12) 2 rfl, hv2.cell c359 (h.dn 12) 3 rfl, hv2.cell c359 (h.dn 12) 4 rfl, trivial⟩) ?_; clear hr a; intro a hr
            refine op_new (wn rfl) rfl rfl hr h (vf := fun b => .pointer (some ⟨b, 0, none⟩)) (cs := #[.int .i64 0, .int .i64 0, .int .i64 0, .int .i64 0, .int .i64 0]) (T := 30) (by kernel_rfl) ?_; clear h hr a; intro b360 w a h hr
            refine op_stores (wn rfl) rfl hr rfl (by kernel_rfl) (by kernel_rfl) (vs := [.int .i64 ((at_ p2 g357.toNat).Side), .int .i64 ((at_ p2 g357.toNat).Kind), .int .i64 ((at_ p2 g357.toNat).Addr), .int .i64 ((at_ p2 g357.toNat).A), .int .i64 ((at_ p2 g357.toNat).B)]) rfl rfl (by kernel_rfl) h (i := 0) (cs' := #[.int .i64 ((at_ p2 g357.toNat).Side), .int .i64 ((at_ p2 g357.toNat).Kind), .int .i64 ((at_ p2 g357.toNat).Addr), .int .i64 ((at_ p2 g357.toNat).A), .int .i64 ((at_ p2 g357.toNat).B)]) rfl ?_; clear h; intro w h
            refine wpList_nil ?_
            replace h : Fit z (sepL (ob30 b360 (at_ p2 g357.toNat) :: ob62 Bn4 S337 ca338 cc339 ca340 cc341 :: ro2 ca338 cc339 S337.Held :: ro90 ca340 cc341 S337.Book :: ob62 Bn12 S342 ca343 cc344 ca345 cc346 :: ro2 ca343 cc344 S342.Held :: ro90 ca345 cc346 S342.Book :: ob96 Bn308 S347 ca348 cc349 ca350 cc351 :: ro2 ca348 cc349 S347.cell :: ro90 ca350 cc351 S347.log :: ob78 b319 S352 ca353 cc354 ca355 cc356 :: rn139 ca353 cc354 S352.numberLists :: rn142 ca355 cc356 S352.accessLists :: L)) _ := h
            refine then_normal ?_
            refine wp_seq ?_
            refine wp_region_lit ?_
            refine ov hr (.bool false) (by kernel_rfl) ?_; clear hr a; intro a hr
            refine wpList_nil ?_
            refine then_normal ?_
            replace H := kd5 H; obtain ⟨o383, H, hK382⟩ := H
            refine cut_rule (β := Unit) (fun _ a w => ∃ ca362 : Option Addr, ∃ cc363 : Nat, ∃ ca364 : Option Addr, ∃ cc365 : Nat, ∃ ca367 : Option Addr, ∃ cc368 : Nat, ∃ ca369 : Option Addr, ∃ cc370 : Nat, ∃ ca372 : Option Addr, ∃ cc373 : Nat, ∃ ca374 : Option Addr, ∃ cc375 : Nat, ∃ ca377 : Option Addr, ∃ cc378 : Nat, ∃ ca379 : Option Addr, ∃ cc380 : Nat, ∃ S361 : T_plunderref2_Arena, ∃ S366 : T_plunderref2_Arena, ∃ S371 : T_cells_Arena, ∃ S376 : T_plunderlaw2_book, ∃ g381 : Bool, (S361, S366, S371, S376, g381) = o383 ∧ ∃ j, Rep 141 (lk [(2, .slice va2 p2.length vc2), (3, .bool p3), (4, .bool p4), (11, .pointer (some ⟨Bn4, 0, none⟩)), (13, .pointer (some ⟨Bn12, 0, none⟩)), (15, .pointer none), (17, .pointer (some ⟨Bn308, 0, none⟩)), (19, .pointer (some ⟨b319, 0, none⟩)), (20, .int .i64 g357), (22, .bool g381)] j) a ∧ Fit z (sepL (ob62 Bn4 S361 ca362 cc363 ca364 cc365 :: ro2 ca362 cc363 S361.Held :: ro90 ca364 cc365 S361.Book :: ob62 Bn12 S366 ca367 cc368 ca369 cc370 :: ro2 ca367 cc368 S366.Held :: ro90 ca369 cc370 S366.Book :: ob96 Bn308 S371 ca372 cc373 ca374 cc375 :: ro2 ca372 cc373 S371.cell :: ro90 ca374 cc375 S371.log :: ob78 b319 S376 ca377 cc378 ca379 cc380 :: rn139 ca377 cc378 S376.numberLists :: rn142 ca379 cc380 S376.accessLists :: L)) w) ?_ ?_
            ·
              replace H := kd1 H; obtain ⟨o386, H, hK385⟩ := H
              refine cut_rule (β := Unit) (fun _ a w => ∃ g384 : Bool, g384 = o386 ∧ ∃ j, Rep 141 (lk [(2, .slice va2 p2.length vc2), (3, .bool p3), (4, .bool p4), (11, .pointer (some ⟨Bn4, 0, none⟩)), (13, .pointer (some ⟨Bn12, 0, none⟩)), (15, .pointer none), (17, .pointer (some ⟨Bn308, 0, none⟩)), (19, .pointer (some ⟨b319, 0, none⟩)), (20, .int .i64 g357), (21, .pointer (some ⟨b360, 0, none⟩)), (83, .bool g384)] j) a ∧ Fit z (sepL (ob62 Bn4 S337 ca338 cc339 ca340 cc341 :: ro2 ca338 cc339 S337.Held :: ro90 ca340 cc341 S337.Book :: ob62 Bn12 S342 ca343 cc344 ca345 cc346 :: ro2 ca343 cc344 S342.Held :: ro90 ca345 cc346 S342.Book :: ob96 Bn308 S347 ca348 cc349 ca350 cc351 :: ro2 ca348 cc349 S347.cell :: ro90 ca350 cc351 S347.log :: ob78 b319 S352 ca353 cc354 ca355 cc356 :: rn139 ca353 cc354 S352.numberLists :: rn142 ca355 cc356 S352.accessLists :: ob30 b360 (at_ p2 g357.toNat) :: L)) w) ?_ ?_
              ·
                refine wp_region_lit ?_
                refine ovs [77, 78] [.bool p3, .bool p3] hr ⟨rfl, rfl⟩ (by kernel_rfl) ?_; clear hr a; intro a hr
                by_cases c387 : p3 = true
                ·
                  replace H := ifT c387 H
                  refine op_off ((wg hr rfl rfl rfl (b' := p3) (by kernel_rfl)).trans (by rw [show p3 = true from (c387)]; rfl)) rfl rfl hr ?_; clear hr a; intro a hr
                  refine op_off ((wg hr rfl rfl rfl (b' := p3) (by kernel_rfl)).trans (by rw [show p3 = true from (c387)]; rfl)) rfl rfl hr ?_; clear hr a; intro a hr
                  refine op_off ((wg hr rfl rfl rfl (b' := p3) (by kernel_rfl)).trans (by rw [show p3 = true from (c387)]; rfl)) rfl rfl hr ?_; clear hr a; intro a hr
                  refine op_off ((wg hr rfl rfl rfl (b' := p3) (by kernel_rfl)).trans (by rw [show p3 = true from (c387)]; rfl)) rfl rfl hr ?_; clear hr a; intro a hr
                  refine op_val (wn rfl) rfl rfl hr (v := .bool true) (rp_t (b := p3) rfl (by kernel_rfl) (c387) (by kernel_rfl)) ?_; clear hr a; intro a hr
                  refine wpList_nil ?_
                  refine then_normal ?_
                  replace hr := hr.fold2 [(2, .slice va2 p2.length vc2), (3, .bool p3), (4, .bool p4), (11, .pointer (some ⟨Bn4, 0, none⟩)), (13, .pointer (some ⟨Bn12, 0, none⟩)), (15, .pointer none), (17, .pointer (some ⟨Bn308, 0, none⟩)), (19, .pointer (some ⟨b319, 0, none⟩)), (20, .int .i64 g357), (21, .pointer (some ⟨b360, 0, none⟩)), (83, .bool true)] (by kernel_rfl); obtain ⟨j, hr⟩ := hr
                  replace h : Fit z (sepL (ob62 Bn4 S337 ca338 cc339 ca340 cc341 :: ro2 ca338 cc339 S337.Held :: ro90 ca340 cc341 S337.Book :: ob62 Bn12 S342 ca343 cc344 ca345 cc346 :: ro2 ca343 cc344 S342.Held :: ro90 ca345 cc346 S342.Book :: ob96 Bn308 S347 ca348 cc349 ca350 cc351 :: ro2 ca348 cc349 S347.cell :: ro90 ca350 cc351 S347.log :: ob78 b319 S352 ca353 cc354 ca355 cc356 :: rn139 ca353 cc354 S352.numberLists :: rn142 ca355 cc356 S352.accessLists :: ob30 b360 (at_ p2 g357.toNat) :: L)) _ := h.sel 13 [1, 2, 3, 4, 5, 6, 7, 8, 9, 10, 11, 12, 0] (by kernel_rfl) (by kernel_rfl)
                  exact ⟨(), true, sinj H, j, hr, h⟩
                ·
                  replace H := ifF c387 H
                  refine op_val ((wg hr rfl rfl rfl (b' := p3) (by kernel_rfl)).trans (by rw [show p3 = false from (bF c387)]; rfl)) rfl rfl hr (v := .pointer (some ⟨b360, 0, none⟩)) (by kernel_rfl) ?_; clear hr a; intro a hr
                  refine op_val ((wg hr rfl rfl rfl (b' := p3) (by kernel_rfl)).trans (by rw [show p3 = false from (bF c387)]; rfl)) rfl rfl hr (v := .int .i64 ((at_ p2 g357.toNat).Side)) (rl rfl (by kernel_rfl) (by kernel_rfl) (h.cell 0 rfl)) ?_; clear hr a; intro a hr
                  replace H := bd1 H; obtain ⟨r388, e389, H⟩ := H
                  have hc := plunderlaw2_mod_ok (H := e389) (h := h)
                  refine op_call ((wg hr rfl rfl rfl (b' := p3) (by kernel_rfl)).trans (by rw [show p3 = false from (bF c387)]; rfl)) rfl rfl hr (f := 23) (args := #[.int .i64 ((at_ p2 g357.toNat).Side), .int .i64 2]) (by kernel_rfl) hc ?_; clear hc h
                  rintro _ w ⟨rfl, h⟩; refine ⟨_, rfl, ?_⟩
                  clear hr a; intro a hr
                  refine op_val ((wg hr rfl rfl rfl (b' := p3) (by kernel_rfl)).trans (by rw [show p3 = false from (bF c387)]; rfl)) rfl rfl hr (v := .bool (r388 == (0 : Int))) (by kernel_rfl) ?_; clear hr a; intro a hr
                  refine op_val (wn rfl) rfl rfl hr (v := .bool (r388 == (0 : Int))) (rp_f (b := p3) rfl (by kernel_rfl) (bF c387) (by kernel_rfl)) ?_; clear hr a; intro a hr
                  refine wpList_nil ?_
                  refine then_normal ?_
                  replace hr := hr.fold2 [(2, .slice va2 p2.length vc2), (3, .bool p3), (4, .bool p4), (11, .pointer (some ⟨Bn4, 0, none⟩)), (13, .pointer (some ⟨Bn12, 0, none⟩)), (15, .pointer none), (17, .pointer (some ⟨Bn308, 0, none⟩)), (19, .pointer (some ⟨b319, 0, none⟩)), (20, .int .i64 g357), (21, .pointer (some ⟨b360, 0, none⟩)), (83, .bool (r388 == (0 : Int)))] (by kernel_rfl); obtain ⟨j, hr⟩ := hr
                  replace h : Fit z (sepL (ob62 Bn4 S337 ca338 cc339 ca340 cc341 :: ro2 ca338 cc339 S337.Held :: ro90 ca340 cc341 S337.Book :: ob62 Bn12 S342 ca343 cc344 ca345 cc346 :: ro2 ca343 cc344 S342.Held :: ro90 ca345 cc346 S342.Book :: ob96 Bn308 S347 ca348 cc349 ca350 cc351 :: ro2 ca348 cc349 S347.cell :: ro90 ca350 cc351 S347.log :: ob78 b319 S352 ca353 cc354 ca355 cc356 :: rn139 ca353 cc354 S352.numberLists :: rn142 ca355 cc356 S352.accessLists :: ob30 b360 (at_ p2 g357.toNat) :: L)) _ := h.sel 13 [1, 2, 3, 4, 5, 6, 7, 8, 9, 10, 11, 12, 0] (by kernel_rfl) (by kernel_rfl)
                  exact ⟨(), (r388 == (0 : Int)), sinj H, j, hr, h⟩
              clear h hr a; rintro _ a w ⟨g384, rfl, j, hr, h⟩
              replace H := kk1 hK385
              by_cases c390 : g384 = true
              ·
                replace H := ifT c390 H
                refine cond_tt hr (b := g384) (c390) ?_
                refine wp_region_lit ?_
                refine ovs [84, 85] [.pointer none, .pointer (some ⟨Bn4, 0, none⟩)] hr ⟨rfl, rfl⟩ (by kernel_rfl) ?_; clear hr a; intro a hr
                refine op_val (wn rfl) rfl rfl hr (v := .agg #[.int .i64 ((at_ p2 g357.toNat).Side), .int .i64 ((at_ p2 g357.toNat).Kind), .int .i64 ((at_ p2 g357.toNat).Addr), .int .i64 ((at_ p2 g357.toNat).A), .int .i64 ((at_ p2 g357.toNat).B)]) (rlm (cs := [.int .i64 ((at_ p2 g357.toNat).Side), .int .i64 ((at_ p2 g357.toNat).Kind), .int .i64 ((at_ p2 g357.toNat).Addr), .int .i64 ((at_ p2 g357.toNat).A), .int .i64 ((at_ p2 g357.toNat).B)]) rfl (by kernel_rfl) (by kernel_rfl) (by kernel_rfl) ⟨(h.pick 12).cell 0 rfl, (h.pick 12).cell 1 rfl, (h.pick 12).cell 2 rfl, (h.pick 12).cell 3 rfl, (h.pick 12).cell 4 rfl, trivial⟩) ?_; clear hr a; intro a hr
                replace H := bd3 H; obtain ⟨r391, S392, S393, e394, H⟩ := H
                refine ov hr (.pointer (some ⟨b319, 0, none⟩)) (by kernel_rfl) ?_; clear hr a; intro a hr
                replace h : Fit z (sepL (ob62 Bn4 S337 ca338 cc339 ca340 cc341 :: ro2 ca338 cc339 S337.Held :: ro90 ca340 cc341 S337.Book :: ob78 b319 S352 ca353 cc354 ca355 cc356 :: rn139 ca353 cc354 S352.numberLists :: rn142 ca355 cc356 S352.accessLists :: ob62 Bn12 S342 ca343 cc344 ca345 cc346 :: ro2 ca343 cc344 S342.Held :: ro90 ca345 cc346 S342.Book :: ob96 Bn308 S347 ca348 cc349 ca350 cc351 :: ro2 ca348 cc349 S347.cell :: ro90 ca350 cc351 S347.log :: ob30 b360 (at_ p2 g357.toNat) :: L)) _ := h.sel 13 [0, 1, 2, 9, 10, 11, 3, 4, 5, 6, 7, 8, 12] (by kernel_rfl) (by kernel_rfl)
                have hc := plunderlaw2_plays_nil_ok (H := e394) (h := h)
                refine op_call (wn rfl) rfl rfl hr (f := 69) (args := #[.pointer none, .pointer (some ⟨Bn4, 0, none⟩), .agg #[.int .i64 ((at_ p2 g357.toNat).Side), .int .i64 ((at_ p2 g357.toNat).Kind), .int .i64 ((at_ p2 g357.toNat).Addr), .int .i64 ((at_ p2 g357.toNat).A), .int .i64 ((at_ p2 g357.toNat).B)], .pointer (some ⟨b319, 0, none⟩)]) (by kernel_rfl) hc ?_; clear hc h
                rintro _ w ⟨caq395, ccq396, caq397, ccq398, caq399, ccq400, caq401, ccq402, rfl, h⟩; refine ⟨_, rfl, ?_⟩
                clear hr a; intro a hr
                refine ov hr (.bool r391) (by kernel_rfl) ?_; clear hr a; intro a hr
                refine wpList_nil ?_
                refine then_normal ?_
                replace hr := hr.fold2 [(2, .slice va2 p2.length vc2), (3, .bool p3), (4, .bool p4), (11, .pointer (some ⟨Bn4, 0, none⟩)), (13, .pointer (some ⟨Bn12, 0, none⟩)), (15, .pointer none), (17, .pointer (some ⟨Bn308, 0, none⟩)), (19, .pointer (some ⟨b319, 0, none⟩)), (20, .int .i64 g357), (22, .bool r391)] (by kernel_rfl); obtain ⟨j, hr⟩ := hr
                replace h : Fit z (sepL (ob62 Bn4 S392 caq395 ccq396 caq397 ccq398 :: ro2 caq395 ccq396 S392.Held :: ro90 caq397 ccq398 S392.Book :: ob62 Bn12 S342 ca343 cc344 ca345 cc346 :: ro2 ca343 cc344 S342.Held :: ro90 ca345 cc346 S342.Book :: ob96 Bn308 S347 ca348 cc349 ca350 cc351 :: ro2 ca348 cc349 S347.cell :: ro90 ca350 cc351 S347.log :: ob78 b319 S393 caq399 ccq400 caq401 ccq402 :: rn139 caq399 ccq400 S393.numberLists :: rn142 caq401 ccq402 S393.accessLists :: L)) _ := h.sel 13 [0, 1, 2, 6, 7, 8, 9, 10, 11, 3, 4, 5] (by kernel_rfl) (by kernel_rfl)
                exact ⟨(), caq395, ccq396, caq397, ccq398, ca343, cc344, ca345, cc346, ca348, cc349, ca350, cc351, caq399, ccq400, caq401, ccq402, S392, S342, S347, S393, r391, sinj H, j, hr, h⟩
              ·
                replace H := ifF c390 H
                refine cond_ff hr (b := g384) (bF c390) ?_
                refine wp_region_lit ?_
                refine ovs [89, 90] [.pointer (some ⟨Bn308, 0, none⟩), .pointer (some ⟨Bn12, 0, none⟩)] hr ⟨rfl, rfl⟩ (by kernel_rfl) ?_; clear hr a; intro a hr
                refine op_val (wn rfl) rfl rfl hr (v := .agg #[.int .i64 ((at_ p2 g357.toNat).Side), .int .i64 ((at_ p2 g357.toNat).Kind), .int .i64 ((at_ p2 g357.toNat).Addr), .int .i64 ((at_ p2 g357.toNat).A), .int .i64 ((at_ p2 g357.toNat).B)]) (rlm (cs := [.int .i64 ((at_ p2 g357.toNat).Side), .int .i64 ((at_ p2 g357.toNat).Kind), .int .i64 ((at_ p2 g357.toNat).Addr), .int .i64 ((at_ p2 g357.toNat).A), .int .i64 ((at_ p2 g357.toNat).B)]) rfl (by kernel_rfl) (by kernel_rfl) (by kernel_rfl) ⟨(h.pick 12).cell 0 rfl, (h.pick 12).cell 1 rfl, (h.pick 12).cell 2 rfl, (h.pick 12).cell 3 rfl, (h.pick 12).cell 4 rfl, trivial⟩) ?_; clear hr a; intro a hr
                replace H := bd4 H; obtain ⟨r403, S404, S405, S406, e407, H⟩ := H
                refine ov hr (.pointer (some ⟨b319, 0, none⟩)) (by kernel_rfl) ?_; clear hr a; intro a hr
                replace h : Fit z (sepL (ob96 Bn308 S347 ca348 cc349 ca350 cc351 :: ro2 ca348 cc349 S347.cell :: ro90 ca350 cc351 S347.log :: ob62 Bn12 S342 ca343 cc344 ca345 cc346 :: ro2 ca343 cc344 S342.Held :: ro90 ca345 cc346 S342.Book :: ob78 b319 S352 ca353 cc354 ca355 cc356 :: rn139 ca353 cc354 S352.numberLists :: rn142 ca355 cc356 S352.accessLists :: ob62 Bn4 S337 ca338 cc339 ca340 cc341 :: ro2 ca338 cc339 S337.Held :: ro90 ca340 cc341 S337.Book :: ob30 b360 (at_ p2 g357.toNat) :: L)) _ := h.sel 13 [6, 7, 8, 3, 4, 5, 9, 10, 11, 0, 1, 2, 12] (by kernel_rfl) (by kernel_rfl)
                have hc := plunderlaw2_plays_ok (H := e407) (h := h)
                refine op_call (wn rfl) rfl rfl hr (f := 69) (args := #[.pointer (some ⟨Bn308, 0, none⟩), .pointer (some ⟨Bn12, 0, none⟩), .agg #[.int .i64 ((at_ p2 g357.toNat).Side), .int .i64 ((at_ p2 g357.toNat).Kind), .int .i64 ((at_ p2 g357.toNat).Addr), .int .i64 ((at_ p2 g357.toNat).A), .int .i64 ((at_ p2 g357.toNat).B)], .pointer (some ⟨b319, 0, none⟩)]) (by kernel_rfl) hc ?_; clear hc h
                rintro _ w ⟨caq408, ccq409, caq410, ccq411, caq412, ccq413, caq414, ccq415, caq416, ccq417, caq418, ccq419, rfl, h⟩; refine ⟨_, rfl, ?_⟩
                clear hr a; intro a hr
                refine ov hr (.bool r403) (by kernel_rfl) ?_; clear hr a; intro a hr
                refine wpList_nil ?_
                refine then_normal ?_
                replace hr := hr.fold2 [(2, .slice va2 p2.length vc2), (3, .bool p3), (4, .bool p4), (11, .pointer (some ⟨Bn4, 0, none⟩)), (13, .pointer (some ⟨Bn12, 0, none⟩)), (15, .pointer none), (17, .pointer (some ⟨Bn308, 0, none⟩)), (19, .pointer (some ⟨b319, 0, none⟩)), (20, .int .i64 g357), (22, .bool r403)] (by kernel_rfl); obtain ⟨j, hr⟩ := hr
                replace h : Fit z (sepL (ob62 Bn4 S337 ca338 cc339 ca340 cc341 :: ro2 ca338 cc339 S337.Held :: ro90 ca340 cc341 S337.Book :: ob62 Bn12 S405 caq412 ccq413 caq414 ccq415 :: ro2 caq412 ccq413 S405.Held :: ro90 caq414 ccq415 S405.Book :: ob96 Bn308 S404 caq408 ccq409 caq410 ccq411 :: ro2 caq408 ccq409 S404.cell :: ro90 caq410 ccq411 S404.log :: ob78 b319 S406 caq416 ccq417 caq418 ccq419 :: rn139 caq416 ccq417 S406.numberLists :: rn142 caq418 ccq419 S406.accessLists :: L)) _ := h.sel 13 [9, 10, 11, 3, 4, 5, 0, 1, 2, 6, 7, 8] (by kernel_rfl) (by kernel_rfl)
                exact ⟨(), ca338, cc339, ca340, cc341, caq412, ccq413, caq414, ccq415, caq408, ccq409, caq410, ccq411, caq416, ccq417, caq418, ccq419, S337, S405, S404, S406, r403, sinj H, j, hr, h⟩
            clear h hr a; rintro _ a w ⟨ca362, cc363, ca364, cc365, ca367, cc368, ca369, cc370, ca372, cc373, ca374, cc375, ca377, cc378, ca379, cc380, S361, S366, S371, S376, g381, rfl, j, hr, h⟩
            replace H := kk5 hK382
            refine wp_seq ?_
            refine wp_seq ?_
            refine wp_region_lit ?_
            refine ovs [94, 95] [.bool g381, .bool (!g381)] hr ⟨rfl, rfl⟩ (by kernel_rfl) ?_; clear hr a; intro a hr
            refine wpList_nil ?_
            refine then_normal ?_
            by_cases c420 : g381 = true
            ·
              replace H := ifT c420 H
              refine cond_ff hr (b := (!g381)) (by rw [show g381 = true from (c420)]; rfl) ?_
              refine wp_skip ?_
              refine then_normal ?_
              refine wp_seq ?_
              refine wp_region_lit ?_
              refine ov hr (.bool p4) (by kernel_rfl) ?_; clear hr a; intro a hr
              refine wpList_nil ?_
              refine then_normal ?_
              by_cases c421 : p4 = true
              ·
                replace H := ifT c421 H
                refine cond_tt hr (b := p4) (c421) ?_
                refine wp_seq ?_
                refine wp_region_lit ?_
                replace H := bd1 H; obtain ⟨r422, e423, H⟩ := H
                refine ov hr (.pointer (some ⟨b319, 0, none⟩)) (by kernel_rfl) ?_; clear hr a; intro a hr
                replace h : Fit z (sepL (ob78 b319 S376 ca377 cc378 ca379 cc380 :: rn139 ca377 cc378 S376.numberLists :: rn142 ca379 cc380 S376.accessLists :: ob62 Bn4 S361 ca362 cc363 ca364 cc365 :: ro2 ca362 cc363 S361.Held :: ro90 ca364 cc365 S361.Book :: ob62 Bn12 S366 ca367 cc368 ca369 cc370 :: ro2 ca367 cc368 S366.Held :: ro90 ca369 cc370 S366.Book :: ob96 Bn308 S371 ca372 cc373 ca374 cc375 :: ro2 ca372 cc373 S371.cell :: ro90 ca374 cc375 S371.log :: L)) _ := h.sel 12 [9, 10, 11, 0, 1, 2, 3, 4, 5, 6, 7, 8] (by kernel_rfl) (by kernel_rfl)
                have hc := plunderlaw2_book_stands_ok (H := e423) (h := h)
                refine op_call (wn rfl) rfl rfl hr (f := 45) (args := #[.pointer (some ⟨b319, 0, none⟩)]) (by kernel_rfl) hc ?_; clear hc h
                rintro _ w ⟨rfl, h⟩; refine ⟨_, rfl, ?_⟩
                clear hr a; intro a hr
                refine ov hr (.bool r422) (by kernel_rfl) ?_; clear hr a; intro a hr
                refine wpList_nil ?_
                refine then_normal ?_
                refine wp_seq ?_
                refine wp_region_lit ?_
                refine ovs [99, 100] [.bool r422, .bool (!r422)] hr ⟨rfl, rfl⟩ (by kernel_rfl) ?_; clear hr a; intro a hr
                refine wpList_nil ?_
                refine then_normal ?_
                by_cases c424 : r422 = true
                ·
                  replace H := ifT c424 H
                  refine cond_ff hr (b := (!r422)) (by rw [show r422 = true from (c424)]; rfl) ?_
                  refine wp_skip ?_
                  refine blk_normal ?_
                  refine then_normal ?_
                  refine wp_region_lit ?_
                  refine ovs [71, 72, 20] [.int .i64 g357, .int .i64 (wi (g357 + (1 : Int))), .int .i64 (wi (g357 + (1 : Int)))] hr ⟨rfl, rfl⟩ (by kernel_rfl) ?_; clear hr a; intro a hr
                  refine wpList_nil ?_
                  refine then_normal ?_
                  replace hr := hr.fold2 [(2, .slice va2 p2.length vc2), (3, .bool p3), (4, .bool p4), (11, .pointer (some ⟨Bn4, 0, none⟩)), (13, .pointer (some ⟨Bn12, 0, none⟩)), (15, .pointer none), (17, .pointer (some ⟨Bn308, 0, none⟩)), (19, .pointer (some ⟨b319, 0, none⟩)), (20, .int .i64 (wi (g357 + (1 : Int))))] (by kernel_rfl); obtain ⟨j, hr⟩ := hr
                  replace h : Fit z (sepL (ob62 Bn4 S361 ca362 cc363 ca364 cc365 :: ro2 ca362 cc363 S361.Held :: ro90 ca364 cc365 S361.Book :: ob62 Bn12 S366 ca367 cc368 ca369 cc370 :: ro2 ca367 cc368 S366.Held :: ro90 ca369 cc370 S366.Book :: ob96 Bn308 S371 ca372 cc373 ca374 cc375 :: ro2 ca372 cc373 S371.cell :: ro90 ca374 cc375 S371.log :: ob78 b319 S376 ca377 cc378 ca379 cc380 :: rn139 ca377 cc378 S376.numberLists :: rn142 ca379 cc380 S376.accessLists :: L)) _ := h.sel 12 [3, 4, 5, 6, 7, 8, 9, 10, 11, 0, 1, 2] (by kernel_rfl) (by kernel_rfl)
                  exact ⟨_, ⟨ca362, cc363, ca364, cc365, ca367, cc368, ca369, cc370, ca372, cc373, ca374, cc375, ca377, cc378, ca379, cc380, S361, S366, S371, S376, (wi (g357 + (1 : Int))), H, j, hr, h⟩, Nat.lt_succ_self _⟩
                ·
                  replace H := ifF c424 H
                  refine cond_tt hr (b := (!r422)) (by rw [show r422 = false from (bF c424)]; rfl) ?_
                  refine wp_seq ?_
                  refine wp_region_lit ?_
                  refine ov hr (.bool false) (by kernel_rfl) ?_; clear hr a; intro a hr
                  refine wpList_nil ?_
                  refine then_normal ?_
                  refine wp_ret ?_
                  refine blk_ret ?_
                  refine then_ret ?_
                  refine then_ret ?_
                  refine blk_ret ?_
                  refine then_ret ?_
                  refine end_ret1 (v := .bool false) rfl hr (by kernel_rfl) ?_
                  replace H := jx3 H hK335
                  replace h : Fit z (sepL (L)) _ := h.sel 12 [] (by kernel_rfl) (by kernel_rfl)
                  replace H := ej1 H; subst H
                  exact ⟨rfl, h⟩
              ·
                replace H := ifF c421 H
                refine cond_ff hr (b := p4) (bF c421) ?_
                refine wp_skip ?_
                refine blk_normal ?_
                refine then_normal ?_
                refine wp_region_lit ?_
                refine ovs [71, 72, 20] [.int .i64 g357, .int .i64 (wi (g357 + (1 : Int))), .int .i64 (wi (g357 + (1 : Int)))] hr ⟨rfl, rfl⟩ (by kernel_rfl) ?_; clear hr a; intro a hr
                refine wpList_nil ?_
                refine then_normal ?_
                replace hr := hr.fold2 [(2, .slice va2 p2.length vc2), (3, .bool p3), (4, .bool p4), (11, .pointer (some ⟨Bn4, 0, none⟩)), (13, .pointer (some ⟨Bn12, 0, none⟩)), (15, .pointer none), (17, .pointer (some ⟨Bn308, 0, none⟩)), (19, .pointer (some ⟨b319, 0, none⟩)), (20, .int .i64 (wi (g357 + (1 : Int))))] (by kernel_rfl); obtain ⟨j, hr⟩ := hr
                exact ⟨_, ⟨ca362, cc363, ca364, cc365, ca367, cc368, ca369, cc370, ca372, cc373, ca374, cc375, ca377, cc378, ca379, cc380, S361, S366, S371, S376, (wi (g357 + (1 : Int))), H, j, hr, h⟩, Nat.lt_succ_self _⟩
            ·
              replace H := ifF c420 H
              refine cond_tt hr (b := (!g381)) (by rw [show g381 = false from (bF c420)]; rfl) ?_
              refine wp_seq ?_
              refine wp_region_lit ?_
              refine ov hr (.bool false) (by kernel_rfl) ?_; clear hr a; intro a hr
              refine wpList_nil ?_
              refine then_normal ?_
              refine wp_ret ?_
              refine then_ret ?_
              refine blk_ret ?_
              refine then_ret ?_
              refine then_ret ?_
              refine blk_ret ?_
              refine then_ret ?_
              refine end_ret1 (v := .bool false) rfl hr (by kernel_rfl) ?_
              replace H := jx3 H hK335
              replace h : Fit z (sepL (L)) _ := h.sel 12 [] (by kernel_rfl) (by kernel_rfl)
              replace H := ej1 H; subst H
              exact ⟨rfl, h⟩
          ·
            replace H := ifF c358 H
            refine cond_ff hr (b := (decide (g357 < ((p2.length : Nat) : Int)))) (decide_eq_false c358) ?_
            refine wp_exit ?_
            refine then_exit ?_
            refine then_exit ?_
            refine blk_here ?_
            refine then_normal ?_
            replace hr := hr.fold2 [(11, .pointer (some ⟨Bn4, 0, none⟩)), (13, .pointer (some ⟨Bn12, 0, none⟩)), (15, .pointer none), (17, .pointer (some ⟨Bn308, 0, none⟩))] (by kernel_rfl); obtain ⟨j, hr⟩ := hr
            replace h : Fit z (sepL (ob62 Bn4 S337 ca338 cc339 ca340 cc341 :: ro2 ca338 cc339 S337.Held :: ro90 ca340 cc341 S337.Book :: ob62 Bn12 S342 ca343 cc344 ca345 cc346 :: ro2 ca343 cc344 S342.Held :: ro90 ca345 cc346 S342.Book :: ob96 Bn308 S347 ca348 cc349 ca350 cc351 :: ro2 ca348 cc349 S347.cell :: ro90 ca350 cc351 S347.log :: L)) _ := h.sel 12 [0, 1, 2, 3, 4, 5, 6, 7, 8] (by kernel_rfl) (by kernel_rfl)
            exact ⟨(), ca338, cc339, ca340, cc341, ca343, cc344, ca345, cc346, ca348, cc349, ca350, cc351, S337, S342, S347, sinj H, j, hr, h⟩
      clear h hr a; rintro _ a w ⟨ca321, cc322, ca323, cc324, ca326, cc327, ca328, cc329, ca331, cc332, ca333, cc334, S320, S325, S330, rfl, j, hr, h⟩
      replace H := jk3 hK335
      refine wp_seq ?_
      refine wp_seq ?_
      refine wp_region_lit ?_
      refine ovs [101, 102, 103] [.pointer none, .bool true, .bool true] hr ⟨rfl, rfl⟩ (by kernel_rfl) ?_; clear hr a; intro a hr
      refine op_off ((wg hr rfl rfl rfl (b' := true) (by kernel_rfl)).trans rfl) rfl rfl hr ?_; clear hr a; intro a hr
      refine op_off ((wg hr rfl rfl rfl (b' := true) (by kernel_rfl)).trans rfl) rfl rfl hr ?_; clear hr a; intro a hr
      refine ov hr (.bool true) (by kernel_rfl) ?_; clear hr a; intro a hr
      refine wpList_nil ?_
      refine then_normal ?_
      refine cond_tt hr (b := true) rfl ?_
      refine wp_seq ?_
      refine wp_region_lit ?_
      refine ov hr (.bool true) (by kernel_rfl) ?_; clear hr a; intro a hr
      refine wpList_nil ?_
      refine then_normal ?_
      refine wp_ret ?_
      refine then_ret ?_
      refine end_ret1 (v := .bool true) rfl hr (by kernel_rfl) ?_
      replace h : Fit z (sepL (L)) _ := h.sel 9 [] (by kernel_rfl) (by kernel_rfl)
      replace H := ej1 H; subst H
      exact ⟨rfl, h⟩
    | none =>
      have hc := cells_New_ok1 (H := e306) (h := h)
      refine op_call (wn rfl) rfl rfl hr (f := 19) (args := #[.int .i64 p1]) (by kernel_rfl) hc ?_; clear hc h
      rintro _ w ⟨rfl, h⟩; refine ⟨_, rfl, ?_⟩
      clear hr a; intro a hr
      refine ovs [38, 41, 42, 17, 18] [.tuple #[.pointer none, .int .i64 r305], .pointer none, .int .i64 r305, .pointer none, .int .i64 r305] hr ⟨rfl, rfl⟩ (by kernel_rfl) ?_; clear hr a; intro a hr
      refine wpList_nil ?_
      refine then_normal ?_
      replace H := jd0 H; obtain ⟨o426, H, hK425⟩ := H
      refine cut_rule (β := Unit) (fun _ a w => .inl () = o426 ∧ ∃ j, Rep 141 (lk [(2, .slice va2 p2.length vc2), (3, .bool p3), (4, .bool p4), (11, .pointer (some ⟨Bn4, 0, none⟩)), (13, .pointer (some ⟨Bn12, 0, none⟩)), (15, .pointer none), (17, .pointer none)] j) a ∧ Fit z (sepL (ob62 Bn4 r1 car5 ccr6 car7 ccr8 :: ro2 car5 ccr6 r1.Held :: ro90 car7 ccr8 r1.Book :: ob62 Bn12 r9 car13 ccr14 car15 ccr16 :: ro2 car13 ccr14 r9.Held :: ro90 car15 ccr16 r9.Book :: L)) w) ?_ ?_
      ·
        refine wp_seq ?_
        refine wp_region_lit ?_
        refine ovs [43, 44, 45, 46] [.int .i64 r18, .int .i64 r2, .bool (r18 != r2), .bool (r18 != r2)] hr ⟨rfl, rfl⟩ (by kernel_rfl) ?_; clear hr a; intro a hr
        by_cases c427 : r18 = r2
        ·
          replace H := ifT c427 H
          refine op_val ((wg hr rfl rfl rfl (b' := (r18 != r2)) (by kernel_rfl)).trans (by rw [show (r18 != r2) = false from (bne_eq_false_iff_eq.mpr c427)]; rfl)) rfl rfl hr (v := .int .i64 r305) (by kernel_rfl) ?_; clear hr a; intro a hr
          refine op_val ((wg hr rfl rfl rfl (b' := (r18 != r2)) (by kernel_rfl)).trans (by rw [show (r18 != r2) = false from (bne_eq_false_iff_eq.mpr c427)]; rfl)) rfl rfl hr (v := .int .i64 r10) (by kernel_rfl) ?_; clear hr a; intro a hr
          refine op_val ((wg hr rfl rfl rfl (b' := (r18 != r2)) (by kernel_rfl)).trans (by rw [show (r18 != r2) = false from (bne_eq_false_iff_eq.mpr c427)]; rfl)) rfl rfl hr (v := .bool (r305 != r10)) (by kernel_rfl) ?_; clear hr a; intro a hr
          refine op_val (wn rfl) rfl rfl hr (v := .bool (r305 != r10)) (rp_f (b := (r18 != r2)) rfl (by kernel_rfl) (bne_eq_false_iff_eq.mpr c427) (by kernel_rfl)) ?_; clear hr a; intro a hr
          refine ov hr (.bool (r305 != r10)) (by kernel_rfl) ?_; clear hr a; intro a hr
          by_cases c428 : r305 = r10
          ·
            replace H := ifT c428 H
            refine op_val ((wg hr rfl rfl rfl (b' := (r305 != r10)) (by kernel_rfl)).trans (by rw [show (r305 != r10) = false from (bne_eq_false_iff_eq.mpr c428)]; rfl)) rfl rfl hr (v := .pointer none) (by kernel_rfl) ?_; clear hr a; intro a hr
            refine op_val ((wg hr rfl rfl rfl (b' := (r305 != r10)) (by kernel_rfl)).trans (by rw [show (r305 != r10) = false from (bne_eq_false_iff_eq.mpr c428)]; rfl)) rfl rfl hr (v := .bool true) (by kernel_rfl) ?_; clear hr a; intro a hr
            refine op_val ((wg hr rfl rfl rfl (b' := (r305 != r10)) (by kernel_rfl)).trans (by rw [show (r305 != r10) = false from (bne_eq_false_iff_eq.mpr c428)]; rfl)) rfl rfl hr (v := .int .i64 r2) (by kernel_rfl) ?_; clear hr a; intro a hr
            refine op_val ((wg hr rfl rfl rfl (b' := (r305 != r10)) (by kernel_rfl)).trans (by rw [show (r305 != r10) = false from (bne_eq_false_iff_eq.mpr c428)]; rfl)) rfl rfl hr (v := .bool (r2 != (0 : Int))) (by kernel_rfl) ?_; clear hr a; intro a hr
            refine op_val ((wg hr rfl rfl rfl (b' := (r305 != r10)) (by kernel_rfl)).trans (by rw [show (r305 != r10) = false from (bne_eq_false_iff_eq.mpr c428)]; rfl)) rfl rfl hr (v := .bool (!(true == (r2 != (0 : Int))))) (by kernel_rfl) ?_; clear hr a; intro a hr
            refine op_val (wn rfl) rfl rfl hr (v := .bool (!(true == (r2 != (0 : Int))))) (rp_f (b := (r305 != r10)) rfl (by kernel_rfl) (bne_eq_false_iff_eq.mpr c428) (by kernel_rfl)) ?_; clear hr a; intro a hr
            refine ov hr (.bool (!(true == (r2 != (0 : Int))))) (by kernel_rfl) ?_; clear hr a; intro a hr
            by_cases c429 : true = (r2 != (0 : Int))
            ·
              replace H := ifT c429 H
              refine op_val ((wg hr rfl rfl rfl (b' := (!(true == (r2 != (0 : Int))))) (by kernel_rfl)).trans (by rw [show (!(true == (r2 != (0 : Int)))) = false from (by rw [show (true == (r2 != (0 : Int))) = true from (beq_iff_eq.mpr c429)]; rfl)]; rfl)) rfl rfl hr (v := .pointer none) (by kernel_rfl) ?_; clear hr a; intro a hr
              refine op_val ((wg hr rfl rfl rfl (b' := (!(true == (r2 != (0 : Int))))) (by kernel_rfl)).trans (by rw [show (!(true == (r2 != (0 : Int)))) = false from (by rw [show (true == (r2 != (0 : Int))) = true from (beq_iff_eq.mpr c429)]; rfl)]; rfl)) rfl rfl hr (v := .bool true) (by kernel_rfl) ?_; clear hr a; intro a hr
              refine op_val ((wg hr rfl rfl rfl (b' := (!(true == (r2 != (0 : Int))))) (by kernel_rfl)).trans (by rw [show (!(true == (r2 != (0 : Int)))) = false from (by rw [show (true == (r2 != (0 : Int))) = true from (beq_iff_eq.mpr c429)]; rfl)]; rfl)) rfl rfl hr (v := .int .i64 r10) (by kernel_rfl) ?_; clear hr a; intro a hr
              refine op_val ((wg hr rfl rfl rfl (b' := (!(true == (r2 != (0 : Int))))) (by kernel_rfl)).trans (by rw [show (!(true == (r2 != (0 : Int)))) = false from (by rw [show (true == (r2 != (0 : Int))) = true from (beq_iff_eq.mpr c429)]; rfl)]; rfl)) rfl rfl hr (v := .bool (r10 != (0 : Int))) (by kernel_rfl) ?_; clear hr a; intro a hr
              refine op_val ((wg hr rfl rfl rfl (b' := (!(true == (r2 != (0 : Int))))) (by kernel_rfl)).trans (by rw [show (!(true == (r2 != (0 : Int)))) = false from (by rw [show (true == (r2 != (0 : Int))) = true from (beq_iff_eq.mpr c429)]; rfl)]; rfl)) rfl rfl hr (v := .bool (!(true == (r10 != (0 : Int))))) (by kernel_rfl) ?_; clear hr a; intro a hr
              refine op_val (wn rfl) rfl rfl hr (v := .bool (!(true == (r10 != (0 : Int))))) (rp_f (b := (!(true == (r2 != (0 : Int))))) rfl (by kernel_rfl) (by rw [show (true == (r2 != (0 : Int))) = true from (beq_iff_eq.mpr c429)]; rfl) (by kernel_rfl)) ?_; clear hr a; intro a hr
              refine wpList_nil ?_
              refine then_normal ?_
              by_cases c430 : true = (r10 != (0 : Int))
              ·
                replace H := ifT c430 H
                refine cond_ff hr (b := (!(true == (r10 != (0 : Int))))) (by rw [show (true == (r10 != (0 : Int))) = true from (beq_iff_eq.mpr c430)]; rfl) ?_
                refine wp_skip ?_
                refine then_normal ?_
                replace hr := hr.fold2 [(2, .slice va2 p2.length vc2), (3, .bool p3), (4, .bool p4), (11, .pointer (some ⟨Bn4, 0, none⟩)), (13, .pointer (some ⟨Bn12, 0, none⟩)), (15, .pointer none), (17, .pointer none)] (by kernel_rfl); obtain ⟨j, hr⟩ := hr
                replace h : Fit z (sepL (ob62 Bn4 r1 car5 ccr6 car7 ccr8 :: ro2 car5 ccr6 r1.Held :: ro90 car7 ccr8 r1.Book :: ob62 Bn12 r9 car13 ccr14 car15 ccr16 :: ro2 car13 ccr14 r9.Held :: ro90 car15 ccr16 r9.Book :: L)) _ := h.sel 6 [3, 4, 5, 0, 1, 2] (by kernel_rfl) (by kernel_rfl)
                exact ⟨(), sinj H, j, hr, h⟩
              ·
                replace H := ifF c430 H
                refine cond_tt hr (b := (!(true == (r10 != (0 : Int))))) (by rw [show (true == (r10 != (0 : Int))) = false from (beq_eq_false_iff_ne.mpr c430)]; rfl) ?_
                refine wp_seq ?_
                refine wp_region_lit ?_
                refine ov hr (.bool false) (by kernel_rfl) ?_; clear hr a; intro a hr
                refine wpList_nil ?_
                refine then_normal ?_
                refine wp_ret ?_
                refine then_ret ?_
                refine end_ret1 (v := .bool false) rfl hr (by kernel_rfl) ?_
                replace H := jx0 H hK425
                replace h : Fit z (sepL (L)) _ := h.sel 6 [] (by kernel_rfl) (by kernel_rfl)
                replace H := ej1 H; subst H
                exact ⟨rfl, h⟩
            ·
              replace H := ifF c429 H
              refine op_off ((wg hr rfl rfl rfl (b' := (!(true == (r2 != (0 : Int))))) (by kernel_rfl)).trans (by rw [show (!(true == (r2 != (0 : Int)))) = true from (by rw [show (true == (r2 != (0 : Int))) = false from (beq_eq_false_iff_ne.mpr c429)]; rfl)]; rfl)) rfl rfl hr ?_; clear hr a; intro a hr
              refine op_off ((wg hr rfl rfl rfl (b' := (!(true == (r2 != (0 : Int))))) (by kernel_rfl)).trans (by rw [show (!(true == (r2 != (0 : Int)))) = true from (by rw [show (true == (r2 != (0 : Int))) = false from (beq_eq_false_iff_ne.mpr c429)]; rfl)]; rfl)) rfl rfl hr ?_; clear hr a; intro a hr
              refine op_off ((wg hr rfl rfl rfl (b' := (!(true == (r2 != (0 : Int))))) (by kernel_rfl)).trans (by rw [show (!(true == (r2 != (0 : Int)))) = true from (by rw [show (true == (r2 != (0 : Int))) = false from (beq_eq_false_iff_ne.mpr c429)]; rfl)]; rfl)) rfl rfl hr ?_; clear hr a; intro a hr
              refine op_off ((wg hr rfl rfl rfl (b' := (!(true == (r2 != (0 : Int))))) (by kernel_rfl)).trans (by rw [show (!(true == (r2 != (0 : Int)))) = true from (by rw [show (true == (r2 != (0 : Int))) = false from (beq_eq_false_iff_ne.mpr c429)]; rfl)]; rfl)) rfl rfl hr ?_; clear hr a; intro a hr
              refine op_off ((wg hr rfl rfl rfl (b' := (!(true == (r2 != (0 : Int))))) (by kernel_rfl)).trans (by rw [show (!(true == (r2 != (0 : Int)))) = true from (by rw [show (true == (r2 != (0 : Int))) = false from (beq_eq_false_iff_ne.mpr c429)]; rfl)]; rfl)) rfl rfl hr ?_; clear hr a; intro a hr
              refine op_val (wn rfl) rfl rfl hr (v := .bool true) (rp_t (b := (!(true == (r2 != (0 : Int))))) rfl (by kernel_rfl) (by rw [show (true == (r2 != (0 : Int))) = false from (beq_eq_false_iff_ne.mpr c429)]; rfl) (by kernel_rfl)) ?_; clear hr a; intro a hr
              refine wpList_nil ?_
              refine then_normal ?_
              refine cond_tt hr (b := true) rfl ?_
              refine wp_seq ?_
              refine wp_region_lit ?_
              refine ov hr (.bool false) (by kernel_rfl) ?_; clear hr a; intro a hr
              refine wpList_nil ?_
              refine then_normal ?_
              refine wp_ret ?_
              refine then_ret ?_
              refine end_ret1 (v := .bool false) rfl hr (by kernel_rfl) ?_
              replace H := jx0 H hK425
              replace h : Fit z (sepL (L)) _ := h.sel 6 [] (by kernel_rfl) (by kernel_rfl)
              replace H := ej1 H; subst H
              exact ⟨rfl, h⟩
          ·
            replace H := ifF c428 H
            refine op_off ((wg hr rfl rfl rfl (b' := (r305 != r10)) (by kernel_rfl)).trans (by rw [show (r305 != r10) = true from (bne_iff_ne.mpr c428)]; rfl)) rfl rfl hr ?_; clear hr a; intro a hr
            refine op_off ((wg hr rfl rfl rfl (b' := (r305 != r10)) (by kernel_rfl)).trans (by rw [show (r305 != r10) = true from (bne_iff_ne.mpr c428)]; rfl)) rfl rfl hr ?_; clear hr a; intro a hr
            refine op_off ((wg hr rfl rfl rfl (b' := (r305 != r10)) (by kernel_rfl)).trans (by rw [show (r305 != r10) = true from (bne_iff_ne.mpr c428)]; rfl)) rfl rfl hr ?_; clear hr a; intro a hr
            refine op_off ((wg hr rfl rfl rfl (b' := (r305 != r10)) (by kernel_rfl)).trans (by rw [show (r305 != r10) = true from (bne_iff_ne.mpr c428)]; rfl)) rfl rfl hr ?_; clear hr a; intro a hr
            refine op_off ((wg hr rfl rfl rfl (b' := (r305 != r10)) (by kernel_rfl)).trans (by rw [show (r305 != r10) = true from (bne_iff_ne.mpr c428)]; rfl)) rfl rfl hr ?_; clear hr a; intro a hr
            refine op_val (wn rfl) rfl rfl hr (v := .bool true) (rp_t (b := (r305 != r10)) rfl (by kernel_rfl) (bne_iff_ne.mpr c428) (by kernel_rfl)) ?_; clear hr a; intro a hr
            refine ov hr (.bool true) (by kernel_rfl) ?_; clear hr a; intro a hr
            refine op_off ((wg hr rfl rfl rfl (b' := true) (by kernel_rfl)).trans rfl) rfl rfl hr ?_; clear hr a; intro a hr
            refine op_off ((wg hr rfl rfl rfl (b' := true) (by kernel_rfl)).trans rfl) rfl rfl hr ?_; clear hr a; intro a hr
            refine op_off ((wg hr rfl rfl rfl (b' := true) (by kernel_rfl)).trans rfl) rfl rfl hr ?_; clear hr a; intro a hr
            refine op_off ((wg hr rfl rfl rfl (b' := true) (by kernel_rfl)).trans rfl) rfl rfl hr ?_; clear hr a; intro a hr
            refine op_off ((wg hr rfl rfl rfl (b' := true) (by kernel_rfl)).trans rfl) rfl rfl hr ?_; clear hr a; intro a hr
            refine ov hr (.bool true) (by kernel_rfl) ?_; clear hr a; intro a hr
            refine wpList_nil ?_
            refine then_normal ?_
            refine cond_tt hr (b := true) rfl ?_
            refine wp_seq ?_
            refine wp_region_lit ?_
            refine ov hr (.bool false) (by kernel_rfl) ?_; clear hr a; intro a hr
            refine wpList_nil ?_
            refine then_normal ?_
            refine wp_ret ?_
            refine then_ret ?_
            refine end_ret1 (v := .bool false) rfl hr (by kernel_rfl) ?_
            replace H := jx0 H hK425
            replace h : Fit z (sepL (L)) _ := h.sel 6 [] (by kernel_rfl) (by kernel_rfl)
            replace H := ej1 H; subst H
            exact ⟨rfl, h⟩
        ·
          replace H := ifF c427 H
          refine op_off ((wg hr rfl rfl rfl (b' := (r18 != r2)) (by kernel_rfl)).trans (by rw [show (r18 != r2) = true from (bne_iff_ne.mpr c427)]; rfl)) rfl rfl hr ?_; clear hr a; intro a hr
          refine op_off ((wg hr rfl rfl rfl (b' := (r18 != r2)) (by kernel_rfl)).trans (by rw [show (r18 != r2) = true from (bne_iff_ne.mpr c427)]; rfl)) rfl rfl hr ?_; clear hr a; intro a hr
          refine op_off ((wg hr rfl rfl rfl (b' := (r18 != r2)) (by kernel_rfl)).trans (by rw [show (r18 != r2) = true from (bne_iff_ne.mpr c427)]; rfl)) rfl rfl hr ?_; clear hr a; intro a hr
          refine op_val (wn rfl) rfl rfl hr (v := .bool true) (rp_t (b := (r18 != r2)) rfl (by kernel_rfl) (bne_iff_ne.mpr c427) (by kernel_rfl)) ?_; clear hr a; intro a hr
          refine ov hr (.bool true) (by kernel_rfl) ?_; clear hr a; intro a hr
          refine op_off ((wg hr rfl rfl rfl (b' := true) (by kernel_rfl)).trans rfl) rfl rfl hr ?_; clear hr a; intro a hr
          refine op_off ((wg hr rfl rfl rfl (b' := true) (by kernel_rfl)).trans rfl) rfl rfl hr ?_; clear hr a; intro a hr
          refine op_off ((wg hr rfl rfl rfl (b' := true) (by kernel_rfl)).trans rfl) rfl rfl hr ?_; clear hr a; intro a hr
          refine op_off ((wg hr rfl rfl rfl (b' := true) (by kernel_rfl)).trans rfl) rfl rfl hr ?_; clear hr a; intro a hr
          refine op_off ((wg hr rfl rfl rfl (b' := true) (by kernel_rfl)).trans rfl) rfl rfl hr ?_; clear hr a; intro a hr
          refine ovs [57, 58] [.bool true, .bool true] hr ⟨rfl, rfl⟩ (by kernel_rfl) ?_; clear hr a; intro a hr
          refine op_off ((wg hr rfl rfl rfl (b' := true) (by kernel_rfl)).trans rfl) rfl rfl hr ?_; clear hr a; intro a hr
          refine op_off ((wg hr rfl rfl rfl (b' := true) (by kernel_rfl)).trans rfl) rfl rfl hr ?_; clear hr a; intro a hr
          refine op_off ((wg hr rfl rfl rfl (b' := true) (by kernel_rfl)).trans rfl) rfl rfl hr ?_; clear hr a; intro a hr
          refine op_off ((wg hr rfl rfl rfl (b' := true) (by kernel_rfl)).trans rfl) rfl rfl hr ?_; clear hr a; intro a hr
          refine op_off ((wg hr rfl rfl rfl (b' := true) (by kernel_rfl)).trans rfl) rfl rfl hr ?_; clear hr a; intro a hr
          refine ov hr (.bool true) (by kernel_rfl) ?_; clear hr a; intro a hr
          refine wpList_nil ?_
          refine then_normal ?_
          refine cond_tt hr (b := true) rfl ?_
          refine wp_seq ?_
          refine wp_region_lit ?_
          refine ov hr (.bool false) (by kernel_rfl) ?_; clear hr a; intro a hr
          refine wpList_nil ?_
          refine then_normal ?_
          refine wp_ret ?_
          refine then_ret ?_
          refine end_ret1 (v := .bool false) rfl hr (by kernel_rfl) ?_
          replace H := jx0 H hK425
          replace h : Fit z (sepL (L)) _ := h.sel 6 [] (by kernel_rfl) (by kernel_rfl)
          replace H := ej1 H; subst H
          exact ⟨rfl, h⟩
      clear h hr a; rintro _ a w ⟨rfl, j, hr, h⟩
      replace H := jk0 hK425
      refine wp_seq ?_
      refine wp_region_lit ?_
      refine ov hr (.agg #[.slice none 0 0, .slice none 0 0, .int .i64 0]) (by kernel_rfl) ?_; clear hr a; intro a hr
      refine op_new (wn rfl) rfl rfl hr h (vf := fun b => .pointer (some ⟨b, 0, none⟩)) (cs := #[.slice none 0 0, .slice none 0 0, .int .i64 0]) (T := 78) (by kernel_rfl) ?_; clear h hr a; intro b431 w a h hr
      refine ov hr (.pointer (some ⟨b431, 0, none⟩)) (by kernel_rfl) ?_; clear hr a; intro a hr
      refine wpList_nil ?_
      refine then_normal ?_
      replace H := jd2 H; obtain ⟨o443, H, hK442⟩ := H
      refine cut_rule (β := Unit) (fun _ a w => ∃ ca433 : Option Addr, ∃ cc434 : Nat, ∃ ca435 : Option Addr, ∃ cc436 : Nat, ∃ ca438 : Option Addr, ∃ cc439 : Nat, ∃ ca440 : Option Addr, ∃ cc441 : Nat, ∃ S432 : T_plunderref2_Arena, ∃ S437 : T_plunderref2_Arena, .inl (S432, S437) = o443 ∧ ∃ j, Rep 141 (lk [(11, .pointer (some ⟨Bn4, 0, none⟩)), (13, .pointer (some ⟨Bn12, 0, none⟩)), (15, .pointer none), (17, .pointer none)] j) a ∧ Fit z (sepL (ob62 Bn4 S432 ca433 cc434 ca435 cc436 :: ro2 ca433 cc434 S432.Held :: ro90 ca435 cc436 S432.Book :: ob62 Bn12 S437 ca438 cc439 ca440 cc441 :: ro2 ca438 cc439 S437.Held :: ro90 ca440 cc441 S437.Book :: L)) w) ?_ ?_
      ·
        refine wp_seq ?_
        refine wp_region_lit ?_
        refine ov hr (.int .i64 0) (by kernel_rfl) ?_; clear hr a; intro a hr
        refine wpList_nil ?_
        refine then_normal ?_
        refine wp_block ?_
        replace hr := hr.fold2 [(2, .slice va2 p2.length vc2), (3, .bool p3), (4, .bool p4), (11, .pointer (some ⟨Bn4, 0, none⟩)), (13, .pointer (some ⟨Bn12, 0, none⟩)), (15, .pointer none), (17, .pointer none), (19, .pointer (some ⟨b431, 0, none⟩)), (20, .int .i64 0)] (by kernel_rfl); obtain ⟨j, hr⟩ := hr
        replace h : Fit z (sepL (rowN 139 5 own_T_plunderlaw2_kept (.slice none 0 0) ([] : List T_plunderlaw2_kept) :: pts b431 (.cells #[.slice none 0 0, .slice none 0 0, .int .i64 0] 78) :: ob62 Bn4 r1 car5 ccr6 car7 ccr8 :: ro2 car5 ccr6 r1.Held :: ro90 car7 ccr8 r1.Book :: ob62 Bn12 r9 car13 ccr14 car15 ccr16 :: ro2 car13 ccr14 r9.Held :: ro90 car15 ccr16 r9.Book :: L)) _ := h.rowN_nil
        replace h : Fit z (sepL (rowN 142 5 own_T_plunderlaw2_noted (.slice none 0 0) ([] : List T_plunderlaw2_noted) :: rowN 139 5 own_T_plunderlaw2_kept (.slice none 0 0) ([] : List T_plunderlaw2_kept) :: pts b431 (.cells #[.slice none 0 0, .slice none 0 0, .int .i64 0] 78) :: ob62 Bn4 r1 car5 ccr6 car7 ccr8 :: ro2 car5 ccr6 r1.Held :: ro90 car7 ccr8 r1.Book :: ob62 Bn12 r9 car13 ccr14 car15 ccr16 :: ro2 car13 ccr14 r9.Held :: ro90 car15 ccr16 r9.Book :: L)) _ := h.rowN_nil
        replace h : Fit z (sepL (ob62 Bn4 r1 car5 ccr6 car7 ccr8 :: ro2 car5 ccr6 r1.Held :: ro90 car7 ccr8 r1.Book :: ob62 Bn12 r9 car13 ccr14 car15 ccr16 :: ro2 car13 ccr14 r9.Held :: ro90 car15 ccr16 r9.Book :: pts b431 (.cells #[.slice none ((⟨([] : List T_plunderlaw2_kept), ([] : List T_plunderlaw2_noted), 0⟩ : T_plunderlaw2_book).numberLists.length) 0, .slice none ((⟨([] : List T_plunderlaw2_kept), ([] : List T_plunderlaw2_noted), 0⟩ : T_plunderlaw2_book).accessLists.length) 0, .int .i64 ((⟨([] : List T_plunderlaw2_kept), ([] : List T_plunderlaw2_noted), 0⟩ : T_plunderlaw2_book).next)] 78) :: rowN 139 5 own_T_plunderlaw2_kept (.slice none ((⟨([] : List T_plunderlaw2_kept), ([] : List T_plunderlaw2_noted), 0⟩ : T_plunderlaw2_book).numberLists.length) 0) ((⟨([] : List T_plunderlaw2_kept), ([] : List T_plunderlaw2_noted), 0⟩ : T_plunderlaw2_book).numberLists) :: rowN 142 5 own_T_plunderlaw2_noted (.slice none ((⟨([] : List T_plunderlaw2_kept), ([] : List T_plunderlaw2_noted), 0⟩ : T_plunderlaw2_book).accessLists.length) 0) ((⟨([] : List T_plunderlaw2_kept), ([] : List T_plunderlaw2_noted), 0⟩ : T_plunderlaw2_book).accessLists) :: L)) _ := h.sel 9 [3, 4, 5, 6, 7, 8, 2, 1, 0] (by kernel_rfl) (by kernel_rfl)
        refine loop_rule (β := Nat) id (fun m a w => ∃ ca445 : Option Addr, ∃ cc446 : Nat, ∃ ca447 : Option Addr, ∃ cc448 : Nat, ∃ ca450 : Option Addr, ∃ cc451 : Nat, ∃ ca452 : Option Addr, ∃ cc453 : Nat, ∃ ca455 : Option Addr, ∃ cc456 : Nat, ∃ ca457 : Option Addr, ∃ cc458 : Nat, ∃ S444 : T_plunderref2_Arena, ∃ S449 : T_plunderref2_Arena, ∃ S454 : T_plunderlaw2_book, ∃ g459 : Int, (plunderlaw2_walk_l4 K p2 p3 p4 m S444 S449 S454 g459) = some o443 ∧ ∃ j, Rep 141 (lk [(2, .slice va2 p2.length vc2), (3, .bool p3), (4, .bool p4), (11, .pointer (some ⟨Bn4, 0, none⟩)), (13, .pointer (some ⟨Bn12, 0, none⟩)), (15, .pointer none), (17, .pointer none), (19, .pointer (some ⟨b431, 0, none⟩)), (20, .int .i64 g459)] j) a ∧ Fit z (sepL (ob62 Bn4 S444 ca445 cc446 ca447 cc448 :: ro2 ca445 cc446 S444.Held :: ro90 ca447 cc448 S444.Book :: ob62 Bn12 S449 ca450 cc451 ca452 cc453 :: ro2 ca450 cc451 S449.Held :: ro90 ca452 cc453 S449.Book :: ob78 b431 S454 ca455 cc456 ca457 cc458 :: rn139 ca455 cc456 S454.numberLists :: rn142 ca457 cc458 S454.accessLists :: L)) w) K ⟨car5, ccr6, car7, ccr8, car13, ccr14, car15, ccr16, none, 0, none, 0, r1, r9, (⟨([] : List T_plunderlaw2_kept), ([] : List T_plunderlaw2_noted), 0⟩ : T_plunderlaw2_book), 0, H, j, hr, h⟩ ?_
        clear h hr a H; rintro k4 a w ⟨ca445, cc446, ca447, cc448, ca450, cc451, ca452, cc453, ca455, cc456, ca457, cc458, S444, S449, S454, g459, H, j, hr, h⟩
        cases k4 with
        | zero => exact absurd H (by simp [plunderlaw2_walk_l4])
        | succ k4 =>
          rw [plunderlaw2_walk_l4] at H
          refine wp_seq ?_
          refine wp_seq ?_
          refine wp_region_lit ?_
          refine ovs [67, 68, 69, 70] [.int .i64 g459, .slice va2 p2.length vc2, .int .i64 ((p2.length : Nat) : Int), .bool (decide (g459 < ((p2.length : Nat) : Int)))] hr ⟨rfl, rfl⟩ (by kernel_rfl) ?_; clear hr a; intro a hr
          refine wpList_nil ?_
          refine then_normal ?_
          by_cases c460 : g459 < ((p2.length : Nat) : Int)
          ·
            replace H := ifT c460 H
            refine cond_tt hr (b := (decide (g459 < ((p2.length : Nat) : Int)))) (decide_eq_true c460) ?_
            refine wp_skip ?_
            refine then_normal ?_
            refine wp_seq ?_
            refine wp_block ?_
            refine wp_seq ?_
            refine wp_region_lit ?_
            replace H := gd H; obtain ⟨c461, H⟩ := H
            refine ovs [73, 74] [.slice va2 p2.length vc2, .int .i64 g459] hr ⟨rfl, rfl⟩ (by kernel_rfl) ?_; clear hr a; intro a hr
            refine op_val (wn rfl) rfl rfl hr (v := .pointer (some ⟨blk va2, offs va2 + g459.toNat * 5, none⟩)) (ri_rd (k := .i64) (E := 30) (cc := vc2) rfl (by kernel_rfl) (by kernel_rfl) rfl (by kernel_rfl) (by kernel_rfl) hv2 c461) ?_; clear hr a; intro a hr
            refine op_val (wn rfl) rfl rfl hr (v := .agg #[.int .i64 ((at_ p2 g459.toNat).Side), .int .i64 ((at_ p2 g459.toNat).Kind), .int .i64 ((at_ p2 g459.toNat).Addr), .int .i64 ((at_ p2 g459.toNat).A), .int .i64 ((at_ p2 g459.toNat).B)]) (rlm (cs := [.int .i64 ((at_ p2 g459.toNat).Side), .int .i64 ((at_ p2 g459.toNat).Kind), .int .i64 ((at_ p2 g459.toNat).Addr), .int .i64 ((at_ p2 g459.toNat).A), .int .i64 ((at_ p2 g459.toNat).B)]) rfl (by kernel_rfl) (by kernel_rfl) (by kernel_rfl) ⟨hv2.cell c461 (h.dn 9) 0 rfl, hv2.cell c461 (h.dn 9) 1 rfl, hv2.cell c461 (h.dn 9) 2 rfl, hv2.cell c461 (h.dn 9) 3 rfl, hv2.cell c461 (h.dn 9) 4 rfl, trivial⟩) ?_; clear hr a; intro a hr
            refine op_new (wn rfl) rfl rfl hr h (vf := fun b => .pointer (some ⟨b, 0, none⟩)) (cs := #[.int .i64 0, .int .i64 0, .int .i64 0, .int .i64 0, .int .i64 0]) (T := 30) (by kernel_rfl) ?_; clear h hr a; intro b462 w a h hr
            refine op_stores (wn rfl) rfl hr rfl (by kernel_rfl) (by kernel_rfl) (vs := [.int .i64 ((at_ p2 g459.toNat).Side), .int .i64 ((at_ p2 g459.toNat).Kind), .int .i64 ((at_ p2 g459.toNat).Addr), .int .i64 ((at_ p2 g459.toNat).A), .int .i64 ((at_ p2 g459.toNat).B)]) rfl rfl (by kernel_rfl) h (i := 0) (cs' := #[.int .i64 ((at_ p2 g459.toNat).Side), .int .i64 ((at_ p2 g459.toNat).Kind), .int .i64 ((at_ p2 g459.toNat).Addr), .int .i64 ((at_ p2 g459.toNat).A), .int .i64 ((at_ p2 g459.toNat).B)]) rfl ?_; clear h; intro w h
            refine wpList_nil ?_
            replace h : Fit z (sepL (ob30 b462 (at_ p2 g459.toNat) :: ob62 Bn4 S444 ca445 cc446 ca447 cc448 :: ro2 ca445 cc446 S444.Held :: ro90 ca447 cc448 S444.Book :: ob62 Bn12 S449 ca450 cc451 ca452 cc453 :: ro2 ca450 cc451 S449.Held :: ro90 ca452 cc453 S449.Book :: ob78 b431 S454 ca455 cc456 ca457 cc458 :: rn139 ca455 cc456 S454.numberLists :: rn142 ca457 cc458 S454.accessLists :: L)) _ := h
            refine then_normal ?_
            refine wp_seq ?_
            refine wp_region_lit ?_
            refine ov hr (.bool false) (by kernel_rfl) ?_; clear hr a; intro a hr
            refine wpList_nil ?_
            refine then_normal ?_
            replace H := kd4 H; obtain ⟨o480, H, hK479⟩ := H
            refine cut_rule (β := Unit) (fun _ a w => ∃ ca464 : Option Addr, ∃ cc465 : Nat, ∃ ca466 : Option Addr, ∃ cc467 : Nat, ∃ ca469 : Option Addr, ∃ cc470 : Nat, ∃ ca471 : Option Addr, ∃ cc472 : Nat, ∃ ca474 : Option Addr, ∃ cc475 : Nat, ∃ ca476 : Option Addr, ∃ cc477 : Nat, ∃ S463 : T_plunderref2_Arena, ∃ S468 : T_plunderref2_Arena, ∃ S473 : T_plunderlaw2_book, ∃ g478 : Bool, (S463, S468, S473, g478) = o480 ∧ ∃ j, Rep 141 (lk [(2, .slice va2 p2.length vc2), (3, .bool p3), (4, .bool p4), (11, .pointer (some ⟨Bn4, 0, none⟩)), (13, .pointer (some ⟨Bn12, 0, none⟩)), (15, .pointer none), (17, .pointer none), (19, .pointer (some ⟨b431, 0, none⟩)), (20, .int .i64 g459), (22, .bool g478)] j) a ∧ Fit z (sepL (ob62 Bn4 S463 ca464 cc465 ca466 cc467 :: ro2 ca464 cc465 S463.Held :: ro90 ca466 cc467 S463.Book :: ob62 Bn12 S468 ca469 cc470 ca471 cc472 :: ro2 ca469 cc470 S468.Held :: ro90 ca471 cc472 S468.Book :: ob78 b431 S473 ca474 cc475 ca476 cc477 :: rn139 ca474 cc475 S473.numberLists :: rn142 ca476 cc477 S473.accessLists :: L)) w) ?_ ?_
            ·
              replace H := kd1 H; obtain ⟨o483, H, hK482⟩ := H
              refine cut_rule (β := Unit) (fun _ a w => ∃ g481 : Bool, g481 = o483 ∧ ∃ j, Rep 141 (lk [(2, .slice va2 p2.length vc2), (3, .bool p3), (4, .bool p4), (11, .pointer (some ⟨Bn4, 0, none⟩)), (13, .pointer (some ⟨Bn12, 0, none⟩)), (15, .pointer none), (17, .pointer none), (19, .pointer (some ⟨b431, 0, none⟩)), (20, .int .i64 g459), (21, .pointer (some ⟨b462, 0, none⟩)), (83, .bool g481)] j) a ∧ Fit z (sepL (ob62 Bn4 S444 ca445 cc446 ca447 cc448 :: ro2 ca445 cc446 S444.Held :: ro90 ca447 cc448 S444.Book :: ob62 Bn12 S449 ca450 cc451 ca452 cc453 :: ro2 ca450 cc451 S449.Held :: ro90 ca452 cc453 S449.Book :: ob78 b431 S454 ca455 cc456 ca457 cc458 :: rn139 ca455 cc456 S454.numberLists :: rn142 ca457 cc458 S454.accessLists :: ob30 b462 (at_ p2 g459.toNat) :: L)) w) ?_ ?_
              ·
                refine wp_region_lit ?_
                refine ovs [77, 78] [.bool p3, .bool p3] hr ⟨rfl, rfl⟩ (by kernel_rfl) ?_; clear hr a; intro a hr
                by_cases c484 : p3 = true
                ·
                  replace H := ifT c484 H
                  refine op_off ((wg hr rfl rfl rfl (b' := p3) (by kernel_rfl)).trans (by rw [show p3 = true from (c484)]; rfl)) rfl rfl hr ?_; clear hr a; intro a hr
                  refine op_off ((wg hr rfl rfl rfl (b' := p3) (by kernel_rfl)).trans (by rw [show p3 = true from (c484)]; rfl)) rfl rfl hr ?_; clear hr a; intro a hr
                  refine op_off ((wg hr rfl rfl rfl (b' := p3) (by kernel_rfl)).trans (by rw [show p3 = true from (c484)]; rfl)) rfl rfl hr ?_; clear hr a; intro a hr
                  refine op_off ((wg hr rfl rfl rfl (b' := p3) (by kernel_rfl)).trans (by rw [show p3 = true from (c484)]; rfl)) rfl rfl hr ?_; clear hr a; intro a hr
                  refine op_val (wn rfl) rfl rfl hr (v := .bool true) (rp_t (b := p3) rfl (by kernel_rfl) (c484) (by kernel_rfl)) ?_; clear hr a; intro a hr
                  refine wpList_nil ?_
                  refine then_normal ?_
                  replace hr := hr.fold2 [(2, .slice va2 p2.length vc2), (3, .bool p3), (4, .bool p4), (11, .pointer (some ⟨Bn4, 0, none⟩)), (13, .pointer (some ⟨Bn12, 0, none⟩)), (15, .pointer none), (17, .pointer none), (19, .pointer (some ⟨b431, 0, none⟩)), (20, .int .i64 g459), (21, .pointer (some ⟨b462, 0, none⟩)), (83, .bool true)] (by kernel_rfl); obtain ⟨j, hr⟩ := hr
                  replace h : Fit z (sepL (ob62 Bn4 S444 ca445 cc446 ca447 cc448 :: ro2 ca445 cc446 S444.Held :: ro90 ca447 cc448 S444.Book :: ob62 Bn12 S449 ca450 cc451 ca452 cc453 :: ro2 ca450 cc451 S449.Held :: ro90 ca452 cc453 S449.Book :: ob78 b431 S454 ca455 cc456 ca457 cc458 :: rn139 ca455 cc456 S454.numberLists :: rn142 ca457 cc458 S454.accessLists :: ob30 b462 (at_ p2 g459.toNat) :: L)) _ := h.sel 10 [1, 2, 3, 4, 5, 6, 7, 8, 9, 0] (by kernel_rfl) (by kernel_rfl)
                  exact ⟨(), true, sinj H, j, hr, h⟩
                ·
                  replace H := ifF c484 H
                  refine op_val ((wg hr rfl rfl rfl (b' := p3) (by kernel_rfl)).trans (by rw [show p3 = false from (bF c484)]; rfl)) rfl rfl hr (v := .pointer (some ⟨b462, 0, none⟩)) (by kernel_rfl) ?_; clear hr a; intro a hr
                  refine op_val ((wg hr rfl rfl rfl (b' := p3) (by kernel_rfl)).trans (by rw [show p3 = false from (bF c484)]; rfl)) rfl rfl hr (v := .int .i64 ((at_ p2 g459.toNat).Side)) (rl rfl (by kernel_rfl) (by kernel_rfl) (h.cell 0 rfl)) ?_; clear hr a; intro a hr
                  replace H := bd1 H; obtain ⟨r485, e486, H⟩ := H
                  have hc := plunderlaw2_mod_ok (H := e486) (h := h)
                  refine op_call ((wg hr rfl rfl rfl (b' := p3) (by kernel_rfl)).trans (by rw [show p3 = false from (bF c484)]; rfl)) rfl rfl hr (f := 23) (args := #[.int .i64 ((at_ p2 g459.toNat).Side), .int .i64 2]) (by kernel_rfl) hc ?_; clear hc h
                  rintro _ w ⟨rfl, h⟩; refine ⟨_, rfl, ?_⟩
                  clear hr a; intro a hr
                  refine op_val ((wg hr rfl rfl rfl (b' := p3) (by kernel_rfl)).trans (by rw [show p3 = false from (bF c484)]; rfl)) rfl rfl hr (v := .bool (r485 == (0 : Int))) (by kernel_rfl) ?_; clear hr a; intro a hr
                  refine op_val (wn rfl) rfl rfl hr (v := .bool (r485 == (0 : Int))) (rp_f (b := p3) rfl (by kernel_rfl) (bF c484) (by kernel_rfl)) ?_; clear hr a; intro a hr
                  refine wpList_nil ?_
                  refine then_normal ?_
                  replace hr := hr.fold2 [(2, .slice va2 p2.length vc2), (3, .bool p3), (4, .bool p4), (11, .pointer (some ⟨Bn4, 0, none⟩)), (13, .pointer (some ⟨Bn12, 0, none⟩)), (15, .pointer none), (17, .pointer none), (19, .pointer (some ⟨b431, 0, none⟩)), (20, .int .i64 g459), (21, .pointer (some ⟨b462, 0, none⟩)), (83, .bool (r485 == (0 : Int)))] (by kernel_rfl); obtain ⟨j, hr⟩ := hr
                  replace h : Fit z (sepL (ob62 Bn4 S444 ca445 cc446 ca447 cc448 :: ro2 ca445 cc446 S444.Held :: ro90 ca447 cc448 S444.Book :: ob62 Bn12 S449 ca450 cc451 ca452 cc453 :: ro2 ca450 cc451 S449.Held :: ro90 ca452 cc453 S449.Book :: ob78 b431 S454 ca455 cc456 ca457 cc458 :: rn139 ca455 cc456 S454.numberLists :: rn142 ca457 cc458 S454.accessLists :: ob30 b462 (at_ p2 g459.toNat) :: L)) _ := h.sel 10 [1, 2, 3, 4, 5, 6, 7, 8, 9, 0] (by kernel_rfl) (by kernel_rfl)
                  exact ⟨(), (r485 == (0 : Int)), sinj H, j, hr, h⟩
              clear h hr a; rintro _ a w ⟨g481, rfl, j, hr, h⟩
              replace H := kk1 hK482
              by_cases c487 : g481 = true
              ·
                replace H := ifT c487 H
                refine cond_tt hr (b := g481) (c487) ?_
                refine wp_region_lit ?_
                refine ovs [84, 85] [.pointer none, .pointer (some ⟨Bn4, 0, none⟩)] hr ⟨rfl, rfl⟩ (by kernel_rfl) ?_; clear hr a; intro a hr
                refine op_val (wn rfl) rfl rfl hr (v := .agg #[.int .i64 ((at_ p2 g459.toNat).Side), .int .i64 ((at_ p2 g459.toNat).Kind), .int .i64 ((at_ p2 g459.toNat).Addr), .int .i64 ((at_ p2 g459.toNat).A), .int .i64 ((at_ p2 g459.toNat).B)]) (rlm (cs := [.int .i64 ((at_ p2 g459.toNat).Side), .int .i64 ((at_ p2 g459.toNat).Kind), .int .i64 ((at_ p2 g459.toNat).Addr), .int .i64 ((at_ p2 g459.toNat).A), .int .i64 ((at_ p2 g459.toNat).B)]) rfl (by kernel_rfl) (by kernel_rfl) (by kernel_rfl) ⟨(h.pick 9).cell 0 rfl, (h.pick 9).cell 1 rfl, (h.pick 9).cell 2 rfl, (h.pick 9).cell 3 rfl, (h.pick 9).cell 4 rfl, trivial⟩) ?_; clear hr a; intro a hr
                replace H := bd3 H; obtain ⟨r488, S489, S490, e491, H⟩ := H
                refine ov hr (.pointer (some ⟨b431, 0, none⟩)) (by kernel_rfl) ?_; clear hr a; intro a hr
                replace h : Fit z (sepL (ob62 Bn4 S444 ca445 cc446 ca447 cc448 :: ro2 ca445 cc446 S444.Held :: ro90 ca447 cc448 S444.Book :: ob78 b431 S454 ca455 cc456 ca457 cc458 :: rn139 ca455 cc456 S454.numberLists :: rn142 ca457 cc458 S454.accessLists :: ob62 Bn12 S449 ca450 cc451 ca452 cc453 :: ro2 ca450 cc451 S449.Held :: ro90 ca452 cc453 S449.Book :: ob30 b462 (at_ p2 g459.toNat) :: L)) _ := h.sel 10 [0, 1, 2, 6, 7, 8, 3, 4, 5, 9] (by kernel_rfl) (by kernel_rfl)
                have hc := plunderlaw2_plays_nil_ok (H := e491) (h := h)
                refine op_call (wn rfl) rfl rfl hr (f := 69) (args := #[.pointer none, .pointer (some ⟨Bn4, 0, none⟩), .agg #[.int .i64 ((at_ p2 g459.toNat).Side), .int .i64 ((at_ p2 g459.toNat).Kind), .int .i64 ((at_ p2 g459.toNat).Addr), .int .i64 ((at_ p2 g459.toNat).A), .int .i64 ((at_ p2 g459.toNat).B)], .pointer (some ⟨b431, 0, none⟩)]) (by kernel_rfl) hc ?_; clear hc h
                rintro _ w ⟨caq492, ccq493, caq494, ccq495, caq496, ccq497, caq498, ccq499, rfl, h⟩; refine ⟨_, rfl, ?_⟩
                clear hr a; intro a hr
                refine ov hr (.bool r488) (by kernel_rfl) ?_; clear hr a; intro a hr
                refine wpList_nil ?_
                refine then_normal ?_
                replace hr := hr.fold2 [(2, .slice va2 p2.length vc2), (3, .bool p3), (4, .bool p4), (11, .pointer (some ⟨Bn4, 0, none⟩)), (13, .pointer (some ⟨Bn12, 0, none⟩)), (15, .pointer none), (17, .pointer none), (19, .pointer (some ⟨b431, 0, none⟩)), (20, .int .i64 g459), (22, .bool r488)] (by kernel_rfl); obtain ⟨j, hr⟩ := hr
                replace h : Fit z (sepL (ob62 Bn4 S489 caq492 ccq493 caq494 ccq495 :: ro2 caq492 ccq493 S489.Held :: ro90 caq494 ccq495 S489.Book :: ob62 Bn12 S449 ca450 cc451 ca452 cc453 :: ro2 ca450 cc451 S449.Held :: ro90 ca452 cc453 S449.Book :: ob78 b431 S490 caq496 ccq497 caq498 ccq499 :: rn139 caq496 ccq497 S490.numberLists :: rn142 caq498 ccq499 S490.accessLists :: L)) _ := h.sel 10 [0, 1, 2, 6, 7, 8, 3, 4, 5] (by kernel_rfl) (by kernel_rfl)
                exact ⟨(), caq492, ccq493, caq494, ccq495, ca450, cc451, ca452, cc453, caq496, ccq497, caq498, ccq499, S489, S449, S490, r488, sinj H, j, hr, h⟩
              ·
                replace H := ifF c487 H
                refine cond_ff hr (b := g481) (bF c487) ?_
                refine wp_region_lit ?_
                refine ovs [89, 90] [.pointer none, .pointer (some ⟨Bn12, 0, none⟩)] hr ⟨rfl, rfl⟩ (by kernel_rfl) ?_; clear hr a; intro a hr
                refine op_val (wn rfl) rfl rfl hr (v := .agg #[.int .i64 ((at_ p2 g459.toNat).Side), .int .i64 ((at_ p2 g459.toNat).Kind), .int .i64 ((at_ p2 g459.toNat).Addr), .int .i64 ((at_ p2 g459.toNat).A), .int .i64 ((at_ p2 g459.toNat).B)]) (rlm (cs := [.int .i64 ((at_ p2 g459.toNat).Side), .int .i64 ((at_ p2 g459.toNat).Kind), .int .i64 ((at_ p2 g459.toNat).Addr), .int .i64 ((at_ p2 g459.toNat).A), .int .i64 ((at_ p2 g459.toNat).B)]) rfl (by kernel_rfl) (by kernel_rfl) (by kernel_rfl) ⟨(h.pick 9).cell 0 rfl, (h.pick 9).cell 1 rfl, (h.pick 9).cell 2 rfl, (h.pick 9).cell 3 rfl, (h.pick 9).cell 4 rfl, trivial⟩) ?_; clear hr a; intro a hr
                replace H := bd3 H; obtain ⟨r500, S501, S502, e503, H⟩ := H
                refine ov hr (.pointer (some ⟨b431, 0, none⟩)) (by kernel_rfl) ?_; clear hr a; intro a hr
                replace h : Fit z (sepL (ob62 Bn12 S449 ca450 cc451 ca452 cc453 :: ro2 ca450 cc451 S449.Held :: ro90 ca452 cc453 S449.Book :: ob78 b431 S454 ca455 cc456 ca457 cc458 :: rn139 ca455 cc456 S454.numberLists :: rn142 ca457 cc458 S454.accessLists :: ob62 Bn4 S444 ca445 cc446 ca447 cc448 :: ro2 ca445 cc446 S444.Held :: ro90 ca447 cc448 S444.Book :: ob30 b462 (at_ p2 g459.toNat) :: L)) _ := h.sel 10 [3, 4, 5, 6, 7, 8, 0, 1, 2, 9] (by kernel_rfl) (by kernel_rfl)
                have hc := plunderlaw2_plays_nil_ok (H := e503) (h := h)
                refine op_call (wn rfl) rfl rfl hr (f := 69) (args := #[.pointer none, .pointer (some ⟨Bn12, 0, none⟩), .agg #[.int .i64 ((at_ p2 g459.toNat).Side), .int .i64 ((at_ p2 g459.toNat).Kind), .int .i64 ((at_ p2 g459.toNat).Addr), .int .i64 ((at_ p2 g459.toNat).A), .int .i64 ((at_ p2 g459.toNat).B)], .pointer (some ⟨b431, 0, none⟩)]) (by kernel_rfl) hc ?_; clear hc h
                rintro _ w ⟨caq504, ccq505, caq506, ccq507, caq508, ccq509, caq510, ccq511, rfl, h⟩; refine ⟨_, rfl, ?_⟩
                clear hr a; intro a hr
                refine ov hr (.bool r500) (by kernel_rfl) ?_; clear hr a; intro a hr
                refine wpList_nil ?_
                refine then_normal ?_
                replace hr := hr.fold2 [(2, .slice va2 p2.length vc2), (3, .bool p3), (4, .bool p4), (11, .pointer (some ⟨Bn4, 0, none⟩)), (13, .pointer (some ⟨Bn12, 0, none⟩)), (15, .pointer none), (17, .pointer none), (19, .pointer (some ⟨b431, 0, none⟩)), (20, .int .i64 g459), (22, .bool r500)] (by kernel_rfl); obtain ⟨j, hr⟩ := hr
                replace h : Fit z (sepL (ob62 Bn4 S444 ca445 cc446 ca447 cc448 :: ro2 ca445 cc446 S444.Held :: ro90 ca447 cc448 S444.Book :: ob62 Bn12 S501 caq504 ccq505 caq506 ccq507 :: ro2 caq504 ccq505 S501.Held :: ro90 caq506 ccq507 S501.Book :: ob78 b431 S502 caq508 ccq509 caq510 ccq511 :: rn139 caq508 ccq509 S502.numberLists :: rn142 caq510 ccq511 S502.accessLists :: L)) _ := h.sel 10 [6, 7, 8, 0, 1, 2, 3, 4, 5] (by kernel_rfl) (by kernel_rfl)
                exact ⟨(), ca445, cc446, ca447, cc448, caq504, ccq505, caq506, ccq507, caq508, ccq509, caq510, ccq511, S444, S501, S502, r500, sinj H, j, hr, h⟩
            clear h hr a; rintro _ a w ⟨ca464, cc465, ca466, cc467, ca469, cc470, ca471, cc472, ca474, cc475, ca476, cc477, S463, S468, S473, g478, rfl, j, hr, h⟩
            replace H := kk4 hK479
            refine wp_seq ?_
            refine wp_seq ?_
            refine wp_region_lit ?_
            refine ovs [94, 95] [.bool g478, .bool (!g478)] hr ⟨rfl, rfl⟩ (by kernel_rfl) ?_; clear hr a; intro a hr
            refine wpList_nil ?_
            refine then_normal ?_
            by_cases c512 : g478 = true
            ·
              replace H := ifT c512 H
              refine cond_ff hr (b := (!g478)) (by rw [show g478 = true from (c512)]; rfl) ?_
              refine wp_skip ?_
              refine then_normal ?_
              refine wp_seq ?_
              refine wp_region_lit ?_
              refine ov hr (.bool p4) (by kernel_rfl) ?_; clear hr a; intro a hr
              refine wpList_nil ?_
              refine then_normal ?_
              by_cases c513 : p4 = true
              ·
                replace H := ifT c513 H
                refine cond_tt hr (b := p4) (c513) ?_
                refine wp_seq ?_
                refine wp_region_lit ?_
                replace H := bd1 H; obtain ⟨r514, e515, H⟩ := H
                refine ov hr (.pointer (some ⟨b431, 0, none⟩)) (by kernel_rfl) ?_; clear hr a; intro a hr
                replace h : Fit z (sepL (ob78 b431 S473 ca474 cc475 ca476 cc477 :: rn139 ca474 cc475 S473.numberLists :: rn142 ca476 cc477 S473.accessLists :: ob62 Bn4 S463 ca464 cc465 ca466 cc467 :: ro2 ca464 cc465 S463.Held :: ro90 ca466 cc467 S463.Book :: ob62 Bn12 S468 ca469 cc470 ca471 cc472 :: ro2 ca469 cc470 S468.Held :: ro90 ca471 cc472 S468.Book :: L)) _ := h.sel 9 [6, 7, 8, 0, 1, 2, 3, 4, 5] (by kernel_rfl) (by kernel_rfl)
                have hc := plunderlaw2_book_stands_ok (H := e515) (h := h)
                refine op_call (wn rfl) rfl rfl hr (f := 45) (args := #[.pointer (some ⟨b431, 0, none⟩)]) (by kernel_rfl) hc ?_; clear hc h
                rintro _ w ⟨rfl, h⟩; refine ⟨_, rfl, ?_⟩
                clear hr a; intro a hr
                refine ov hr (.bool r514) (by kernel_rfl) ?_; clear hr a; intro a hr
                refine wpList_nil ?_
                refine then_normal ?_
                refine wp_seq ?_
                refine wp_region_lit ?_
                refine ovs [99, 100] [.bool r514, .bool (!r514)] hr ⟨rfl, rfl⟩ (by kernel_rfl) ?_; clear hr a; intro a hr
                refine wpList_nil ?_
                refine then_normal ?_
                by_cases c516 : r514 = true
                ·
                  replace H := ifT c516 H
                  refine cond_ff hr (b := (!r514)) (by rw [show r514 = true from (c516)]; rfl) ?_
                  refine wp_skip ?_
                  refine blk_normal ?_
                  refine then_normal ?_
                  refine wp_region_lit ?_
                  refine ovs [71, 72, 20] [.int .i64 g459, .int .i64 (wi (g459 + (1 : Int))), .int .i64 (wi (g459 + (1 : Int)))] hr ⟨rfl, rfl⟩ (by kernel_rfl) ?_; clear hr a; intro a hr
                  refine wpList_nil ?_
                  refine then_normal ?_
                  replace hr := hr.fold2 [(2, .slice va2 p2.length vc2), (3, .bool p3), (4, .bool p4), (11, .pointer (some ⟨Bn4, 0, none⟩)), (13, .pointer (some ⟨Bn12, 0, none⟩)), (15, .pointer none), (17, .pointer none), (19, .pointer (some ⟨b431, 0, none⟩)), (20, .int .i64 (wi (g459 + (1 : Int))))] (by kernel_rfl); obtain ⟨j, hr⟩ := hr
                  replace h : Fit z (sepL (ob62 Bn4 S463 ca464 cc465 ca466 cc467 :: ro2 ca464 cc465 S463.Held :: ro90 ca466 cc467 S463.Book :: ob62 Bn12 S468 ca469 cc470 ca471 cc472 :: ro2 ca469 cc470 S468.Held :: ro90 ca471 cc472 S468.Book :: ob78 b431 S473 ca474 cc475 ca476 cc477 :: rn139 ca474 cc475 S473.numberLists :: rn142 ca476 cc477 S473.accessLists :: L)) _ := h.sel 9 [3, 4, 5, 6, 7, 8, 0, 1, 2] (by kernel_rfl) (by kernel_rfl)
                  exact ⟨_, ⟨ca464, cc465, ca466, cc467, ca469, cc470, ca471, cc472, ca474, cc475, ca476, cc477, S463, S468, S473, (wi (g459 + (1 : Int))), H, j, hr, h⟩, Nat.lt_succ_self _⟩
                ·
                  replace H := ifF c516 H
                  refine cond_tt hr (b := (!r514)) (by rw [show r514 = false from (bF c516)]; rfl) ?_
                  refine wp_seq ?_
                  refine wp_region_lit ?_
                  refine ov hr (.bool false) (by kernel_rfl) ?_; clear hr a; intro a hr
                  refine wpList_nil ?_
                  refine then_normal ?_
                  refine wp_ret ?_
                  refine blk_ret ?_
                  refine then_ret ?_
                  refine then_ret ?_
                  refine blk_ret ?_
                  refine then_ret ?_
                  refine end_ret1 (v := .bool false) rfl hr (by kernel_rfl) ?_
                  replace H := jx2 H hK442
                  replace h : Fit z (sepL (L)) _ := h.sel 9 [] (by kernel_rfl) (by kernel_rfl)
                  replace H := ej1 H; subst H
                  exact ⟨rfl, h⟩
              ·
                replace H := ifF c513 H
                refine cond_ff hr (b := p4) (bF c513) ?_
                refine wp_skip ?_
                refine blk_normal ?_
                refine then_normal ?_
                refine wp_region_lit ?_
                refine ovs [71, 72, 20] [.int .i64 g459, .int .i64 (wi (g459 + (1 : Int))), .int .i64 (wi (g459 + (1 : Int)))] hr ⟨rfl, rfl⟩ (by kernel_rfl) ?_; clear hr a; intro a hr
                refine wpList_nil ?_
                refine then_normal ?_
                replace hr := hr.fold2 [(2, .slice va2 p2.length vc2), (3, .bool p3), (4, .bool p4), (11, .pointer (some ⟨Bn4, 0, none⟩)), (13, .pointer (some ⟨Bn12, 0, none⟩)), (15, .pointer none), (17, .pointer none), (19, .pointer (some ⟨b431, 0, none⟩)), (20, .int .i64 (wi (g459 + (1 : Int))))] (by kernel_rfl); obtain ⟨j, hr⟩ := hr
                exact ⟨_, ⟨ca464, cc465, ca466, cc467, ca469, cc470, ca471, cc472, ca474, cc475, ca476, cc477, S463, S468, S473, (wi (g459 + (1 : Int))), H, j, hr, h⟩, Nat.lt_succ_self _⟩
            ·
              replace H := ifF c512 H
              refine cond_tt hr (b := (!g478)) (by rw [show g478 = false from (bF c512)]; rfl) ?_
              refine wp_seq ?_
              refine wp_region_lit ?_
              refine ov hr (.bool false) (by kernel_rfl) ?_; clear hr a; intro a hr
              refine wpList_nil ?_
              refine then_normal ?_
              refine wp_ret ?_
              refine then_ret ?_
              refine blk_ret ?_
              refine then_ret ?_
              refine then_ret ?_
              refine blk_ret ?_
              refine then_ret ?_
              refine end_ret1 (v := .bool false) rfl hr (by kernel_rfl) ?_
              replace H := jx2 H hK442
              replace h : Fit z (sepL (L)) _ := h.sel 9 [] (by kernel_rfl) (by kernel_rfl)
              replace H := ej1 H; subst H
              exact ⟨rfl, h⟩
          ·
            replace H := ifF c460 H
            refine cond_ff hr (b := (decide (g459 < ((p2.length : Nat) : Int)))) (decide_eq_false c460) ?_
            refine wp_exit ?_
            refine then_exit ?_
            refine then_exit ?_
            refine blk_here ?_
            refine then_normal ?_
            replace hr := hr.fold2 [(11, .pointer (some ⟨Bn4, 0, none⟩)), (13, .pointer (some ⟨Bn12, 0, none⟩)), (15, .pointer none), (17, .pointer none)] (by kernel_rfl); obtain ⟨j, hr⟩ := hr
            replace h : Fit z (sepL (ob62 Bn4 S444 ca445 cc446 ca447 cc448 :: ro2 ca445 cc446 S444.Held :: ro90 ca447 cc448 S444.Book :: ob62 Bn12 S449 ca450 cc451 ca452 cc453 :: ro2 ca450 cc451 S449.Held :: ro90 ca452 cc453 S449.Book :: L)) _ := h.sel 9 [0, 1, 2, 3, 4, 5] (by kernel_rfl) (by kernel_rfl)
            exact ⟨(), ca445, cc446, ca447, cc448, ca450, cc451, ca452, cc453, S444, S449, sinj H, j, hr, h⟩
      clear h hr a; rintro _ a w ⟨ca433, cc434, ca435, cc436, ca438, cc439, ca440, cc441, S432, S437, rfl, j, hr, h⟩
      replace H := jk2 hK442
      refine wp_seq ?_
      refine wp_seq ?_
      refine wp_region_lit ?_
      refine ovs [101, 102, 103] [.pointer none, .bool true, .bool true] hr ⟨rfl, rfl⟩ (by kernel_rfl) ?_; clear hr a; intro a hr
      refine op_off ((wg hr rfl rfl rfl (b' := true) (by kernel_rfl)).trans rfl) rfl rfl hr ?_; clear hr a; intro a hr
      refine op_off ((wg hr rfl rfl rfl (b' := true) (by kernel_rfl)).trans rfl) rfl rfl hr ?_; clear hr a; intro a hr
      refine ov hr (.bool true) (by kernel_rfl) ?_; clear hr a; intro a hr
      refine wpList_nil ?_
      refine then_normal ?_
      refine cond_tt hr (b := true) rfl ?_
      refine wp_seq ?_
      refine wp_region_lit ?_
      refine ov hr (.bool true) (by kernel_rfl) ?_; clear hr a; intro a hr
      refine wpList_nil ?_
      refine then_normal ?_
      refine wp_ret ?_
      refine then_ret ?_
      refine end_ret1 (v := .bool true) rfl hr (by kernel_rfl) ?_
      replace h : Fit z (sepL (L)) _ := h.sel 6 [] (by kernel_rfl) (by kernel_rfl)
      replace H := ej1 H; subst H
      exact ⟨rfl, h⟩


end Go.Proofs.Ytacgigkonoegiaa.Mo

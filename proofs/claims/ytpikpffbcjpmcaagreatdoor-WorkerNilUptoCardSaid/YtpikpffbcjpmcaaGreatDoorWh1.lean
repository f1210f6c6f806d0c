/- what the functions compute, as plain Lean functions, and that they do -/
import Derived.Test.YtpikpffbcjpmcaaGreatDoorWh0
namespace Go.Proofs.YtpikpffbcjpmcaaGreatDoor.Md
open Go Go.RowKit Go.Proofs.YtpikpffbcjpmcaaGreatDoor.SL Go.Proofs.YtpikpffbcjpmcaaGreatDoor.GX
set_option linter.unusedVariables false
set_option linter.unusedSimpArgs false
set_option maxRecDepth 100000
set_option maxHeartbeats 4000000
noncomputable section
variable {z w : World} {L : List HProp}
def script_along_1 (p0:Int) (p1:List Int) (p2:Bool):Option (Int × Int) :=
  ob1 ((if p0=((p1.length:Nat):Int) then (if p2=true then some 0 else some p0) else some p0)) (fun g3=>(if g3=((p1.length:Nat):Int) then some (0,g3) else if inr_ (wi ((wi (g3+1)) - 1)) p1.length then some ((at_ p1 (wi ((wi (g3+1)) - 1)).toNat),wi (g3+1)) else none))
theorem script_along_1_ok {p0 r0 q0:Int} {p1:List Int} {p2:Bool} {B0 B1 cc2 B2:Nat} {ca1:Option Addr} (H:script_along_1 p0 p1 p2=some (r0,q0)) (h:Fit z (sepL (pts B0 (.cells #[vI p0] 3)::pts B1 (.cells #[.slice ca1 p1.length cc2] 28)::ro3 ca1 cc2 p1::pts B2 (.cells #[vB p2] 4)::L)) w) :
    Calls Tryz.prog 84 #[pA B0 0,pA B1 0,pA B2 0] w fun e w=>e=.returned (vI r0)∧Fit z (sepL (pts B0 (.cells #[vI q0] 3)::pts B1 (.cells #[.slice ca1 p1.length cc2] 28)::ro3 ca1 cc2 p1::pts B2 (.cells #[vB p2] 4)::L)) w:=by
 unfold script_along_1 at H;refine ke Tryz.func84 22 rfl fun j=>ks<|ko [U]<|kn<|qd1 H fun o5 H hK4=>fun _ r=>cut_rule (β:=Unit) (fun _ a w=>∃ g3:Int,g3=o5∧∃ j,Rep 22 (lk [(0,pA B0 0),(1,pA B1 0)] j) a∧Fit z (sepL (pts B0 (.cells #[vI g3] 3)::pts B1 (.cells #[.slice ca1 p1.length cc2] 28)::ro3 ca1 cc2 p1::pts B2 (.cells #[vB p2] 4)::L)) w) ?_ ?_
 · refine qq r<|ks<|kL h 0<|kL (h.pick 1) 0<|ko [vI ((p1.length:Nat):Int),vB (p0==((p1.length:Nat):Int)),vB (p0==((p1.length:Nat):Int))]<|qI H (fun c6 H=>?_) fun c6 H=>?_
   · refine fun _ r=>ld (wgt r (beq_iff_eq.mpr c6)) r (vB p2) ((h.pick 3).cell 0 rfl)<|?_;refine kT' (beq_iff_eq.mpr c6) (vB p2)<|kn<|kcV H (fun c7 H=>?_) fun c7 H=>?_
     · refine wl<|kS h 0 (pts B0 (.cells #[vI 0] 3)) fun w h=>kn<|?_;exact fun _ r=>⟨(),0,sinj H,r.fj h⟩
     refine wk<|tn<|?_;exact fun _ r=>⟨(),p0,sinj H,r.fj h⟩
   refine koffl (bN c6) [9]<|kF' (bN c6) (vB false)<|kn<|fun _ r=>cond_ff r (b:=false) rfl<|qq r<|wk<|tn<|?_;exact fun _ r=>⟨(),p0,sinj H,r.fj h⟩
 clear h r;rintro _ a w ⟨g3,rfl,j,r,h⟩;replace H:=kk1 hK4;refine qq r<|wq<|ks<|kL h 0<|kL (h.pick 1) 0<|ko [vI ((p1.length:Nat):Int),vB (g3==((p1.length:Nat):Int))]<|kn<|kcD H (fun c8 H=>?_) fun c8 H=>?_
 · refine ks<|ko [U]<|kn<|wr<|tr<|?_;cases H;exact xy0 h
 refine wk<|tn<|ks<|kL h 0<|ko [vI (wi (g3+1))]<|kS h 0 (pts B0 (.cells #[vI (wi (g3+1))] 3)) fun w h=>kn<|ks<|kL (h.pick 1) 0<|kL h 0<|qg H fun c9 H=>ko [vI (wi ((wi (g3+1)) - 1))]<|ki (h.pick 2) c9<|fun _ r=>ld (wn rfl) r (vI (at_ p1 (wi ((wi (g3+1)) - 1)).toNat)) ((h.pick 2).row_cell encZ_i64_ok (f:=0) (at_ok c9) rfl)<|?_;refine ko [vI (at_ p1 (wi ((wi (g3+1)) - 1)).toNat)]<|kn<|wr<|?_;cases H;exact xy0 h
end
end Go.Proofs.YtpikpffbcjpmcaaGreatDoor.Md
